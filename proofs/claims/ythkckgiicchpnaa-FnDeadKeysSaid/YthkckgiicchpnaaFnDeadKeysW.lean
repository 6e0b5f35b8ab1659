/-
  The walks: a call hands back what its plain function computes, where that has a value. No other conditions.
-/
import Derived.Test.YthkckgiicchpnaaFnDeadKeysM
import Derived.Test.YthkckgiicchpnaaChecked
namespace Go.Proofs.Ythkckgiicchpnaa
open Go.RowKit Go.Proofs
set_option linter.unusedVariables false
set_option linter.unusedSimpArgs false

theorem follows : Try.prog.follows .mixedOrders = true := by kernel_rfl

def Key.enc (x : Key) : List Value := [str x.low, str x.high, .bool x.dead]
def fKey : FRp Key := ⟨3, Key.enc, fun _ => rfl, by decide, fun x u hu => by
  simp only [Key.enc, List.mem_cons, List.not_mem_nil, or_false] at hu
  rcases hu with rfl | rfl | rfl <;> rfl⟩

def Accent.enc (x : Accent) : List Value := [str x.mark, str x.letter, str x.made]
def fAccent : FRp Accent := ⟨3, Accent.enc, fun _ => rfl, by decide, fun x u hu => by
  simp only [Accent.enc, List.mem_cons, List.not_mem_nil, or_false] at hu
  rcases hu with rfl | rfl | rfl <;> rfl⟩

def Press.enc (x : Press) : List Value := [.int .i64 x.key, .bool x.shift]
def fPress : FRp Press := ⟨2, Press.enc, fun _ => rfl, by decide, fun x u hu => by
  simp only [Press.enc, List.mem_cons, List.not_mem_nil, or_false] at hu
  rcases hu with rfl | rfl <;> rfl⟩

theorem pl157 : PlacesOk Try.prog 157 [(0, 1), (1, 1), (2, 1)] := ⟨_, Try.runUnderlying157, fun w => by simp [Try.sizeOf3, Try.sizeOf22, Try.sizeOf155]⟩
theorem fld157_1 : FieldOk Try.prog 157 1 1 3 0 := ⟨_, _, Try.runUnderlying157, rfl, rfl, rfl, Try.sizeOf3⟩
theorem fld157_0 : FieldOk Try.prog 157 0 0 22 0 := ⟨_, _, Try.runUnderlying157, rfl, rfl, rfl, Try.sizeOf22⟩
theorem fld157_2 : FieldOk Try.prog 157 2 2 155 0 := ⟨_, _, Try.runUnderlying157, rfl, rfl, rfl, Try.sizeOf155⟩
theorem pl41 : PlacesOk Try.prog 41 [(0, 1), (1, 1), (2, 1)] := ⟨_, Try.runUnderlying41, fun w => by simp [Try.sizeOf4, Try.sizeOf9]⟩
set_option maxRecDepth 100000 in
theorem el41 : ElemOk Try.prog 41 3 (fKey.enc (Key.mk [] [] false)) := ⟨_, _, Try.type41, rfl, rfl, rfl, by decide⟩
theorem pl101 : PlacesOk Try.prog 101 [(0, 1), (1, 1), (2, 1)] := ⟨_, Try.runUnderlying101, fun w => by simp [Try.sizeOf9]⟩
theorem fld101_1 : FieldOk Try.prog 101 1 1 9 0 := ⟨_, _, Try.runUnderlying101, rfl, rfl, rfl, Try.sizeOf9⟩
theorem fld41_0 : FieldOk Try.prog 41 0 0 9 0 := ⟨_, _, Try.runUnderlying41, rfl, rfl, rfl, Try.sizeOf9⟩
theorem fld41_1 : FieldOk Try.prog 41 1 1 9 0 := ⟨_, _, Try.runUnderlying41, rfl, rfl, rfl, Try.sizeOf9⟩
theorem fld101_0 : FieldOk Try.prog 101 0 0 9 0 := ⟨_, _, Try.runUnderlying101, rfl, rfl, rfl, Try.sizeOf9⟩
theorem fld101_2 : FieldOk Try.prog 101 2 2 9 0 := ⟨_, _, Try.runUnderlying101, rfl, rfl, rfl, Try.sizeOf9⟩
theorem fld41_2 : FieldOk Try.prog 41 2 2 4 0 := ⟨_, _, Try.runUnderlying41, rfl, rfl, rfl, Try.sizeOf4⟩
set_option maxRecDepth 100000 in
theorem el101 : ElemOk Try.prog 101 3 (fAccent.enc (Accent.mk [] [] [])) := ⟨_, _, Try.type101, rfl, rfl, rfl, by decide⟩
theorem pl37 : PlacesOk Try.prog 37 [(0, 1), (1, 1)] := ⟨_, Try.runUnderlying37, fun w => by simp [Try.sizeOf2, Try.sizeOf4]⟩
set_option maxRecDepth 100000 in
theorem el37 : ElemOk Try.prog 37 2 (fPress.enc (Press.mk 0 false)) := ⟨_, _, Try.type37, rfl, rfl, rfl, by decide⟩
theorem fld37_0 : FieldOk Try.prog 37 0 0 2 0 := ⟨_, _, Try.runUnderlying37, rfl, rfl, rfl, Try.sizeOf2⟩
theorem fld37_1 : FieldOk Try.prog 37 1 1 4 0 := ⟨_, _, Try.runUnderlying37, rfl, rfl, rfl, Try.sizeOf4⟩
theorem eq37 : EqOk Try.prog 37 Press.enc Press.beq := ⟨Try.eqGuardType37, fun x y w => by
  have hf : Try.prog.fieldsOf 37 = #[{ name := "Key", type := 2, offset := 0, embedded := false, tag := "", pkgPath := "", byteOffset := 0 }, { name := "Shift", type := 4, offset := 1, embedded := false, tag := "", pkgPath := "", byteOffset := 8 }] := by kernel_rfl
  have ht : Try.prog.underlying 37 = some (.struct (Try.prog.fieldsOf 37)) := by rw [hf]; exact Try.underlying37
  rw [run_equalIn_struct w 9999 37 _ _ ht Try.stoodInHeld37, hf]
  obtain ⟨a0, a1⟩ := x
  obtain ⟨b0, b1⟩ := y
  simp only [Op.eqFields, Press.enc, Press.beq]
  simp [part, str, Try.isAgg2, Try.isAgg4, run_equalIn_int _ _ _ _ _ _ _ Try.underlying2, run_equalIn_bool' _ _ _ _ _ Try.underlying4, ByteArray.toList_eq]
  (repeat' split) <;> simp_all⟩

set_option maxRecDepth 100000 in
set_option maxHeartbeats 1000000 in
theorem ok_w_f6big {code1 : List UInt8} {r : Bool} (hm : w_f6big code1 = some r) (w : World) (v2 : Value) (hr3 : RdS w (cx w).Fz v2 fByte.rp code1) :
    Calls Try.prog 9 #[v2] w (Ret (cx w) (.bool r)) := by
  unfold w_f6big at hm
  refine Calls.enter [v2] Try.func9 rfl Try.ntmps9 rfl ?_
  refine WJ.seq ?_
  refine WJ.quiet ?_
  refine QJ.step (YldS.yld (y_assign rfl)) rfl ?_
  refine QJ.done ?_
  refine PJ.next ?_
  refine WJ.seq ?_
  refine WJ.quiet ?_
  refine QJ.step (YldS.yld (y_move rfl)) rfl ?_
  refine QJ.step (YldS.yld (y_lenS Try.runUnderlying22 hr3 rfl)) rfl ?_
  refine QJ.step (YldS.yld (y_bin rfl rfl rfl)) rfl ?_
  refine QJ.step (YldS.yld (y_assign rfl)) rfl ?_
  refine QJ.done ?_
  refine PJ.next ?_
  refine WJ.ret ?_
  obtain rfl := Option.some.inj hm
  refine PJ.sel (L' := []) [] ⟨List.nodup_nil, rfl⟩ ?_
  exact PJ.retn (vs := [.bool (decide ((List.length code1 : Int) > 4096))]) Try.results9 ⟨rfl, trivial⟩ ⟨rfl, rfl⟩

set_option maxRecDepth 100000 in
set_option maxHeartbeats 1000000 in
theorem ok_s_l00From {code1 : List UInt8} {r : L00Src} (hm : s_l00From code1 = some r) (w : World) (v2 : Value) (hr3 : RdS w (cx w).Fz v2 fByte.rp code1) :
    Calls Try.prog 73 #[v2] w (RetG (cx w) fun u L => ∃ (u1 : Nat), (u = pt u1 0 ∧ L = [box u1 157 [v2, .int .i64 r.at_, .int .u64 r.seed]])) := by
  unfold s_l00From at hm
  refine Calls.enter [v2] Try.func73 rfl Try.ntmps73 rfl ?_
  refine WJ.seq ?_
  refine WJ.quiet ?_
  refine QJ.step (YldS.yld (y_assign rfl)) rfl ?_
  refine QJ.done ?_
  refine PJ.next ?_
  refine WJ.seq ?_
  refine WJ.reg ?_
  refine SJ.q (YldS.yld (y_move rfl)) rfl ?_
  refine SJ.q (YldS.yld (y_build (parts := [(0, .tmp 3)]) (places := [(0, 1), (1, 1), (2, 1)]) (r := [v2, .int .i64 0, .int .u64 0]) pl157 Try.zeroValue157 rfl rfl (show _ = [(0, [v2])] from by simp only [List.map, RdS.cells1 hr3]) rfl)) rfl ?_
  refine SJ.box (cs := [v2, .int .i64 0, .int .u64 0]) rfl rfl rfl fun g4 => ?_
  refine SJ.q (YldS.yld (y_assign rfl)) rfl ?_
  refine SJ.nil ?_
  refine PJ.next ?_
  refine WJ.ret ?_
  obtain rfl := Option.some.inj hm
  refine PJ.sel (L' := [box g4 157 [v2, .int .i64 0, .int .u64 0]]) [0] ⟨by decide, rfl⟩ ?_
  exact PJ.retn (vs := [pt g4 0]) Try.results73 ⟨rfl, trivial⟩ ⟨_, rfl, rfl⟩

set_option maxRecDepth 100000 in
set_option maxHeartbeats 1000000 in
theorem ok_s_l00Src_next {s1 : L00Src} {g2 : Nat} {r : Int × L00Src} (hm : s_l00Src_next s1 = some r) (w : World) (S : Nat → Prop) (v3 : Value) (hr4 : RdS w (Cx.Fz ⟨w, S⟩) v3 fByte.rp s1.code) (hA : (box g2 157 [v3, .int .i64 s1.at_, .int .u64 s1.seed]).holds w S) :
    Calls Try.prog 121 #[pt g2 0] w (RetG ⟨w, S⟩ fun u L => (u = .int .i64 r.1 ∧ L = [box g2 157 [v3, .int .i64 r.2.at_, .int .u64 r.2.seed]])) := by
  unfold s_l00Src_next at hm
  refine Calls.enter1 hA [pt g2 0] Try.func121 rfl Try.ntmps121 rfl ?_
  refine WJ.seq ?_
  refine WJ.quiet ?_
  refine QJ.step (YldS.yld (y_assign rfl)) rfl ?_
  refine QJ.done ?_
  refine PJ.next ?_
  refine WJ.seq ?_
  refine WJ.quiet ?_
  refine QJ.step (YldS.yld (y_assign rfl)) rfl ?_
  refine QJ.done ?_
  refine PJ.next ?_
  obtain ⟨kj6, hk7, hm⟩ := withK_open hm
  refine WJ.join (X := Int) (fun (x : Int) => kj6 x = some r) (fun (x : Int) => [(0, pt g2 0), (3, .int .i64 x)]) (fun (x : Int) => [box g2 157 [v3, .int .i64 s1.at_, .int .u64 s1.seed]]) ?_ ?_
  · clear hk7
    refine WJ.seq ?_
    refine WJ.quiet_draw follows (by kernel_rfl) ?_
    refine QJ.step (YldS.yld (y_move rfl)) rfl ?_
    refine QJ.step (YldS.yld (y_nil rfl)) rfl ?_
    refine QJ.step (YldS.yld (y_fldB (o := 0) fld157_1 rfl)) rfl ?_
    refine QJ.step (YldS.yld (y_loadB (k := 0) (off := 1) (v := .int .i64 s1.at_) rfl Try.isAgg3 rfl rfl)) rfl ?_
    refine QJ.step (YldS.yld (y_move rfl)) rfl ?_
    refine QJ.step (YldS.yld (y_nil rfl)) rfl ?_
    refine QJ.step (YldS.yld (y_fldB (o := 0) fld157_0 rfl)) rfl ?_
    refine QJ.step (YldS.yld (y_loadB (k := 0) (off := 0) (v := v3) rfl Try.isAgg22 rfl rfl)) rfl ?_
    refine QJ.step (YldS.yld (y_lenS Try.runUnderlying22 hr4 rfl)) rfl ?_
    refine QJ.step (YldS.yld (y_bin rfl rfl rfl)) rfl ?_
    refine QJ.done ?_
    refine PJ.next ?_
    refine WJ.cond (t := decide (s1.at_ < (List.length s1.code : Int))) rfl (fun hb8 => ?_) (fun hb8 => ?_)
    · replace hm := ifT hm hb8
      refine WJ.quiet_draw follows (by kernel_rfl) ?_
      refine QJ.step (YldS.yld (y_move rfl)) rfl ?_
      refine QJ.step (YldS.yld (y_nil rfl)) rfl ?_
      refine QJ.step (YldS.yld (y_fldB (o := 0) fld157_0 rfl)) rfl ?_
      refine QJ.step (YldS.yld (y_loadB (k := 0) (off := 0) (v := v3) rfl Try.isAgg22 rfl rfl)) rfl ?_
      refine QJ.step (YldS.yld (y_move rfl)) rfl ?_
      refine QJ.step (YldS.yld (y_nil rfl)) rfl ?_
      refine QJ.step (YldS.yld (y_fldB (o := 0) fld157_1 rfl)) rfl ?_
      refine QJ.step (YldS.yld (y_loadB (k := 0) (off := 1) (v := .int .i64 s1.at_) rfl Try.isAgg3 rfl rfl)) rfl ?_
      obtain ⟨e9, h10, hm⟩ := bindS hm
      obtain ⟨ad11, _, rfl, ha12, hy13⟩ := hr4.elem h10
      refine QJ.step (YldS.yld (hy13 Try.runUnderlying22 Try.sizeOf5 rfl rfl)) rfl ?_
      refine QJ.step (YldS.yld (y_load1 (v := .int .u8 (UInt8.toNat e9 : Int)) Try.isAgg5 ha12 St.frozenC rfl)) rfl ?_
      refine QJ.step (YldS.yld (y_conv8 Try.runUnderlying5 Try.runUnderlying3 rfl)) rfl ?_
      refine QJ.step (YldS.yld (y_assign rfl)) rfl ?_
      refine QJ.done ?_
      exact PJ.joined (UInt8.toNat e9 : Int) [0] hm ⟨rfl, rfl, trivial⟩ ⟨by decide, rfl⟩
    · replace hm := ifF hm hb8
      refine WJ.skip ?_
      exact PJ.joined 0 [0] hm ⟨rfl, rfl, trivial⟩ ⟨by decide, rfl⟩
  · rintro b5 hm
    subst hk7
    refine WJ.seq ?_
    refine WJ.reg ?_
    refine SJ.q (YldS.yld (y_move rfl)) rfl ?_
    refine SJ.q (YldS.yld (y_nil rfl)) rfl ?_
    refine SJ.q (YldS.yld (y_fldB (o := 0) fld157_1 rfl)) rfl ?_
    refine SJ.q (YldS.yld (y_loadB (k := 0) (off := 1) (v := .int .i64 s1.at_) rfl Try.isAgg3 rfl rfl)) rfl ?_
    refine SJ.q (YldS.yld (y_bin rfl rfl rfl)) rfl ?_
    refine SJ.q (YldS.yld (y_nil rfl)) rfl ?_
    refine SJ.q (YldS.yld (y_fldB (o := 0) fld157_1 rfl)) rfl ?_
    refine SJ.storeL (k := 0) (off := 1) (us := [.int .i64 (w64 (s1.at_ + 1))]) rfl rfl rfl rfl Try.sizeOf3 rfl rfl ?_
    refine SJ.nil ?_
    refine PJ.next ?_
    refine WJ.seq ?_
    refine WJ.reg ?_
    refine SJ.q (YldS.yld (y_move rfl)) rfl ?_
    refine SJ.q (YldS.yld (y_move rfl)) rfl ?_
    refine SJ.q (YldS.yld (y_nil rfl)) rfl ?_
    refine SJ.q (YldS.yld (y_fldB (o := 0) fld157_2 rfl)) rfl ?_
    refine SJ.q (YldS.yld (y_loadB (k := 0) (off := 2) (v := .int .u64 s1.seed) rfl Try.isAgg155 rfl rfl)) rfl ?_
    refine SJ.q (YldS.yld (y_bin rfl rfl rfl)) rfl ?_
    refine SJ.q (YldS.yld (y_move rfl)) rfl ?_
    refine SJ.q (YldS.yld (y_convI Try.runUnderlying3 Try.runUnderlying155 rfl)) rfl ?_
    refine SJ.q (YldS.yld (y_bin rfl rfl rfl)) rfl ?_
    refine SJ.q (YldS.yld (y_bin rfl rfl rfl)) rfl ?_
    refine SJ.q (YldS.yld (y_nil rfl)) rfl ?_
    refine SJ.q (YldS.yld (y_fldB (o := 0) fld157_2 rfl)) rfl ?_
    refine SJ.storeL (k := 0) (off := 2) (us := [.int .u64 (IntKind.u64.wrap ((IntKind.u64.wrap ((IntKind.u64.wrap (s1.seed * 6364136223846793005)) + (IntKind.u64.wrap b5))) + 1442695040888963407))]) rfl rfl rfl rfl Try.sizeOf155 rfl rfl ?_
    refine SJ.nil ?_
    refine PJ.next ?_
    refine WJ.seq ?_
    refine WJ.seq ?_
    refine WJ.quiet_draw follows (by kernel_rfl) ?_
    refine QJ.step (YldS.yld (y_move rfl)) rfl ?_
    refine QJ.step (YldS.yld (y_nil rfl)) rfl ?_
    refine QJ.step (YldS.yld (y_fldB (o := 0) fld157_1 rfl)) rfl ?_
    refine QJ.step (YldS.yld (y_loadB (k := 0) (off := 1) (v := .int .i64 (w64 (s1.at_ + 1))) rfl Try.isAgg3 rfl rfl)) rfl ?_
    refine QJ.step (YldS.yld (y_move rfl)) rfl ?_
    refine QJ.step (YldS.yld (y_nil rfl)) rfl ?_
    refine QJ.step (YldS.yld (y_fldB (o := 0) fld157_0 rfl)) rfl ?_
    refine QJ.step (YldS.yld (y_loadB (k := 0) (off := 0) (v := v3) rfl Try.isAgg22 rfl rfl)) rfl ?_
    refine QJ.step (YldS.yld (y_lenS Try.runUnderlying22 hr4 rfl)) rfl ?_
    refine QJ.step (YldS.yld (y_bin rfl rfl rfl)) rfl ?_
    refine QJ.done ?_
    refine PJ.next ?_
    refine WJ.cond (t := decide ((w64 (s1.at_ + 1)) ≤ (List.length s1.code : Int))) rfl (fun hb14 => ?_) (fun hb14 => ?_)
    · replace hm := ifT hm hb14
      refine WJ.seq ?_
      refine WJ.quiet ?_
      refine QJ.step (YldS.yld (y_move rfl)) rfl ?_
      refine QJ.step (YldS.yld (y_assign rfl)) rfl ?_
      refine QJ.done ?_
      refine PJ.next ?_
      refine WJ.ret ?_
      refine PJ.then_ret ?_
      obtain rfl := Option.some.inj hm
      refine PJ.sel (L' := [box g2 157 [v3, .int .i64 (w64 (s1.at_ + 1)), .int .u64 (IntKind.u64.wrap ((IntKind.u64.wrap ((IntKind.u64.wrap (s1.seed * 6364136223846793005)) + (IntKind.u64.wrap b5))) + 1442695040888963407))]]) [0] ⟨by decide, rfl⟩ ?_
      exact PJ.retn (vs := [.int .i64 b5]) Try.results121 ⟨rfl, trivial⟩ ⟨rfl, rfl⟩
    · replace hm := ifF hm hb14
      refine WJ.skip ?_
      refine PJ.next ?_
      refine WJ.seq ?_
      refine WJ.quiet ?_
      refine QJ.step (YldS.yld (y_move rfl)) rfl ?_
      refine QJ.step (YldS.yld (y_nil rfl)) rfl ?_
      refine QJ.step (YldS.yld (y_fldB (o := 0) fld157_2 rfl)) rfl ?_
      refine QJ.step (YldS.yld (y_loadB (k := 0) (off := 2) (v := .int .u64 (IntKind.u64.wrap ((IntKind.u64.wrap ((IntKind.u64.wrap (s1.seed * 6364136223846793005)) + (IntKind.u64.wrap b5))) + 1442695040888963407))) rfl Try.isAgg155 rfl rfl)) rfl ?_
      refine QJ.step (YldS.yld (y_shru rfl rfl rfl)) rfl ?_
      refine QJ.step (YldS.yld (y_andu rfl rfl rfl)) rfl ?_
      refine QJ.step (YldS.yld (y_convI Try.runUnderlying155 Try.runUnderlying2 rfl)) rfl ?_
      refine QJ.step (YldS.yld (y_assign rfl)) rfl ?_
      refine QJ.done ?_
      refine PJ.next ?_
      refine WJ.ret ?_
      obtain rfl := Option.some.inj hm
      refine PJ.sel (L' := [box g2 157 [v3, .int .i64 (w64 (s1.at_ + 1)), .int .u64 (IntKind.u64.wrap ((IntKind.u64.wrap ((IntKind.u64.wrap (s1.seed * 6364136223846793005)) + (IntKind.u64.wrap b5))) + 1442695040888963407))]]) [0] ⟨by decide, rfl⟩ ?_
      exact PJ.retn (vs := [.int .i64 (w64 (uand (ushr (IntKind.u64.wrap ((IntKind.u64.wrap ((IntKind.u64.wrap (s1.seed * 6364136223846793005)) + (IntKind.u64.wrap b5))) + 1442695040888963407)) 40) 255))]) Try.results121 ⟨rfl, trivial⟩ ⟨rfl, rfl⟩

set_option maxRecDepth 100000 in
set_option maxHeartbeats 1000000 in
theorem ok_s_l00Src_pick {s1 : L00Src} {n5 : Int} {g2 : Nat} {r : Int × L00Src} (hm : s_l00Src_pick s1 n5 = some r) (w : World) (S : Nat → Prop) (v3 : Value) (hr4 : RdS w (Cx.Fz ⟨w, S⟩) v3 fByte.rp s1.code) (hA : (box g2 157 [v3, .int .i64 s1.at_, .int .u64 s1.seed]).holds w S) :
    Calls Try.prog 83 #[pt g2 0, .int .i64 n5] w (RetG ⟨w, S⟩ fun u L => (u = .int .i64 r.1 ∧ L = [box g2 157 [v3, .int .i64 r.2.at_, .int .u64 r.2.seed]])) := by
  unfold s_l00Src_pick at hm
  refine Calls.enter1 hA [pt g2 0, .int .i64 n5] Try.func83 rfl Try.ntmps83 rfl ?_
  refine WJ.seq ?_
  refine WJ.quiet ?_
  refine QJ.step (YldS.yld (y_assign rfl)) rfl ?_
  refine QJ.done ?_
  refine PJ.next ?_
  refine WJ.seq ?_
  refine WJ.seq ?_
  refine WJ.quiet ?_
  refine QJ.step (YldS.yld (y_move rfl)) rfl ?_
  refine QJ.step (YldS.yld (y_bin rfl rfl rfl)) rfl ?_
  refine QJ.done ?_
  refine PJ.next ?_
  refine WJ.cond (t := decide (n5 ≤ 1)) rfl (fun hb6 => ?_) (fun hb6 => ?_)
  · replace hm := ifT hm hb6
    refine WJ.seq ?_
    refine WJ.quiet ?_
    refine QJ.step (YldS.yld (y_assign rfl)) rfl ?_
    refine QJ.done ?_
    refine PJ.next ?_
    refine WJ.ret ?_
    refine PJ.then_ret ?_
    obtain rfl := Option.some.inj hm
    refine PJ.sel (L' := [box g2 157 [v3, .int .i64 s1.at_, .int .u64 s1.seed]]) [0] ⟨by decide, rfl⟩ ?_
    exact PJ.retn (vs := [.int .i64 0]) Try.results83 ⟨rfl, trivial⟩ ⟨rfl, rfl⟩
  · replace hm := ifF hm hb6
    refine WJ.skip ?_
    refine PJ.next ?_
    refine WJ.seq ?_
    refine WJ.reg ?_
    refine SJ.q (YldS.yld (y_move rfl)) rfl ?_
    obtain ⟨r7, h8, hm⟩ := bindS hm
    refine SJ.call1 (k := 0) rfl Try.call121 rfl (fun w S hw hA hO => ok_s_l00Src_next h8 w S _ (hr4.st1 hw hO) hA) rfl ?_
    rintro _ _ ⟨rfl, rfl⟩
    refine SJ.q (YldS.yld (y_assign rfl)) rfl ?_
    refine SJ.nil ?_
    refine PJ.next ?_
    obtain ⟨kj12, hk13, hm⟩ := withK_open hm
    refine WJ.join (X := Int × Int × Int) (fun (x : Int × Int × Int) => kj12 x.1 x.2.1 x.2.2 = some r) (fun (x : Int × Int × Int) => [(1, .int .i64 n5), (5, .int .i64 x.2.2)]) (fun (x : Int × Int × Int) => [box g2 157 [v3, .int .i64 x.1, .int .u64 x.2.1]]) ?_ ?_
    · clear hk13
      refine WJ.seq ?_
      refine WJ.quiet ?_
      refine QJ.step (YldS.yld (y_move rfl)) rfl ?_
      refine QJ.step (YldS.yld (y_bin rfl rfl rfl)) rfl ?_
      refine QJ.done ?_
      refine PJ.next ?_
      refine WJ.cond (t := decide (n5 > 200)) rfl (fun hb14 => ?_) (fun hb14 => ?_)
      · replace hm := ifT hm hb14
        refine WJ.reg ?_
        refine SJ.q (YldS.yld (y_move rfl)) rfl ?_
        refine SJ.q (YldS.yld (y_bin rfl rfl rfl)) rfl ?_
        refine SJ.q (YldS.yld (y_move rfl)) rfl ?_
        obtain ⟨r15, h16, hm⟩ := bindS hm
        refine SJ.call1 (k := 0) rfl Try.call121 rfl (fun w S hw hA hO => ok_s_l00Src_next h16 w S _ (hr4.st1 hw hO) hA) rfl ?_
        rintro _ _ ⟨rfl, rfl⟩
        refine SJ.q (YldS.yld (y_bin rfl rfl rfl)) rfl ?_
        refine SJ.q (YldS.yld (y_assign rfl)) rfl ?_
        refine SJ.nil ?_
        exact PJ.joined (r15.2.at_, r15.2.seed, w64 ((w64 (r7.1 * 256)) + r15.1)) [0] hm ⟨rfl, rfl, trivial⟩ ⟨by decide, rfl⟩
      · replace hm := ifF hm hb14
        refine WJ.skip ?_
        exact PJ.joined (r7.2.at_, r7.2.seed, r7.1) [0] hm ⟨rfl, rfl, trivial⟩ ⟨by decide, rfl⟩
    · rintro ⟨x9, x10, x11⟩ hm
      subst hk13
      refine WJ.seq ?_
      refine WJ.quiet ?_
      refine QJ.step (YldS.yld (y_move rfl)) rfl ?_
      refine QJ.step (YldS.yld (y_move rfl)) rfl ?_
      obtain ⟨q17, h18, hm⟩ := bindS hm
      refine QJ.step (YldS.yld (y_rem' h18 rfl rfl)) rfl ?_
      refine QJ.step (YldS.yld (y_assign rfl)) rfl ?_
      refine QJ.done ?_
      refine PJ.next ?_
      refine WJ.ret ?_
      obtain rfl := Option.some.inj hm
      refine PJ.sel (L' := [box g2 157 [v3, .int .i64 x9, .int .u64 x10]]) [0] ⟨by decide, rfl⟩ ?_
      exact PJ.retn (vs := [.int .i64 q17]) Try.results83 ⟨rfl, trivial⟩ ⟨rfl, rfl⟩

set_option maxRecDepth 100000 in
set_option maxHeartbeats 1000000 in
theorem ok_s_l00Src_one {s1 : L00Src} {n5 : Int} {g2 : Nat} {r : Bool × L00Src} (hm : s_l00Src_one s1 n5 = some r) (w : World) (S : Nat → Prop) (v3 : Value) (hr4 : RdS w (Cx.Fz ⟨w, S⟩) v3 fByte.rp s1.code) (hA : (box g2 157 [v3, .int .i64 s1.at_, .int .u64 s1.seed]).holds w S) :
    Calls Try.prog 84 #[pt g2 0, .int .i64 n5] w (RetG ⟨w, S⟩ fun u L => (u = .bool r.1 ∧ L = [box g2 157 [v3, .int .i64 r.2.at_, .int .u64 r.2.seed]])) := by
  unfold s_l00Src_one at hm
  refine Calls.enter1 hA [pt g2 0, .int .i64 n5] Try.func84 rfl Try.ntmps84 rfl ?_
  refine WJ.seq ?_
  refine WJ.quiet ?_
  refine QJ.step (YldS.yld (y_assign rfl)) rfl ?_
  refine QJ.done ?_
  refine PJ.next ?_
  refine WJ.seq ?_
  refine WJ.reg ?_
  refine SJ.q (YldS.yld (y_move rfl)) rfl ?_
  refine SJ.q (YldS.yld (y_move rfl)) rfl ?_
  obtain ⟨r6, h7, hm⟩ := bindS hm
  refine SJ.call1 (k := 0) rfl Try.call83 rfl (fun w S hw hA hO => ok_s_l00Src_pick h7 w S _ (hr4.st1 hw hO) hA) rfl ?_
  rintro _ _ ⟨rfl, rfl⟩
  refine SJ.q (YldS.yld (y_bin rfl rfl rfl)) rfl ?_
  refine SJ.q (YldS.yld (y_assign rfl)) rfl ?_
  refine SJ.nil ?_
  refine PJ.next ?_
  refine WJ.ret ?_
  obtain rfl := Option.some.inj hm
  refine PJ.sel (L' := [box g2 157 [v3, .int .i64 r6.2.at_, .int .u64 r6.2.seed]]) [0] ⟨by decide, rfl⟩ ?_
  exact PJ.retn (vs := [.bool (r6.1 == 0)]) Try.results84 ⟨rfl, trivial⟩ ⟨rfl, rfl⟩

set_option maxRecDepth 100000 in
set_option maxHeartbeats 1000000 in
theorem ok_s_l00Src_text {s1 : L00Src} {list5 : List Str} {g2 : Nat} {r : Str × L00Src} (hm : s_l00Src_text s1 list5 = some r) (w : World) (S : Nat → Prop) (v3 : Value) (hr4 : RdS w (Cx.Fz ⟨w, S⟩) v3 fByte.rp s1.code) (v6 : Value) (hr7 : RdS w (Cx.Fz ⟨w, S⟩) v6 fStr.rp list5) (hA : (box g2 157 [v3, .int .i64 s1.at_, .int .u64 s1.seed]).holds w S) :
    Calls Try.prog 75 #[pt g2 0, v6] w (RetG ⟨w, S⟩ fun u L => (u = str r.1 ∧ L = [box g2 157 [v3, .int .i64 r.2.at_, .int .u64 r.2.seed]])) := by
  unfold s_l00Src_text at hm
  refine Calls.enter1 hA [pt g2 0, v6] Try.func75 rfl Try.ntmps75 rfl ?_
  refine WJ.seq ?_
  refine WJ.quiet ?_
  refine QJ.step (YldS.yld (y_assign rfl)) rfl ?_
  refine QJ.done ?_
  refine PJ.next ?_
  refine WJ.seq ?_
  refine WJ.reg ?_
  refine SJ.q (YldS.yld (y_move rfl)) rfl ?_
  refine SJ.q (YldS.yld (y_move rfl)) rfl ?_
  refine SJ.q (YldS.yld (y_move rfl)) rfl ?_
  refine SJ.q (YldS.yld (y_lenS Try.runUnderlying78 hr7 rfl)) rfl ?_
  obtain ⟨r8, h9, hm⟩ := bindS hm
  refine SJ.call1 (k := 0) rfl Try.call83 rfl (fun w S hw hA hO => ok_s_l00Src_pick h9 w S _ (hr4.st1 hw hO) hA) rfl ?_
  rintro _ _ ⟨rfl, rfl⟩
  obtain ⟨e10, h11, hm⟩ := bindS hm
  obtain ⟨ad12, _, rfl, ha13, hy14⟩ := hr7.elem h11
  refine SJ.q (YldS.yld (hy14 Try.runUnderlying78 Try.sizeOf9 rfl rfl)) rfl ?_
  refine SJ.q (YldS.yld (y_load1 (v := str e10) Try.isAgg9 ha13 St.frozenC rfl)) rfl ?_
  refine SJ.q (YldS.yld (y_assign rfl)) rfl ?_
  refine SJ.nil ?_
  refine PJ.next ?_
  refine WJ.ret ?_
  obtain rfl := Option.some.inj hm
  refine PJ.sel (L' := [box g2 157 [v3, .int .i64 r8.2.at_, .int .u64 r8.2.seed]]) [0] ⟨by decide, rfl⟩ ?_
  exact PJ.retn (vs := [str e10]) Try.results75 ⟨rfl, trivial⟩ ⟨rfl, rfl⟩

set_option maxRecDepth 100000 in
set_option maxHeartbeats 1000000 in
theorem ok_s_l02Find {N : Nat} {keys1 : List Key} {letter4 : Str} {r : Int × Bool} (hm : s_l02Find N keys1 letter4 = some r) (w : World) (v2 : Value) (hr3 : RdS w (cx w).Fz v2 fKey.rp keys1) :
    Calls Try.prog 79 #[v2, str letter4] w (Ret (cx w) (tup [.int .i64 r.1, .bool r.2])) := by
  unfold s_l02Find at hm
  refine Calls.enter [v2, str letter4] Try.func79 rfl Try.ntmps79 rfl ?_
  refine WJ.seq ?_
  refine WJ.quiet ?_
  refine QJ.step (YldS.yld (y_assign rfl)) rfl ?_
  refine QJ.step (YldS.yld (y_assign rfl)) rfl ?_
  refine QJ.done ?_
  refine PJ.next ?_
  obtain ⟨kj5, hk6, hm⟩ := withK_open hm
  refine WJ.join (X := Unit) (fun (_ : Unit) => kj5  = some r) (fun (_ : Unit) => []) (fun (_ : Unit) => []) ?_ ?_
  · clear hk6
    refine WJ.seq ?_
    refine WJ.quiet ?_
    refine QJ.step (YldS.yld (y_assign rfl)) rfl ?_
    refine QJ.done ?_
    refine PJ.next ?_
    refine WJ.block ?_
    refine WJ.sel (L' := (fun (x : Int) => []) 0) [] ⟨List.nodup_nil, rfl⟩ ?_
    refine WJ.sub (m' := (fun (x : Int) => [(0, v2), (1, str letter4), (6, .int .i64 x)]) 0) ⟨rfl, rfl, rfl, trivial⟩ ?_
    refine WJ.loop (X := Int) (fun N (x : Int) => s_l02Find_l1 kj5 keys1 letter4 N x = some r) (fun (x : Int) => [(0, v2), (1, str letter4), (6, .int .i64 x)]) (fun (x : Int) => []) ?_ N 0 hm
    · rintro N i7 hI
      have hm := hI; clear hI
      cases N with
      | zero => cases hm
      | succ N =>
      unfold s_l02Find_l1 at hm
      refine WJ.seq ?_
      refine WJ.seq ?_
      refine WJ.quiet ?_
      refine QJ.step (YldS.yld (y_move rfl)) rfl ?_
      refine QJ.step (YldS.yld (y_move rfl)) rfl ?_
      refine QJ.step (YldS.yld (y_lenS Try.runUnderlying24 hr3 rfl)) rfl ?_
      refine QJ.step (YldS.yld (y_bin rfl rfl rfl)) rfl ?_
      refine QJ.done ?_
      refine PJ.next ?_
      refine WJ.cond (t := decide (i7 < (List.length keys1 : Int))) rfl (fun hb8 => ?_) (fun hb8 => ?_)
      · replace hm := ifT hm hb8
        refine WJ.skip ?_
        refine PJ.next ?_
        refine WJ.seq ?_
        refine WJ.block ?_
        refine WJ.seq ?_
        refine WJ.seq ?_
        refine WJ.quiet ?_
        refine QJ.step (YldS.yld (y_move rfl)) rfl ?_
        refine QJ.step (YldS.yld (y_move rfl)) rfl ?_
        obtain ⟨e9, h10, hm⟩ := bindS hm
        obtain ⟨ad11, _, rfl, ha12, hy13⟩ := hr3.elem h10
        refine QJ.step (YldS.yld (hy13 Try.runUnderlying24 Try.sizeOf41 rfl rfl)) rfl ?_
        refine QJ.step (YldS.yld (y_fld (ad := ad11) fld41_0 rfl)) rfl ?_
        refine QJ.step (YldS.yld (y_load1 (v := str e9.low) Try.isAgg9 (ha12.sub 0 1) St.frozenC rfl)) rfl ?_
        refine QJ.step (YldS.yld (y_move rfl)) rfl ?_
        refine QJ.step (YldS.yld (y_binS rfl rfl rfl)) rfl ?_
        refine QJ.done ?_
        refine PJ.next ?_
        refine WJ.cond (t := (e9.low == letter4)) rfl (fun hb14 => ?_) (fun hb14 => ?_)
        · replace hm := ifT hm hb14
          refine WJ.seq ?_
          refine WJ.quiet ?_
          refine QJ.step (YldS.yld (y_move rfl)) rfl ?_
          refine QJ.step (YldS.yld (y_assign rfl)) rfl ?_
          refine QJ.step (YldS.yld (y_assign rfl)) rfl ?_
          refine QJ.done ?_
          refine PJ.next ?_
          refine WJ.ret ?_
          refine PJ.then_ret (PJ.block_ret (PJ.then_ret (PJ.then_ret (PJ.block_ret (PJ.then_ret ?_)))))
          obtain rfl := Option.some.inj hm
          refine PJ.sel (L' := []) [] ⟨List.nodup_nil, rfl⟩ ?_
          exact PJ.retn (vs := [.int .i64 i7, .bool false]) Try.results79 ⟨rfl, rfl, trivial⟩ ⟨rfl, rfl⟩
        · replace hm := ifF hm hb14
          refine WJ.skip ?_
          refine PJ.next ?_
          refine WJ.seq ?_
          refine WJ.quiet ?_
          refine QJ.step (YldS.yld (y_move rfl)) rfl ?_
          refine QJ.step (YldS.yld (y_move rfl)) rfl ?_
          obtain ⟨e15, h16, hm⟩ := bindS hm
          obtain ⟨ad17, _, rfl, ha18, hy19⟩ := hr3.elem h16
          refine QJ.step (YldS.yld (hy19 Try.runUnderlying24 Try.sizeOf41 rfl rfl)) rfl ?_
          refine QJ.step (YldS.yld (y_fld (ad := ad17) fld41_1 rfl)) rfl ?_
          refine QJ.step (YldS.yld (y_load1 (v := str e15.high) Try.isAgg9 (ha18.sub 1 1) St.frozenC rfl)) rfl ?_
          refine QJ.step (YldS.yld (y_move rfl)) rfl ?_
          refine QJ.step (YldS.yld (y_binS rfl rfl rfl)) rfl ?_
          refine QJ.done ?_
          refine PJ.next ?_
          refine WJ.cond (t := (e15.high == letter4)) rfl (fun hb20 => ?_) (fun hb20 => ?_)
          · replace hm := ifT hm hb20
            refine WJ.seq ?_
            refine WJ.quiet ?_
            refine QJ.step (YldS.yld (y_move rfl)) rfl ?_
            refine QJ.step (YldS.yld (y_assign rfl)) rfl ?_
            refine QJ.step (YldS.yld (y_assign rfl)) rfl ?_
            refine QJ.done ?_
            refine PJ.next ?_
            refine WJ.ret ?_
            refine PJ.block_ret (PJ.then_ret (PJ.then_ret (PJ.block_ret (PJ.then_ret ?_))))
            obtain rfl := Option.some.inj hm
            refine PJ.sel (L' := []) [] ⟨List.nodup_nil, rfl⟩ ?_
            exact PJ.retn (vs := [.int .i64 i7, .bool true]) Try.results79 ⟨rfl, rfl, trivial⟩ ⟨rfl, rfl⟩
          · replace hm := ifF hm hb20
            refine WJ.skip ?_
            refine PJ.block_normal (PJ.next ?_)
            refine WJ.quiet ?_
            refine QJ.step (YldS.yld (y_move rfl)) rfl ?_
            refine QJ.step (YldS.yld (y_bin rfl rfl rfl)) rfl ?_
            refine QJ.step (YldS.yld (y_assign rfl)) rfl ?_
            refine QJ.done ?_
            exact PJ.round (w64 (i7 + 1)) [] hm ⟨rfl, rfl, rfl, trivial⟩ ⟨List.nodup_nil, rfl⟩
      · replace hm := ifF hm hb8
        refine WJ.exit ?_
        refine PJ.then_exit (PJ.then_exit (PJ.block_exit ?_))
        exact PJ.joined () [] hm trivial ⟨List.nodup_nil, rfl⟩
  · rintro _ hm
    subst hk6
    refine WJ.seq ?_
    refine WJ.quiet ?_
    refine QJ.step (YldS.yld (y_assign rfl)) rfl ?_
    refine QJ.step (YldS.yld (y_assign rfl)) rfl ?_
    refine QJ.done ?_
    refine PJ.next ?_
    refine WJ.ret ?_
    obtain rfl := Option.some.inj hm
    refine PJ.sel (L' := []) [] ⟨List.nodup_nil, rfl⟩ ?_
    exact PJ.retn (vs := [.int .i64 (-1), .bool false]) Try.results79 ⟨rfl, rfl, trivial⟩ ⟨rfl, rfl⟩

set_option maxRecDepth 100000 in
set_option maxHeartbeats 1000000 in
theorem ok_s_l02Letter {s1 : Str} {r : Bool} (hm : s_l02Letter s1 = some r) (w : World)  :
    Calls Try.prog 78 #[str s1] w (Ret (cx w) (.bool r)) := by
  unfold s_l02Letter at hm
  refine Calls.enter [str s1] Try.func78 rfl Try.ntmps78 rfl ?_
  refine WJ.seq ?_
  refine WJ.quiet ?_
  refine QJ.step (YldS.yld (y_assign rfl)) rfl ?_
  refine QJ.done ?_
  refine PJ.next ?_
  refine WJ.seq ?_
  refine WJ.quiet ?_
  refine QJ.step (YldS.yld (y_move rfl)) rfl ?_
  refine QJ.step (YldS.yld (y_lenStr Try.runUnderlying9 rfl)) rfl ?_
  refine QJ.step (YldS.yld (y_bin rfl rfl rfl)) rfl ?_
  refine QJ.step (YldS.yld (y_move rfl)) rfl ?_
  obtain ⟨t2, h3, hm⟩ := bindS hm
  refine QJ.cut 4 [(0, str s1), (10, .bool t2)] ?_ ?_
  · rcases Bool.eq_false_or_eq_true ((List.length s1 : Int) == 1) with hb4 | hb4
    · replace h3 := andT h3 hb4
      refine QJ.on rfl rfl (cB hb4) (YldS.yld (y_move rfl)) rfl ?_
      obtain ⟨c5, h6, h3⟩ := bindS h3
      refine QJ.on rfl rfl (cB hb4) (YldS.yld (y_idxStr Try.runUnderlying9 rfl rfl h6)) rfl ?_
      refine QJ.on rfl rfl (cB hb4) (YldS.yld (y_bin8 c5 (32 : UInt8) rfl rfl rfl)) rfl ?_
      refine QJ.step (YldS.yld (y_pick_t (cB hb4) rfl)) rfl ?_
      obtain rfl := Option.some.inj h3
      exact QJ.cut_end ⟨rfl, rfl, trivial⟩
    · obtain rfl := andF h3 hb4
      refine QJ.off rfl rfl (cB hb4) rfl rfl ?_
      refine QJ.off rfl rfl (cB hb4) rfl rfl ?_
      refine QJ.off rfl rfl (cB hb4) rfl rfl ?_
      refine QJ.step (YldS.yld (y_pick_f (cB hb4) rfl)) rfl ?_
      exact QJ.cut_end ⟨rfl, rfl, trivial⟩
  refine QJ.step (YldS.yld (y_move rfl)) rfl ?_
  obtain ⟨t7, h8, hm⟩ := bindS hm
  refine QJ.cut 4 [(15, .bool t7)] ?_ ?_
  · rcases Bool.eq_false_or_eq_true t2 with hb9 | hb9
    · replace h8 := andT h8 hb9
      refine QJ.on rfl rfl (cB hb9) (YldS.yld (y_move rfl)) rfl ?_
      obtain ⟨c10, h11, h8⟩ := bindS h8
      refine QJ.on rfl rfl (cB hb9) (YldS.yld (y_idxStr Try.runUnderlying9 rfl rfl h11)) rfl ?_
      refine QJ.on rfl rfl (cB hb9) (YldS.yld (y_bin8 c10 (127 : UInt8) rfl rfl rfl)) rfl ?_
      refine QJ.step (YldS.yld (y_pick_t (cB hb9) rfl)) rfl ?_
      obtain rfl := Option.some.inj h8
      exact QJ.cut_end ⟨rfl, trivial⟩
    · obtain rfl := andF h8 hb9
      refine QJ.off rfl rfl (cB hb9) rfl rfl ?_
      refine QJ.off rfl rfl (cB hb9) rfl rfl ?_
      refine QJ.off rfl rfl (cB hb9) rfl rfl ?_
      refine QJ.step (YldS.yld (y_pick_f (cB hb9) rfl)) rfl ?_
      exact QJ.cut_end ⟨rfl, trivial⟩
  refine QJ.step (YldS.yld (y_assign rfl)) rfl ?_
  refine QJ.done ?_
  refine PJ.next ?_
  refine WJ.ret ?_
  obtain rfl := Option.some.inj hm
  refine PJ.sel (L' := []) [] ⟨List.nodup_nil, rfl⟩ ?_
  exact PJ.retn (vs := [.bool t7]) Try.results78 ⟨rfl, trivial⟩ ⟨rfl, rfl⟩

set_option maxRecDepth 100000 in
set_option maxHeartbeats 1000000 in
theorem ok_s_l02Accent {N : Nat} {keys1 : List Key} {a4 : Accent} {r : Bool} (hm : s_l02Accent N keys1 a4 = some r) (w : World) (v2 : Value) (hr3 : RdS w (cx w).Fz v2 fKey.rp keys1) (ad5 : Addr) (ha6 : At w (cx w).Fz ad5 (fAccent.enc a4)) :
    Calls Try.prog 119 #[v2, .pointer (some ad5)] w (Ret (cx w) (.bool r)) := by
  unfold s_l02Accent at hm
  refine Calls.enter [v2, .pointer (some ad5)] Try.func119 rfl Try.ntmps119 rfl ?_
  refine WJ.seq ?_
  refine WJ.quiet ?_
  refine QJ.step (YldS.yld (y_assign rfl)) rfl ?_
  refine QJ.done ?_
  refine PJ.next ?_
  refine WJ.seq ?_
  refine WJ.quiet ?_
  refine QJ.step (YldS.yld (y_move rfl)) rfl ?_
  refine QJ.step (YldS.yld (y_move rfl)) rfl ?_
  refine QJ.step (YldS.yld (y_nil rfl)) rfl ?_
  refine QJ.step (YldS.yld (y_fld (ad := ad5) fld101_0 rfl)) rfl ?_
  refine QJ.step (YldS.yld (y_load1 (v := str a4.mark) Try.isAgg9 (ha6.sub 0 1) St.frozenC rfl)) rfl ?_
  obtain ⟨r7, h8, hm⟩ := bindS hm
  refine QJ.step (y_call Try.call79 rfl (RetG.quiet fun w hw => ok_s_l02Find h8 w _ (hr3.st hw))) rfl ?_
  refine QJ.step (YldS.yld (y_move rfl)) rfl ?_
  refine QJ.step (YldS.yld (y_extract rfl rfl)) rfl ?_
  refine QJ.step (YldS.yld (y_extract rfl rfl)) rfl ?_
  refine QJ.step (YldS.yld (y_assign rfl)) rfl ?_
  refine QJ.step (YldS.yld (y_assign rfl)) rfl ?_
  refine QJ.done ?_
  refine PJ.next ?_
  refine WJ.seq ?_
  refine WJ.quiet ?_
  refine QJ.step (YldS.yld (y_move rfl)) rfl ?_
  refine QJ.step (YldS.yld (y_move rfl)) rfl ?_
  refine QJ.step (YldS.yld (y_nil rfl)) rfl ?_
  refine QJ.step (YldS.yld (y_fld (ad := ad5) fld101_1 rfl)) rfl ?_
  refine QJ.step (YldS.yld (y_load1 (v := str a4.letter) Try.isAgg9 (ha6.sub 1 1) St.frozenC rfl)) rfl ?_
  obtain ⟨r9, h10, hm⟩ := bindS hm
  refine QJ.step (y_call Try.call79 rfl (RetG.quiet fun w hw => ok_s_l02Find h10 w _ (hr3.st hw))) rfl ?_
  refine QJ.step (YldS.yld (y_move rfl)) rfl ?_
  refine QJ.step (YldS.yld (y_extract rfl rfl)) rfl ?_
  refine QJ.step (YldS.yld (y_extract rfl rfl)) rfl ?_
  refine QJ.step (YldS.yld (y_assign rfl)) rfl ?_
  refine QJ.step (YldS.yld (y_assign rfl)) rfl ?_
  refine QJ.done ?_
  refine PJ.next ?_
  refine WJ.seq ?_
  refine WJ.quiet ?_
  refine QJ.step (YldS.yld (y_move rfl)) rfl ?_
  refine QJ.step (YldS.yld (y_move rfl)) rfl ?_
  refine QJ.step (YldS.yld (y_nil rfl)) rfl ?_
  refine QJ.step (YldS.yld (y_fld (ad := ad5) fld101_2 rfl)) rfl ?_
  refine QJ.step (YldS.yld (y_load1 (v := str a4.made) Try.isAgg9 (ha6.sub 2 1) St.frozenC rfl)) rfl ?_
  obtain ⟨r11, h12, hm⟩ := bindS hm
  refine QJ.step (y_call Try.call79 rfl (RetG.quiet fun w hw => ok_s_l02Find h12 w _ (hr3.st hw))) rfl ?_
  refine QJ.step (YldS.yld (y_move rfl)) rfl ?_
  refine QJ.step (YldS.yld (y_extract rfl rfl)) rfl ?_
  refine QJ.step (YldS.yld (y_extract rfl rfl)) rfl ?_
  refine QJ.step (YldS.yld (y_assign rfl)) rfl ?_
  refine QJ.step (YldS.yld (y_assign rfl)) rfl ?_
  refine QJ.done ?_
  refine PJ.next ?_
  refine WJ.seq ?_
  refine WJ.quiet ?_
  refine QJ.step (YldS.yld (y_move rfl)) rfl ?_
  refine QJ.step (YldS.yld (y_bin rfl rfl rfl)) rfl ?_
  refine QJ.step (YldS.yld (y_move rfl)) rfl ?_
  obtain ⟨t13, h14, hm⟩ := bindS hm
  refine QJ.cut 6 [(0, v2), (1, .pointer (some ad5)), (7, .int .i64 r9.1), (9, .int .i64 r11.1), (46, .bool t13)] ?_ ?_
  · rcases Bool.eq_false_or_eq_true (decide (r7.1 ≥ 0)) with hb15 | hb15
    · replace h14 := andT h14 hb15
      refine QJ.on rfl rfl (cB hb15) (YldS.yld (y_move rfl)) rfl ?_
      refine QJ.on rfl rfl (cB hb15) (YldS.yld (y_move rfl)) rfl ?_
      obtain ⟨e16, h17, h14⟩ := bindS h14
      obtain ⟨ad18, _, rfl, ha19, hy20⟩ := hr3.elem h17
      refine QJ.on rfl rfl (cB hb15) (YldS.yld (hy20 Try.runUnderlying24 Try.sizeOf41 rfl rfl)) rfl ?_
      refine QJ.on rfl rfl (cB hb15) (YldS.yld (y_fld (ad := ad18) fld41_2 rfl)) rfl ?_
      refine QJ.on rfl rfl (cB hb15) (YldS.yld (y_load1 (v := .bool e16.dead) Try.isAgg4 (ha19.sub 2 1) St.frozenC rfl)) rfl ?_
      refine QJ.step (YldS.yld (y_pick_t (cB hb15) rfl)) rfl ?_
      obtain rfl := Option.some.inj h14
      exact QJ.cut_end ⟨rfl, rfl, rfl, rfl, rfl, trivial⟩
    · obtain rfl := andF h14 hb15
      refine QJ.off rfl rfl (cB hb15) rfl rfl ?_
      refine QJ.off rfl rfl (cB hb15) rfl rfl ?_
      refine QJ.off rfl rfl (cB hb15) rfl rfl ?_
      refine QJ.off rfl rfl (cB hb15) rfl rfl ?_
      refine QJ.off rfl rfl (cB hb15) rfl rfl ?_
      refine QJ.step (YldS.yld (y_pick_f (cB hb15) rfl)) rfl ?_
      exact QJ.cut_end ⟨rfl, rfl, rfl, rfl, rfl, trivial⟩
  refine QJ.step (YldS.yld (y_move rfl)) rfl ?_
  obtain ⟨t21, h22, hm⟩ := bindS hm
  refine QJ.cut 3 [(0, v2), (1, .pointer (some ad5)), (7, .int .i64 r9.1), (9, .int .i64 r11.1), (50, .bool t21)] ?_ ?_
  · rcases Bool.eq_false_or_eq_true t13 with hb23 | hb23
    · replace h22 := andT h22 hb23
      refine QJ.on rfl rfl (cB hb23) (YldS.yld (y_move rfl)) rfl ?_
      refine QJ.on rfl rfl (cB hb23) (YldS.yld (y_bin rfl rfl rfl)) rfl ?_
      refine QJ.step (YldS.yld (y_pick_t (cB hb23) rfl)) rfl ?_
      obtain rfl := Option.some.inj h22
      exact QJ.cut_end ⟨rfl, rfl, rfl, rfl, rfl, trivial⟩
    · obtain rfl := andF h22 hb23
      refine QJ.off rfl rfl (cB hb23) rfl rfl ?_
      refine QJ.off rfl rfl (cB hb23) rfl rfl ?_
      refine QJ.step (YldS.yld (y_pick_f (cB hb23) rfl)) rfl ?_
      exact QJ.cut_end ⟨rfl, rfl, rfl, rfl, rfl, trivial⟩
  refine QJ.step (YldS.yld (y_move rfl)) rfl ?_
  obtain ⟨t24, h25, hm⟩ := bindS hm
  refine QJ.cut 7 [(1, .pointer (some ad5)), (9, .int .i64 r11.1), (58, .bool t24)] ?_ ?_
  · rcases Bool.eq_false_or_eq_true t21 with hb26 | hb26
    · replace h25 := andT h25 hb26
      refine QJ.on rfl rfl (cB hb26) (YldS.yld (y_move rfl)) rfl ?_
      refine QJ.on rfl rfl (cB hb26) (YldS.yld (y_move rfl)) rfl ?_
      obtain ⟨e27, h28, h25⟩ := bindS h25
      obtain ⟨ad29, _, rfl, ha30, hy31⟩ := hr3.elem h28
      refine QJ.on rfl rfl (cB hb26) (YldS.yld (hy31 Try.runUnderlying24 Try.sizeOf41 rfl rfl)) rfl ?_
      refine QJ.on rfl rfl (cB hb26) (YldS.yld (y_fld (ad := ad29) fld41_2 rfl)) rfl ?_
      refine QJ.on rfl rfl (cB hb26) (YldS.yld (y_load1 (v := .bool e27.dead) Try.isAgg4 (ha30.sub 2 1) St.frozenC rfl)) rfl ?_
      refine QJ.on rfl rfl (cB hb26) (YldS.yld (y_not rfl)) rfl ?_
      refine QJ.step (YldS.yld (y_pick_t (cB hb26) rfl)) rfl ?_
      obtain rfl := Option.some.inj h25
      exact QJ.cut_end ⟨rfl, rfl, rfl, trivial⟩
    · obtain rfl := andF h25 hb26
      refine QJ.off rfl rfl (cB hb26) rfl rfl ?_
      refine QJ.off rfl rfl (cB hb26) rfl rfl ?_
      refine QJ.off rfl rfl (cB hb26) rfl rfl ?_
      refine QJ.off rfl rfl (cB hb26) rfl rfl ?_
      refine QJ.off rfl rfl (cB hb26) rfl rfl ?_
      refine QJ.off rfl rfl (cB hb26) rfl rfl ?_
      refine QJ.step (YldS.yld (y_pick_f (cB hb26) rfl)) rfl ?_
      exact QJ.cut_end ⟨rfl, rfl, rfl, trivial⟩
  refine QJ.step (YldS.yld (y_move rfl)) rfl ?_
  obtain ⟨t32, h33, hm⟩ := bindS hm
  refine QJ.cut 3 [(1, .pointer (some ad5)), (62, .bool t32)] ?_ ?_
  · rcases Bool.eq_false_or_eq_true t24 with hb34 | hb34
    · replace h33 := andT h33 hb34
      refine QJ.on rfl rfl (cB hb34) (YldS.yld (y_move rfl)) rfl ?_
      refine QJ.on rfl rfl (cB hb34) (YldS.yld (y_bin rfl rfl rfl)) rfl ?_
      refine QJ.step (YldS.yld (y_pick_t (cB hb34) rfl)) rfl ?_
      obtain rfl := Option.some.inj h33
      exact QJ.cut_end ⟨rfl, rfl, trivial⟩
    · obtain rfl := andF h33 hb34
      refine QJ.off rfl rfl (cB hb34) rfl rfl ?_
      refine QJ.off rfl rfl (cB hb34) rfl rfl ?_
      refine QJ.step (YldS.yld (y_pick_f (cB hb34) rfl)) rfl ?_
      exact QJ.cut_end ⟨rfl, rfl, trivial⟩
  refine QJ.step (YldS.yld (y_move rfl)) rfl ?_
  obtain ⟨t35, h36, hm⟩ := bindS hm
  refine QJ.cut 6 [(69, .bool t35)] ?_ ?_
  · rcases Bool.eq_false_or_eq_true t32 with hb37 | hb37
    · replace h36 := andT h36 hb37
      refine QJ.on rfl rfl (cB hb37) (YldS.yld (y_move rfl)) rfl ?_
      refine QJ.on rfl rfl (cB hb37) (YldS.yld (y_nil rfl)) rfl ?_
      refine QJ.on rfl rfl (cB hb37) (YldS.yld (y_fld (ad := ad5) fld101_2 rfl)) rfl ?_
      refine QJ.on rfl rfl (cB hb37) (YldS.yld (y_load1 (v := str a4.made) Try.isAgg9 (ha6.sub 2 1) St.frozenC rfl)) rfl ?_
      obtain ⟨r38, h39, h36⟩ := bindS h36
      refine QJ.on rfl rfl (cB hb37) (y_call Try.call78 rfl (RetG.quiet fun w hw => ok_s_l02Letter h39 w )) rfl ?_
      refine QJ.step (YldS.yld (y_pick_t (cB hb37) rfl)) rfl ?_
      obtain rfl := Option.some.inj h36
      exact QJ.cut_end ⟨rfl, trivial⟩
    · obtain rfl := andF h36 hb37
      refine QJ.off rfl rfl (cB hb37) rfl rfl ?_
      refine QJ.off rfl rfl (cB hb37) rfl rfl ?_
      refine QJ.off rfl rfl (cB hb37) rfl rfl ?_
      refine QJ.off rfl rfl (cB hb37) rfl rfl ?_
      refine QJ.off rfl rfl (cB hb37) rfl rfl ?_
      refine QJ.step (YldS.yld (y_pick_f (cB hb37) rfl)) rfl ?_
      exact QJ.cut_end ⟨rfl, trivial⟩
  refine QJ.step (YldS.yld (y_assign rfl)) rfl ?_
  refine QJ.done ?_
  refine PJ.next ?_
  refine WJ.ret ?_
  obtain rfl := Option.some.inj hm
  refine PJ.sel (L' := []) [] ⟨List.nodup_nil, rfl⟩ ?_
  exact PJ.retn (vs := [.bool t35]) Try.results119 ⟨rfl, trivial⟩ ⟨rfl, rfl⟩

set_option maxRecDepth 100000 in
set_option maxHeartbeats 1000000 in
theorem ok_s_l02Ok {N : Nat} {keys1 : List Key} {accents4 : List Accent} {r : Bool} (hm : s_l02Ok N keys1 accents4 = some r) (w : World) (v2 : Value) (hr3 : RdS w (cx w).Fz v2 fKey.rp keys1) (v5 : Value) (hr6 : RdS w (cx w).Fz v5 fAccent.rp accents4) :
    Calls Try.prog 70 #[v2, v5] w (Ret (cx w) (.bool r)) := by
  unfold s_l02Ok at hm
  refine Calls.enter [v2, v5] Try.func70 rfl Try.ntmps70 rfl ?_
  refine WJ.seq ?_
  refine WJ.quiet ?_
  refine QJ.step (YldS.yld (y_assign rfl)) rfl ?_
  refine QJ.done ?_
  refine PJ.next ?_
  obtain ⟨kj7, hk8, hm⟩ := withK_open hm
  refine WJ.join (X := Unit) (fun (_ : Unit) => kj7  = some r) (fun (_ : Unit) => [(0, v2), (1, v5)]) (fun (_ : Unit) => []) ?_ ?_
  · clear hk8
    refine WJ.seq ?_
    refine WJ.quiet ?_
    refine QJ.step (YldS.yld (y_assign rfl)) rfl ?_
    refine QJ.done ?_
    refine PJ.next ?_
    refine WJ.block ?_
    refine WJ.sel (L' := (fun (x : Int) => []) 0) [] ⟨List.nodup_nil, rfl⟩ ?_
    refine WJ.sub (m' := (fun (x : Int) => [(0, v2), (1, v5), (5, .int .i64 x)]) 0) ⟨rfl, rfl, rfl, trivial⟩ ?_
    refine WJ.loop (X := Int) (fun N (x : Int) => s_l02Ok_l1 kj7 keys1 N x = some r) (fun (x : Int) => [(0, v2), (1, v5), (5, .int .i64 x)]) (fun (x : Int) => []) ?_ N 0 hm
    · rintro N i9 hI
      have hm := hI; clear hI
      cases N with
      | zero => cases hm
      | succ N =>
      unfold s_l02Ok_l1 at hm
      refine WJ.seq ?_
      refine WJ.seq ?_
      refine WJ.quiet ?_
      refine QJ.step (YldS.yld (y_move rfl)) rfl ?_
      refine QJ.step (YldS.yld (y_move rfl)) rfl ?_
      refine QJ.step (YldS.yld (y_lenS Try.runUnderlying24 hr3 rfl)) rfl ?_
      refine QJ.step (YldS.yld (y_bin rfl rfl rfl)) rfl ?_
      refine QJ.done ?_
      refine PJ.next ?_
      refine WJ.cond (t := decide (i9 < (List.length keys1 : Int))) rfl (fun hb10 => ?_) (fun hb10 => ?_)
      · replace hm := ifT hm hb10
        refine WJ.skip ?_
        refine PJ.next ?_
        refine WJ.seq ?_
        refine WJ.block ?_
        refine WJ.seq ?_
        refine WJ.quiet ?_
        refine QJ.step (YldS.yld (y_move rfl)) rfl ?_
        refine QJ.step (YldS.yld (y_move rfl)) rfl ?_
        obtain ⟨e11, h12, hm⟩ := bindS hm
        obtain ⟨ad13, _, rfl, ha14, hy15⟩ := hr3.elem h12
        refine QJ.step (YldS.yld (hy15 Try.runUnderlying24 Try.sizeOf41 rfl rfl)) rfl ?_
        refine QJ.step (YldS.yld (y_assign rfl)) rfl ?_
        refine QJ.done ?_
        refine PJ.next ?_
        refine WJ.seq ?_
        refine WJ.seq ?_
        refine WJ.quiet_draw follows (by kernel_rfl) ?_
        refine QJ.step (YldS.yld (y_move rfl)) rfl ?_
        refine QJ.step (YldS.yld (y_nil rfl)) rfl ?_
        refine QJ.step (YldS.yld (y_fld (ad := ad13) fld41_0 rfl)) rfl ?_
        refine QJ.step (YldS.yld (y_load1 (v := str e11.low) Try.isAgg9 (ha14.sub 0 1) St.frozenC rfl)) rfl ?_
        obtain ⟨r16, h17, hm⟩ := bindS hm
        refine QJ.step (y_call Try.call78 rfl (RetG.quiet fun w hw => ok_s_l02Letter h17 w )) rfl ?_
        refine QJ.step (YldS.yld (y_not rfl)) rfl ?_
        refine QJ.step (YldS.yld (y_move rfl)) rfl ?_
        obtain ⟨t18, h19, hm⟩ := bindS hm
        refine QJ.cut 7 [(0, v2), (1, v5), (5, .int .i64 i9), (6, .pointer (some ad13)), (35, .bool t18)] ?_ ?_
        · rcases Bool.eq_false_or_eq_true (!r16) with hb20 | hb20
          · obtain rfl := orT h19 hb20
            refine QJ.off rfl rfl (cB hb20) rfl rfl ?_
            refine QJ.off rfl rfl (cB hb20) rfl rfl ?_
            refine QJ.off rfl rfl (cB hb20) rfl rfl ?_
            refine QJ.off rfl rfl (cB hb20) rfl rfl ?_
            refine QJ.off rfl rfl (cB hb20) rfl rfl ?_
            refine QJ.off rfl rfl (cB hb20) rfl rfl ?_
            refine QJ.step (YldS.yld (y_pick_t (cB hb20) rfl)) rfl ?_
            exact QJ.cut_end ⟨rfl, rfl, rfl, rfl, rfl, trivial⟩
          · replace h19 := orF h19 hb20
            refine QJ.on rfl rfl (cB hb20) (YldS.yld (y_move rfl)) rfl ?_
            refine QJ.on rfl rfl (cB hb20) (YldS.yld (y_nil rfl)) rfl ?_
            refine QJ.on rfl rfl (cB hb20) (YldS.yld (y_fld (ad := ad13) fld41_1 rfl)) rfl ?_
            refine QJ.on rfl rfl (cB hb20) (YldS.yld (y_load1 (v := str e11.high) Try.isAgg9 (ha14.sub 1 1) St.frozenC rfl)) rfl ?_
            obtain ⟨r21, h22, h19⟩ := bindS h19
            refine QJ.on rfl rfl (cB hb20) (y_call Try.call78 rfl (RetG.quiet fun w hw => ok_s_l02Letter h22 w )) rfl ?_
            refine QJ.on rfl rfl (cB hb20) (YldS.yld (y_not rfl)) rfl ?_
            refine QJ.step (YldS.yld (y_pick_f (cB hb20) rfl)) rfl ?_
            obtain rfl := Option.some.inj h19
            exact QJ.cut_end ⟨rfl, rfl, rfl, rfl, rfl, trivial⟩
        refine QJ.step (YldS.yld (y_move rfl)) rfl ?_
        obtain ⟨t23, h24, hm⟩ := bindS hm
        refine QJ.cut 10 [(0, v2), (1, v5), (5, .int .i64 i9), (6, .pointer (some ad13)), (46, .bool t23)] ?_ ?_
        · rcases Bool.eq_false_or_eq_true t18 with hb25 | hb25
          · obtain rfl := orT h24 hb25
            refine QJ.off rfl rfl (cB hb25) rfl rfl ?_
            refine QJ.off rfl rfl (cB hb25) rfl rfl ?_
            refine QJ.off rfl rfl (cB hb25) rfl rfl ?_
            refine QJ.off rfl rfl (cB hb25) rfl rfl ?_
            refine QJ.off rfl rfl (cB hb25) rfl rfl ?_
            refine QJ.off rfl rfl (cB hb25) rfl rfl ?_
            refine QJ.off rfl rfl (cB hb25) rfl rfl ?_
            refine QJ.off rfl rfl (cB hb25) rfl rfl ?_
            refine QJ.off rfl rfl (cB hb25) rfl rfl ?_
            refine QJ.step (YldS.yld (y_pick_t (cB hb25) rfl)) rfl ?_
            exact QJ.cut_end ⟨rfl, rfl, rfl, rfl, rfl, trivial⟩
          · replace h24 := orF h24 hb25
            refine QJ.on rfl rfl (cB hb25) (YldS.yld (y_move rfl)) rfl ?_
            refine QJ.on rfl rfl (cB hb25) (YldS.yld (y_nil rfl)) rfl ?_
            refine QJ.on rfl rfl (cB hb25) (YldS.yld (y_fld (ad := ad13) fld41_0 rfl)) rfl ?_
            refine QJ.on rfl rfl (cB hb25) (YldS.yld (y_load1 (v := str e11.low) Try.isAgg9 (ha14.sub 0 1) St.frozenC rfl)) rfl ?_
            refine QJ.on rfl rfl (cB hb25) (YldS.yld (y_move rfl)) rfl ?_
            refine QJ.on rfl rfl (cB hb25) (YldS.yld (y_nil rfl)) rfl ?_
            refine QJ.on rfl rfl (cB hb25) (YldS.yld (y_fld (ad := ad13) fld41_1 rfl)) rfl ?_
            refine QJ.on rfl rfl (cB hb25) (YldS.yld (y_load1 (v := str e11.high) Try.isAgg9 (ha14.sub 1 1) St.frozenC rfl)) rfl ?_
            refine QJ.on rfl rfl (cB hb25) (YldS.yld (y_binS rfl rfl rfl)) rfl ?_
            refine QJ.step (YldS.yld (y_pick_f (cB hb25) rfl)) rfl ?_
            obtain rfl := Option.some.inj h24
            exact QJ.cut_end ⟨rfl, rfl, rfl, rfl, rfl, trivial⟩
        refine QJ.done ?_
        refine PJ.next ?_
        refine WJ.cond (t := t23) rfl (fun hb26 => ?_) (fun hb26 => ?_)
        · replace hm := ifT hm hb26
          refine WJ.seq ?_
          refine WJ.quiet ?_
          refine QJ.step (YldS.yld (y_assign rfl)) rfl ?_
          refine QJ.done ?_
          refine PJ.next ?_
          refine WJ.ret ?_
          refine PJ.then_ret (PJ.block_ret (PJ.then_ret (PJ.then_ret (PJ.block_ret (PJ.then_ret ?_)))))
          obtain rfl := Option.some.inj hm
          refine PJ.sel (L' := []) [] ⟨List.nodup_nil, rfl⟩ ?_
          exact PJ.retn (vs := [.bool false]) Try.results70 ⟨rfl, trivial⟩ ⟨rfl, rfl⟩
        · replace hm := ifF hm hb26
          refine WJ.skip ?_
          refine PJ.next ?_
          refine WJ.seq ?_
          refine WJ.quiet_draw follows (by kernel_rfl) ?_
          refine QJ.step (YldS.yld (y_move rfl)) rfl ?_
          refine QJ.step (YldS.yld (y_move rfl)) rfl ?_
          obtain ⟨l27, h28, hm⟩ := bindS hm
          obtain ⟨v29, hr30, hy31⟩ := RdS.part (i := none) (j := some i9) hr3 h28
          refine QJ.step (YldS.yld (hy31 Try.runUnderlying24 Try.sizeOf41 rfl trivial ⟨_, rfl⟩)) rfl ?_
          refine QJ.step (YldS.yld (y_move rfl)) rfl ?_
          refine QJ.step (YldS.yld (y_nil rfl)) rfl ?_
          refine QJ.step (YldS.yld (y_fld (ad := ad13) fld41_0 rfl)) rfl ?_
          refine QJ.step (YldS.yld (y_load1 (v := str e11.low) Try.isAgg9 (ha14.sub 0 1) St.frozenC rfl)) rfl ?_
          obtain ⟨r32, h33, hm⟩ := bindS hm
          refine QJ.step (y_call Try.call79 rfl (RetG.quiet fun w hw => ok_s_l02Find h33 w _ (hr30.st hw))) rfl ?_
          refine QJ.step (YldS.yld (y_move rfl)) rfl ?_
          refine QJ.step (YldS.yld (y_extract rfl rfl)) rfl ?_
          refine QJ.step (YldS.yld (y_extract rfl rfl)) rfl ?_
          refine QJ.step (YldS.yld (y_assign rfl)) rfl ?_
          refine QJ.step (YldS.yld (y_assign rfl)) rfl ?_
          refine QJ.done ?_
          refine PJ.next ?_
          refine WJ.seq ?_
          refine WJ.quiet_draw follows (by kernel_rfl) ?_
          refine QJ.step (YldS.yld (y_move rfl)) rfl ?_
          refine QJ.step (YldS.yld (y_move rfl)) rfl ?_
          obtain ⟨l34, h35, hm⟩ := bindS hm
          obtain ⟨v36, hr37, hy38⟩ := RdS.part (i := none) (j := some i9) hr3 h35
          refine QJ.step (YldS.yld (hy38 Try.runUnderlying24 Try.sizeOf41 rfl trivial ⟨_, rfl⟩)) rfl ?_
          refine QJ.step (YldS.yld (y_move rfl)) rfl ?_
          refine QJ.step (YldS.yld (y_nil rfl)) rfl ?_
          refine QJ.step (YldS.yld (y_fld (ad := ad13) fld41_1 rfl)) rfl ?_
          refine QJ.step (YldS.yld (y_load1 (v := str e11.high) Try.isAgg9 (ha14.sub 1 1) St.frozenC rfl)) rfl ?_
          obtain ⟨r39, h40, hm⟩ := bindS hm
          refine QJ.step (y_call Try.call79 rfl (RetG.quiet fun w hw => ok_s_l02Find h40 w _ (hr37.st hw))) rfl ?_
          refine QJ.step (YldS.yld (y_move rfl)) rfl ?_
          refine QJ.step (YldS.yld (y_extract rfl rfl)) rfl ?_
          refine QJ.step (YldS.yld (y_extract rfl rfl)) rfl ?_
          refine QJ.step (YldS.yld (y_assign rfl)) rfl ?_
          refine QJ.step (YldS.yld (y_assign rfl)) rfl ?_
          refine QJ.done ?_
          refine PJ.next ?_
          refine WJ.seq ?_
          refine WJ.quiet ?_
          refine QJ.step (YldS.yld (y_move rfl)) rfl ?_
          refine QJ.step (YldS.yld (y_bin rfl rfl rfl)) rfl ?_
          refine QJ.step (YldS.yld (y_move rfl)) rfl ?_
          obtain ⟨t41, h42, hm⟩ := bindS hm
          refine QJ.cut 3 [(0, v2), (1, v5), (5, .int .i64 i9), (74, .bool t41)] ?_ ?_
          · rcases Bool.eq_false_or_eq_true (decide (r32.1 ≥ 0)) with hb43 | hb43
            · obtain rfl := orT h42 hb43
              refine QJ.off rfl rfl (cB hb43) rfl rfl ?_
              refine QJ.off rfl rfl (cB hb43) rfl rfl ?_
              refine QJ.step (YldS.yld (y_pick_t (cB hb43) rfl)) rfl ?_
              exact QJ.cut_end ⟨rfl, rfl, rfl, rfl, trivial⟩
            · replace h42 := orF h42 hb43
              refine QJ.on rfl rfl (cB hb43) (YldS.yld (y_move rfl)) rfl ?_
              refine QJ.on rfl rfl (cB hb43) (YldS.yld (y_bin rfl rfl rfl)) rfl ?_
              refine QJ.step (YldS.yld (y_pick_f (cB hb43) rfl)) rfl ?_
              obtain rfl := Option.some.inj h42
              exact QJ.cut_end ⟨rfl, rfl, rfl, rfl, trivial⟩
          refine QJ.done ?_
          refine PJ.next ?_
          refine WJ.cond (t := t41) rfl (fun hb44 => ?_) (fun hb44 => ?_)
          · replace hm := ifT hm hb44
            refine WJ.seq ?_
            refine WJ.quiet ?_
            refine QJ.step (YldS.yld (y_assign rfl)) rfl ?_
            refine QJ.done ?_
            refine PJ.next ?_
            refine WJ.ret ?_
            refine PJ.block_ret (PJ.then_ret (PJ.then_ret (PJ.block_ret (PJ.then_ret ?_))))
            obtain rfl := Option.some.inj hm
            refine PJ.sel (L' := []) [] ⟨List.nodup_nil, rfl⟩ ?_
            exact PJ.retn (vs := [.bool false]) Try.results70 ⟨rfl, trivial⟩ ⟨rfl, rfl⟩
          · replace hm := ifF hm hb44
            refine WJ.skip ?_
            refine PJ.block_normal (PJ.next ?_)
            refine WJ.quiet ?_
            refine QJ.step (YldS.yld (y_move rfl)) rfl ?_
            refine QJ.step (YldS.yld (y_bin rfl rfl rfl)) rfl ?_
            refine QJ.step (YldS.yld (y_assign rfl)) rfl ?_
            refine QJ.done ?_
            exact PJ.round (w64 (i9 + 1)) [] hm ⟨rfl, rfl, rfl, trivial⟩ ⟨List.nodup_nil, rfl⟩
      · replace hm := ifF hm hb10
        refine WJ.exit ?_
        refine PJ.then_exit (PJ.then_exit (PJ.block_exit ?_))
        exact PJ.joined () [] hm ⟨rfl, rfl, trivial⟩ ⟨List.nodup_nil, rfl⟩
  · rintro _ hm
    subst hk8
    obtain ⟨kj45, hk46, hm⟩ := withK_open hm
    refine WJ.join (X := Unit) (fun (_ : Unit) => kj45  = some r) (fun (_ : Unit) => [(0, v2), (1, v5)]) (fun (_ : Unit) => []) ?_ ?_
    · clear hk46
      refine WJ.seq ?_
      refine WJ.quiet ?_
      refine QJ.step (YldS.yld (y_assign rfl)) rfl ?_
      refine QJ.done ?_
      refine PJ.next ?_
      refine WJ.block ?_
      refine WJ.sel (L' := (fun (x : Int) => []) 0) [] ⟨List.nodup_nil, rfl⟩ ?_
      refine WJ.sub (m' := (fun (x : Int) => [(0, v2), (1, v5), (11, .int .i64 x)]) 0) ⟨rfl, rfl, rfl, trivial⟩ ?_
      refine WJ.loop (X := Int) (fun N (x : Int) => s_l02Ok_l2 kj45 keys1 accents4 N x = some r) (fun (x : Int) => [(0, v2), (1, v5), (11, .int .i64 x)]) (fun (x : Int) => []) ?_ N 0 hm
      · rintro N i47 hI
        have hm := hI; clear hI
        cases N with
        | zero => cases hm
        | succ N =>
        unfold s_l02Ok_l2 at hm
        refine WJ.seq ?_
        refine WJ.seq ?_
        refine WJ.quiet ?_
        refine QJ.step (YldS.yld (y_move rfl)) rfl ?_
        refine QJ.step (YldS.yld (y_move rfl)) rfl ?_
        refine QJ.step (YldS.yld (y_lenS Try.runUnderlying25 hr6 rfl)) rfl ?_
        refine QJ.step (YldS.yld (y_bin rfl rfl rfl)) rfl ?_
        refine QJ.done ?_
        refine PJ.next ?_
        refine WJ.cond (t := decide (i47 < (List.length accents4 : Int))) rfl (fun hb48 => ?_) (fun hb48 => ?_)
        · replace hm := ifT hm hb48
          refine WJ.skip ?_
          refine PJ.next ?_
          obtain ⟨kj49, hk50, hm⟩ := withK_open hm
          refine WJ.join (X := Unit) (fun (_ : Unit) => kj49  = some r) (fun (_ : Unit) => [(0, v2), (1, v5), (11, .int .i64 i47)]) (fun (_ : Unit) => []) ?_ ?_
          · clear hk50
            refine WJ.block ?_
            refine WJ.seq ?_
            refine WJ.seq ?_
            refine WJ.quiet ?_
            refine QJ.step (YldS.yld (y_move rfl)) rfl ?_
            refine QJ.step (YldS.yld (y_move rfl)) rfl ?_
            refine QJ.step (YldS.yld (y_move rfl)) rfl ?_
            obtain ⟨e51, h52, hm⟩ := bindS hm
            obtain ⟨ad53, _, rfl, ha54, hy55⟩ := hr6.elem h52
            refine QJ.step (YldS.yld (hy55 Try.runUnderlying25 Try.sizeOf101 rfl rfl)) rfl ?_
            obtain ⟨r56, h57, hm⟩ := bindS hm
            refine QJ.step (y_call Try.call119 rfl (RetG.quiet fun w hw => ok_s_l02Accent h57 w _ (hr3.st hw) _ (ha54.st hw))) rfl ?_
            refine QJ.step (YldS.yld (y_not rfl)) rfl ?_
            refine QJ.done ?_
            refine PJ.next ?_
            refine WJ.cond (t := !r56) rfl (fun hb58 => ?_) (fun hb58 => ?_)
            · replace hm := ifT hm hb58
              refine WJ.seq ?_
              refine WJ.quiet ?_
              refine QJ.step (YldS.yld (y_assign rfl)) rfl ?_
              refine QJ.done ?_
              refine PJ.next ?_
              refine WJ.ret ?_
              refine PJ.then_ret (PJ.block_ret (PJ.then_ret (PJ.then_ret (PJ.block_ret (PJ.then_ret ?_)))))
              obtain rfl := Option.some.inj hm
              refine PJ.sel (L' := []) [] ⟨List.nodup_nil, rfl⟩ ?_
              exact PJ.retn (vs := [.bool false]) Try.results70 ⟨rfl, trivial⟩ ⟨rfl, rfl⟩
            · replace hm := ifF hm hb58
              refine WJ.skip ?_
              refine PJ.next ?_
              refine WJ.seq ?_
              refine WJ.quiet ?_
              refine QJ.step (YldS.yld (y_assign rfl)) rfl ?_
              refine QJ.done ?_
              refine PJ.next ?_
              refine WJ.block ?_
              refine WJ.sel (L' := (fun (x : Int) => []) 0) [] ⟨List.nodup_nil, rfl⟩ ?_
              refine WJ.sub (m' := (fun (x : Int) => [(0, v2), (1, v5), (11, .int .i64 i47), (12, .int .i64 x)]) 0) ⟨rfl, rfl, rfl, rfl, trivial⟩ ?_
              refine WJ.loop (X := Int) (fun N (x : Int) => s_l02Ok_l3 kj49 accents4 i47 N x = some r) (fun (x : Int) => [(0, v2), (1, v5), (11, .int .i64 i47), (12, .int .i64 x)]) (fun (x : Int) => []) ?_ N 0 hm
              · rintro N k59 hI
                have hm := hI; clear hI
                cases N with
                | zero => cases hm
                | succ N =>
                unfold s_l02Ok_l3 at hm
                refine WJ.seq ?_
                refine WJ.seq ?_
                refine WJ.quiet ?_
                refine QJ.step (YldS.yld (y_move rfl)) rfl ?_
                refine QJ.step (YldS.yld (y_move rfl)) rfl ?_
                refine QJ.step (YldS.yld (y_bin rfl rfl rfl)) rfl ?_
                refine QJ.done ?_
                refine PJ.next ?_
                refine WJ.cond (t := decide (k59 < i47)) rfl (fun hb60 => ?_) (fun hb60 => ?_)
                · replace hm := ifT hm hb60
                  refine WJ.skip ?_
                  refine PJ.next ?_
                  refine WJ.seq ?_
                  refine WJ.block ?_
                  refine WJ.seq ?_
                  refine WJ.quiet_draw follows (by kernel_rfl) ?_
                  refine QJ.step (YldS.yld (y_move rfl)) rfl ?_
                  refine QJ.step (YldS.yld (y_move rfl)) rfl ?_
                  obtain ⟨e61, h62, hm⟩ := bindS hm
                  obtain ⟨ad63, _, rfl, ha64, hy65⟩ := hr6.elem h62
                  refine QJ.step (YldS.yld (hy65 Try.runUnderlying25 Try.sizeOf101 rfl rfl)) rfl ?_
                  refine QJ.step (YldS.yld (y_fld (ad := ad63) fld101_2 rfl)) rfl ?_
                  refine QJ.step (YldS.yld (y_load1 (v := str e61.made) Try.isAgg9 (ha64.sub 2 1) St.frozenC rfl)) rfl ?_
                  refine QJ.step (YldS.yld (y_move rfl)) rfl ?_
                  refine QJ.step (YldS.yld (y_move rfl)) rfl ?_
                  obtain ⟨e66, h67, hm⟩ := bindS hm
                  obtain ⟨ad68, _, rfl, ha69, hy70⟩ := hr6.elem h67
                  refine QJ.step (YldS.yld (hy70 Try.runUnderlying25 Try.sizeOf101 rfl rfl)) rfl ?_
                  refine QJ.step (YldS.yld (y_fld (ad := ad68) fld101_2 rfl)) rfl ?_
                  refine QJ.step (YldS.yld (y_load1 (v := str e66.made) Try.isAgg9 (ha69.sub 2 1) St.frozenC rfl)) rfl ?_
                  refine QJ.step (YldS.yld (y_binS rfl rfl rfl)) rfl ?_
                  refine QJ.step (YldS.yld (y_move rfl)) rfl ?_
                  obtain ⟨t71, h72, hm⟩ := bindS hm
                  refine QJ.cut 25 [(0, v2), (1, v5), (11, .int .i64 i47), (12, .int .i64 k59), (128, .bool t71)] ?_ ?_
                  · rcases Bool.eq_false_or_eq_true (e61.made == e66.made) with hb73 | hb73
                    · obtain rfl := orT h72 hb73
                      refine QJ.off rfl rfl (cB hb73) rfl rfl ?_
                      refine QJ.off rfl rfl (cB hb73) rfl rfl ?_
                      refine QJ.off rfl rfl (cB hb73) rfl rfl ?_
                      refine QJ.off rfl rfl (cB hb73) rfl rfl ?_
                      refine QJ.off rfl rfl (cB hb73) rfl rfl ?_
                      refine QJ.off rfl rfl (cB hb73) rfl rfl ?_
                      refine QJ.off rfl rfl (cB hb73) rfl rfl ?_
                      refine QJ.off rfl rfl (cB hb73) rfl rfl ?_
                      refine QJ.off rfl rfl (cB hb73) rfl rfl ?_
                      refine QJ.off rfl rfl (cB hb73) rfl rfl ?_
                      refine QJ.off rfl rfl (cB hb73) rfl rfl ?_
                      refine QJ.off rfl rfl (cB hb73) rfl rfl ?_
                      refine QJ.off_undef rfl rfl rfl rfl ?_
                      refine QJ.off_undef rfl rfl rfl rfl ?_
                      refine QJ.off_undef rfl rfl rfl rfl ?_
                      refine QJ.off_undef rfl rfl rfl rfl ?_
                      refine QJ.off_undef rfl rfl rfl rfl ?_
                      refine QJ.off_undef rfl rfl rfl rfl ?_
                      refine QJ.off_undef rfl rfl rfl rfl ?_
                      refine QJ.off_undef rfl rfl rfl rfl ?_
                      refine QJ.off_undef rfl rfl rfl rfl ?_
                      refine QJ.off_undef rfl rfl rfl rfl ?_
                      refine QJ.off_undef rfl rfl rfl rfl ?_
                      refine QJ.off rfl rfl (cB hb73) rfl rfl ?_
                      refine QJ.step (YldS.yld (y_pick_t (cB hb73) rfl)) rfl ?_
                      exact QJ.cut_end ⟨rfl, rfl, rfl, rfl, rfl, trivial⟩
                    · replace h72 := orF h72 hb73
                      refine QJ.on rfl rfl (cB hb73) (YldS.yld (y_move rfl)) rfl ?_
                      refine QJ.on rfl rfl (cB hb73) (YldS.yld (y_move rfl)) rfl ?_
                      obtain ⟨e74, h75, h72⟩ := bindS h72
                      obtain ⟨ad76, _, rfl, ha77, hy78⟩ := hr6.elem h75
                      refine QJ.on rfl rfl (cB hb73) (YldS.yld (hy78 Try.runUnderlying25 Try.sizeOf101 rfl rfl)) rfl ?_
                      refine QJ.on rfl rfl (cB hb73) (YldS.yld (y_fld (ad := ad76) fld101_0 rfl)) rfl ?_
                      refine QJ.on rfl rfl (cB hb73) (YldS.yld (y_load1 (v := str e74.mark) Try.isAgg9 (ha77.sub 0 1) St.frozenC rfl)) rfl ?_
                      refine QJ.on rfl rfl (cB hb73) (YldS.yld (y_move rfl)) rfl ?_
                      refine QJ.on rfl rfl (cB hb73) (YldS.yld (y_move rfl)) rfl ?_
                      obtain ⟨e79, h80, h72⟩ := bindS h72
                      obtain ⟨ad81, _, rfl, ha82, hy83⟩ := hr6.elem h80
                      refine QJ.on rfl rfl (cB hb73) (YldS.yld (hy83 Try.runUnderlying25 Try.sizeOf101 rfl rfl)) rfl ?_
                      refine QJ.on rfl rfl (cB hb73) (YldS.yld (y_fld (ad := ad81) fld101_0 rfl)) rfl ?_
                      refine QJ.on rfl rfl (cB hb73) (YldS.yld (y_load1 (v := str e79.mark) Try.isAgg9 (ha82.sub 0 1) St.frozenC rfl)) rfl ?_
                      refine QJ.on rfl rfl (cB hb73) (YldS.yld (y_binS rfl rfl rfl)) rfl ?_
                      refine QJ.on rfl rfl (cB hb73) (YldS.yld (y_move rfl)) rfl ?_
                      obtain ⟨t84, h85, h72⟩ := bindS h72
                      refine QJ.cut 12 [(0, v2), (1, v5), (11, .int .i64 i47), (12, .int .i64 k59), (103, .bool (e61.made == e66.made)), (104, v5), (105, .int .i64 k59), (106, .pointer (some ad76)), (107, .pointer (some ad76)), (108, str e74.mark), (109, v5), (110, .int .i64 i47), (111, .pointer (some ad81)), (112, .pointer (some ad81)), (113, str e79.mark), (114, .bool (e74.mark == e79.mark)), (115, .bool (e74.mark == e79.mark)), (127, .bool t84)] ?_ ?_
                      · rcases Bool.eq_false_or_eq_true (e74.mark == e79.mark) with hb86 | hb86
                        · replace h85 := andT h85 hb86
                          refine QJ.on rfl rfl (cB hb86) (YldS.yld (y_move rfl)) rfl ?_
                          refine QJ.on rfl rfl (cB hb86) (YldS.yld (y_move rfl)) rfl ?_
                          obtain ⟨e87, h88, h85⟩ := bindS h85
                          obtain ⟨ad89, _, rfl, ha90, hy91⟩ := hr6.elem h88
                          refine QJ.on rfl rfl (cB hb86) (YldS.yld (hy91 Try.runUnderlying25 Try.sizeOf101 rfl rfl)) rfl ?_
                          refine QJ.on rfl rfl (cB hb86) (YldS.yld (y_fld (ad := ad89) fld101_1 rfl)) rfl ?_
                          refine QJ.on rfl rfl (cB hb86) (YldS.yld (y_load1 (v := str e87.letter) Try.isAgg9 (ha90.sub 1 1) St.frozenC rfl)) rfl ?_
                          refine QJ.on rfl rfl (cB hb86) (YldS.yld (y_move rfl)) rfl ?_
                          refine QJ.on rfl rfl (cB hb86) (YldS.yld (y_move rfl)) rfl ?_
                          obtain ⟨e92, h93, h85⟩ := bindS h85
                          obtain ⟨ad94, _, rfl, ha95, hy96⟩ := hr6.elem h93
                          refine QJ.on rfl rfl (cB hb86) (YldS.yld (hy96 Try.runUnderlying25 Try.sizeOf101 rfl rfl)) rfl ?_
                          refine QJ.on rfl rfl (cB hb86) (YldS.yld (y_fld (ad := ad94) fld101_1 rfl)) rfl ?_
                          refine QJ.on rfl rfl (cB hb86) (YldS.yld (y_load1 (v := str e92.letter) Try.isAgg9 (ha95.sub 1 1) St.frozenC rfl)) rfl ?_
                          refine QJ.on rfl rfl (cB hb86) (YldS.yld (y_binS rfl rfl rfl)) rfl ?_
                          refine QJ.on rfl rfl (cB hb73) (YldS.yld (y_pick_t (cB hb86) rfl)) rfl ?_
                          obtain rfl := Option.some.inj h85
                          exact QJ.cut_end ⟨rfl, rfl, rfl, rfl, rfl, rfl, rfl, rfl, rfl, rfl, rfl, rfl, rfl, rfl, rfl, rfl, rfl, rfl, trivial⟩
                        · obtain rfl := andF h85 hb86
                          refine QJ.off rfl rfl (cB hb86) rfl rfl ?_
                          refine QJ.off rfl rfl (cB hb86) rfl rfl ?_
                          refine QJ.off rfl rfl (cB hb86) rfl rfl ?_
                          refine QJ.off rfl rfl (cB hb86) rfl rfl ?_
                          refine QJ.off rfl rfl (cB hb86) rfl rfl ?_
                          refine QJ.off rfl rfl (cB hb86) rfl rfl ?_
                          refine QJ.off rfl rfl (cB hb86) rfl rfl ?_
                          refine QJ.off rfl rfl (cB hb86) rfl rfl ?_
                          refine QJ.off rfl rfl (cB hb86) rfl rfl ?_
                          refine QJ.off rfl rfl (cB hb86) rfl rfl ?_
                          refine QJ.off rfl rfl (cB hb86) rfl rfl ?_
                          refine QJ.on rfl rfl (cB hb73) (YldS.yld (y_pick_f (cB hb86) rfl)) rfl ?_
                          exact QJ.cut_end ⟨rfl, rfl, rfl, rfl, rfl, rfl, rfl, rfl, rfl, rfl, rfl, rfl, rfl, rfl, rfl, rfl, rfl, rfl, trivial⟩
                      refine QJ.step (YldS.yld (y_pick_f (cB hb73) rfl)) rfl ?_
                      obtain rfl := Option.some.inj h72
                      exact QJ.cut_end ⟨rfl, rfl, rfl, rfl, rfl, trivial⟩
                  refine QJ.done ?_
                  refine PJ.next ?_
                  refine WJ.cond (t := t71) rfl (fun hb97 => ?_) (fun hb97 => ?_)
                  · replace hm := ifT hm hb97
                    refine WJ.seq ?_
                    refine WJ.quiet ?_
                    refine QJ.step (YldS.yld (y_assign rfl)) rfl ?_
                    refine QJ.done ?_
                    refine PJ.next ?_
                    refine WJ.ret ?_
                    refine PJ.block_ret (PJ.then_ret (PJ.then_ret (PJ.block_ret (PJ.block_ret (PJ.then_ret (PJ.then_ret (PJ.block_ret (PJ.then_ret ?_))))))))
                    obtain rfl := Option.some.inj hm
                    refine PJ.sel (L' := []) [] ⟨List.nodup_nil, rfl⟩ ?_
                    exact PJ.retn (vs := [.bool false]) Try.results70 ⟨rfl, trivial⟩ ⟨rfl, rfl⟩
                  · replace hm := ifF hm hb97
                    refine WJ.skip ?_
                    refine PJ.block_normal (PJ.next ?_)
                    refine WJ.quiet ?_
                    refine QJ.step (YldS.yld (y_move rfl)) rfl ?_
                    refine QJ.step (YldS.yld (y_bin rfl rfl rfl)) rfl ?_
                    refine QJ.step (YldS.yld (y_assign rfl)) rfl ?_
                    refine QJ.done ?_
                    exact PJ.round (w64 (k59 + 1)) [] hm ⟨rfl, rfl, rfl, rfl, trivial⟩ ⟨List.nodup_nil, rfl⟩
                · replace hm := ifF hm hb60
                  refine WJ.exit ?_
                  refine PJ.then_exit (PJ.then_exit (PJ.block_exit (PJ.block_normal ?_)))
                  exact PJ.joined () [] hm ⟨rfl, rfl, rfl, trivial⟩ ⟨List.nodup_nil, rfl⟩
          · rintro _ hm
            subst hk50
            refine WJ.quiet ?_
            refine QJ.step (YldS.yld (y_move rfl)) rfl ?_
            refine QJ.step (YldS.yld (y_bin rfl rfl rfl)) rfl ?_
            refine QJ.step (YldS.yld (y_assign rfl)) rfl ?_
            refine QJ.done ?_
            exact PJ.round (w64 (i47 + 1)) [] hm ⟨rfl, rfl, rfl, trivial⟩ ⟨List.nodup_nil, rfl⟩
        · replace hm := ifF hm hb48
          refine WJ.exit ?_
          refine PJ.then_exit (PJ.then_exit (PJ.block_exit ?_))
          exact PJ.joined () [] hm ⟨rfl, rfl, trivial⟩ ⟨List.nodup_nil, rfl⟩
    · rintro _ hm
      subst hk46
      refine WJ.seq ?_
      refine WJ.quiet ?_
      refine QJ.step (YldS.yld (y_move rfl)) rfl ?_
      refine QJ.step (YldS.yld (y_lenS Try.runUnderlying24 hr3 rfl)) rfl ?_
      refine QJ.step (YldS.yld (y_bin rfl rfl rfl)) rfl ?_
      refine QJ.step (YldS.yld (y_move rfl)) rfl ?_
      obtain ⟨t98, h99, hm⟩ := bindS hm
      refine QJ.cut 4 [(136, .bool t98)] ?_ ?_
      · rcases Bool.eq_false_or_eq_true (decide ((List.length keys1 : Int) ≤ 40)) with hb100 | hb100
        · replace h99 := andT h99 hb100
          refine QJ.on rfl rfl (cB hb100) (YldS.yld (y_move rfl)) rfl ?_
          refine QJ.on rfl rfl (cB hb100) (YldS.yld (y_lenS Try.runUnderlying25 hr6 rfl)) rfl ?_
          refine QJ.on rfl rfl (cB hb100) (YldS.yld (y_bin rfl rfl rfl)) rfl ?_
          refine QJ.step (YldS.yld (y_pick_t (cB hb100) rfl)) rfl ?_
          obtain rfl := Option.some.inj h99
          exact QJ.cut_end ⟨rfl, trivial⟩
        · obtain rfl := andF h99 hb100
          refine QJ.off rfl rfl (cB hb100) rfl rfl ?_
          refine QJ.off rfl rfl (cB hb100) rfl rfl ?_
          refine QJ.off rfl rfl (cB hb100) rfl rfl ?_
          refine QJ.step (YldS.yld (y_pick_f (cB hb100) rfl)) rfl ?_
          exact QJ.cut_end ⟨rfl, trivial⟩
      refine QJ.step (YldS.yld (y_assign rfl)) rfl ?_
      refine QJ.done ?_
      refine PJ.next ?_
      refine WJ.ret ?_
      obtain rfl := Option.some.inj hm
      refine PJ.sel (L' := []) [] ⟨List.nodup_nil, rfl⟩ ?_
      exact PJ.retn (vs := [.bool t98]) Try.results70 ⟨rfl, trivial⟩ ⟨rfl, rfl⟩

set_option maxRecDepth 100000 in
set_option maxHeartbeats 1000000 in
theorem ok_s_l02Draw {N : Nat} {s1 : L00Src} {g2 : Nat} {r : (List Key) × (List Accent) × L00Src} (hm : s_l02Draw N s1 = some r) (w : World) (S : Nat → Prop) (v3 : Value) (hr4 : RdS w (Cx.Fz ⟨w, S⟩) v3 fByte.rp s1.code) (hA : (box g2 157 [v3, .int .i64 s1.at_, .int .u64 s1.seed]).holds w S) :
    Calls Try.prog 120 #[pt g2 0] w (RetG ⟨w, S⟩ fun u L => ∃ (u1 : Value) (u2 : Value), (u = tup [u1, u2] ∧ L = [box g2 157 [v3, .int .i64 r.2.2.at_, .int .u64 r.2.2.seed], row u1 41 fKey r.1, row u2 101 fAccent r.2.1])) := by
  unfold s_l02Draw at hm
  refine Calls.enter1 hA [pt g2 0] Try.func120 rfl Try.ntmps120 rfl ?_
  refine WJ.seq ?_
  refine WJ.quiet ?_
  refine QJ.step (YldS.yld (y_assign rfl)) rfl ?_
  refine QJ.step (YldS.yld (y_assign rfl)) rfl ?_
  refine QJ.done ?_
  refine PJ.next ?_
  refine WJ.seq ?_
  refine WJ.quiet ?_
  refine QJ.step (YldS.yld (y_assign rfl)) rfl ?_
  refine QJ.done ?_
  refine PJ.next ?_
  refine WJ.seq ?_
  refine WJ.quiet ?_
  refine QJ.step (YldS.yld (y_assign rfl)) rfl ?_
  refine QJ.done ?_
  refine PJ.next ?_
  refine WJ.seq ?_
  refine WJ.reg ?_
  refine SJ.buildSlice (R := fKey) (os := []) [] Try.runUnderlying24 Try.sizeOf41 Try.zeroValue41 rfl rfl rfl rfl rfl rfl fun v5 => ?_
  refine SJ.q (YldS.yld (y_assign rfl)) rfl ?_
  refine SJ.nil ?_
  refine PJ.next ?_
  obtain ⟨kj10, hk11, hm⟩ := withK_open hm
  refine WJ.join (X := (List Key) × Value × Int × Int) (fun (x : (List Key) × Value × Int × Int) => kj10 x.1 x.2.2.1 x.2.2.2 = some r) (fun (x : (List Key) × Value × Int × Int) => [(0, pt g2 0), (4, str [97, 98, 99, 100, 101, 102, 103, 104]), (6, x.2.1)]) (fun (x : (List Key) × Value × Int × Int) => [row x.2.1 41 fKey x.1, box g2 157 [v3, .int .i64 x.2.2.1, .int .u64 x.2.2.2]]) ?_ ?_
  · clear hk11
    refine WJ.seq ?_
    refine WJ.quiet ?_
    refine QJ.step (YldS.yld (y_assign rfl)) rfl ?_
    refine QJ.done ?_
    refine PJ.next ?_
    refine WJ.block ?_
    refine WJ.sel (L' := (fun (x : (List Key) × Value × Int × Int × Int) => [row x.2.1 41 fKey x.1, box g2 157 [v3, .int .i64 x.2.2.1, .int .u64 x.2.2.2.1]]) ([], v5, s1.at_, s1.seed, 0)) [0, 1] ⟨by decide, rfl⟩ ?_
    refine WJ.sub (m' := (fun (x : (List Key) × Value × Int × Int × Int) => [(0, pt g2 0), (4, str [97, 98, 99, 100, 101, 102, 103, 104]), (5, str [65, 66, 67, 68, 69, 70, 71, 72]), (6, x.2.1), (7, .int .i64 x.2.2.2.2)]) ([], v5, s1.at_, s1.seed, 0)) ⟨rfl, rfl, rfl, rfl, rfl, trivial⟩ ?_
    refine WJ.loop (X := (List Key) × Value × Int × Int × Int) (fun N (x : (List Key) × Value × Int × Int × Int) => s_l02Draw_l1 kj10 s1 N x.1 x.2.2.1 x.2.2.2.1 x.2.2.2.2 = some r) (fun (x : (List Key) × Value × Int × Int × Int) => [(0, pt g2 0), (4, str [97, 98, 99, 100, 101, 102, 103, 104]), (5, str [65, 66, 67, 68, 69, 70, 71, 72]), (6, x.2.1), (7, .int .i64 x.2.2.2.2)]) (fun (x : (List Key) × Value × Int × Int × Int) => [row x.2.1 41 fKey x.1, box g2 157 [v3, .int .i64 x.2.2.1, .int .u64 x.2.2.2.1]]) ?_ N ([], v5, s1.at_, s1.seed, 0) hm
    · rintro N ⟨l12, v13, x14, x15, i16⟩ hI
      have hm := hI; clear hI
      cases N with
      | zero => cases hm
      | succ N =>
      unfold s_l02Draw_l1 at hm
      refine WJ.seq ?_
      refine WJ.seq ?_
      refine WJ.quiet ?_
      refine QJ.step (YldS.yld (y_move rfl)) rfl ?_
      refine QJ.step (YldS.yld (y_move rfl)) rfl ?_
      refine QJ.step (YldS.yld (y_lenStr Try.runUnderlying9 rfl)) rfl ?_
      refine QJ.step (YldS.yld (y_bin rfl rfl rfl)) rfl ?_
      refine QJ.done ?_
      refine PJ.next ?_
      refine WJ.cond (t := decide (i16 < (List.length [97, 98, 99, 100, 101, 102, 103, 104] : Int))) rfl (fun hb17 => ?_) (fun hb17 => ?_)
      · replace hm := ifT hm hb17
        refine WJ.skip ?_
        refine PJ.next ?_
        obtain ⟨kj22, hk23, hm⟩ := withK_open hm
        refine WJ.join (X := Int × Int × (List Key) × Value) (fun (x : Int × Int × (List Key) × Value) => kj22 x.1 x.2.1 x.2.2.1 = some r) (fun (x : Int × Int × (List Key) × Value) => [(0, pt g2 0), (4, str [97, 98, 99, 100, 101, 102, 103, 104]), (5, str [65, 66, 67, 68, 69, 70, 71, 72]), (6, x.2.2.2), (7, .int .i64 i16)]) (fun (x : Int × Int × (List Key) × Value) => [box g2 157 [v3, .int .i64 x.1, .int .u64 x.2.1], row x.2.2.2 41 fKey x.2.2.1]) ?_ ?_
        · clear hk23
          refine WJ.block ?_
          refine WJ.seq ?_
          refine WJ.seq ?_
          refine WJ.reg ?_
          refine SJ.q (YldS.yld (y_move rfl)) rfl ?_
          obtain ⟨r24, h25, hm⟩ := bindS hm
          refine SJ.call1 (k := 1) rfl Try.call84 rfl (fun w S hw hA hO => ok_s_l00Src_one h25 w S _ (hr4.st1 hw hO) hA) rfl ?_
          rintro _ _ ⟨rfl, rfl⟩
          refine SJ.nil ?_
          refine PJ.next ?_
          refine WJ.cond (t := r24.1) rfl (fun hb26 => ?_) (fun hb26 => ?_)
          · replace hm := ifT hm hb26
            refine WJ.exit ?_
            refine PJ.then_exit (PJ.block_exit ?_)
            exact PJ.joined (r24.2.at_, r24.2.seed, l12, v13) [0, 1] hm ⟨rfl, rfl, rfl, rfl, rfl, trivial⟩ ⟨by decide, rfl⟩
          · replace hm := ifF hm hb26
            refine WJ.skip ?_
            refine PJ.next ?_
            obtain ⟨s27, h28, hm⟩ := bindS hm
            obtain ⟨s29, h30, hm⟩ := bindS hm
            obtain ⟨l32, h33, hm⟩ := bindS hm
            refine WJ.draws (N := 15) (listed0 := #[false, false, false, false, false, false, false, false, false, false, false, false, false, false, false]) [box g2 157 [v3, .int .i64 r24.2.at_, .int .u64 r24.2.seed]] follows rfl rfl ?_
            refine RJ.first 0 (listed' := #[true, false, false, false, false, false, false, false, false, false, false, false, false, false, false]) [0] rfl (by kernel_rfl) rfl ⟨by decide, rfl⟩ (y_move rfl) rfl ?_
            refine RJ.first 1 (listed' := #[true, true, false, false, false, false, false, false, false, false, false, false, false, false, false]) [0] rfl (by kernel_rfl) rfl ⟨by decide, rfl⟩ (y_move rfl) rfl ?_
            refine RJ.first 2 (listed' := #[true, true, true, false, false, false, false, false, false, false, false, false, false, false, false]) [0] rfl (by kernel_rfl) rfl ⟨by decide, rfl⟩ (y_move rfl) rfl ?_
            refine RJ.first 3 (listed' := #[true, true, true, true, false, false, false, false, false, false, false, false, false, false, false]) [0] rfl (by kernel_rfl) rfl ⟨by decide, rfl⟩ (y_move rfl) rfl ?_
            refine RJ.first 4 (listed' := #[true, true, true, true, true, false, false, false, false, false, false, false, false, false, false]) [0] rfl (by kernel_rfl) rfl ⟨by decide, rfl⟩ (y_bin rfl rfl rfl) rfl ?_
            refine RJ.first 5 (listed' := #[true, true, true, true, true, true, false, false, false, false, false, false, false, false, false]) [0] rfl (by kernel_rfl) rfl ⟨by decide, rfl⟩ (y_subStr (i := some i16) (j := some (w64 (i16 + 1))) h28 Try.runUnderlying9 rfl ⟨_, rfl⟩ ⟨_, rfl⟩) rfl ?_
            refine RJ.first 6 (listed' := #[true, true, true, true, true, true, true, false, false, false, false, false, false, false, false]) [0] rfl (by kernel_rfl) rfl ⟨by decide, rfl⟩ (y_move rfl) rfl ?_
            refine RJ.first 7 (listed' := #[true, true, true, true, true, true, true, true, false, false, false, false, false, false, false]) [0] rfl (by kernel_rfl) rfl ⟨by decide, rfl⟩ (y_move rfl) rfl ?_
            refine RJ.first 8 (listed' := #[true, true, true, true, true, true, true, true, true, false, false, false, false, false, false]) [0] rfl (by kernel_rfl) rfl ⟨by decide, rfl⟩ (y_move rfl) rfl ?_
            refine RJ.first 9 (listed' := #[true, true, true, true, true, true, true, true, true, true, false, false, false, false, false]) [0] rfl (by kernel_rfl) rfl ⟨by decide, rfl⟩ (y_bin rfl rfl rfl) rfl ?_
            refine RJ.first 10 (listed' := #[true, true, true, true, true, true, true, true, true, true, true, false, false, false, false]) [0] rfl (by kernel_rfl) rfl ⟨by decide, rfl⟩ (y_subStr (i := some i16) (j := some (w64 (i16 + 1))) h30 Try.runUnderlying9 rfl ⟨_, rfl⟩ ⟨_, rfl⟩) rfl ?_
            refine RJ.first 11 (listed' := #[true, true, true, true, true, true, true, true, true, true, true, true, false, false, false]) [0] rfl (by kernel_rfl) rfl ⟨by decide, rfl⟩ (y_build (parts := [(0, .tmp 27), (1, .tmp 32)]) (places := [(0, 1), (1, 1), (2, 1)]) (r := [str ((Key.mk s27 s29 false).low), str ((Key.mk s27 s29 false).high), .bool ((Key.mk s27 s29 false).dead)]) pl41 Try.zeroValue41 rfl rfl rfl rfl) rfl ?_
            refine RJ.step1 12 [0] (by kernel_rfl) ⟨by decide, rfl⟩ ?_
            refine RO.of (listed' := #[true, true, true, true, true, true, true, true, true, true, true, true, true, false, false]) rfl rfl ?_
            refine SJ.buildSlice (R := fKey) (os := [.tmp 33]) [(Key.mk s27 s29 false)] Try.runUnderlying24 Try.sizeOf41 Try.zeroValue41 rfl rfl rfl rfl rfl rfl fun v31 => ?_
            refine SJ.nil ?_
            refine PJ.draw ?_
            refine RJ.step1 13 [1] (by kernel_rfl) ⟨by decide, rfl⟩ ?_
            refine RO.of (listed' := #[true, true, true, true, true, true, true, true, true, true, true, true, true, true, false]) rfl rfl ?_
            refine SJ.append (k := 2) (R := fKey) h33 rfl Try.underlying24 el41 rfl rfl rfl (fun w hw => (hw.row_rd (k := 0) rfl)) rfl fun v34 => ?_
            refine SJ.nil ?_
            refine PJ.draw ?_
            refine RJ.first 14 (listed' := #[true, true, true, true, true, true, true, true, true, true, true, true, true, true, true]) [1] rfl (by kernel_rfl) rfl ⟨by decide, rfl⟩ (y_assign rfl) rfl ?_
            refine RJ.fin [1] (by kernel_rfl) ⟨by decide, rfl⟩ ?_
            refine PJ.block_normal ?_
            exact PJ.joined (r24.2.at_, r24.2.seed, l32, v34) [1, 2] hm ⟨rfl, rfl, rfl, rfl, rfl, trivial⟩ ⟨by decide, rfl⟩
        · rintro ⟨x18, x19, l20, v21⟩ hm
          subst hk23
          refine WJ.quiet ?_
          refine QJ.step (YldS.yld (y_move rfl)) rfl ?_
          refine QJ.step (YldS.yld (y_bin rfl rfl rfl)) rfl ?_
          refine QJ.step (YldS.yld (y_assign rfl)) rfl ?_
          refine QJ.done ?_
          exact PJ.round (l20, v21, x18, x19, w64 (i16 + 1)) [1, 0] hm ⟨rfl, rfl, rfl, rfl, rfl, trivial⟩ ⟨by decide, rfl⟩
      · replace hm := ifF hm hb17
        refine WJ.exit ?_
        refine PJ.then_exit (PJ.then_exit (PJ.block_exit ?_))
        exact PJ.joined (l12, v13, x14, x15) [0, 1] hm ⟨rfl, rfl, rfl, trivial⟩ ⟨by decide, rfl⟩
  · rintro ⟨l6, v7, x8, x9⟩ hm
    subst hk11
    obtain ⟨kj39, hk40, hm⟩ := withK_open hm
    refine WJ.join (X := Int × Int × (List Key) × Value) (fun (x : Int × Int × (List Key) × Value) => kj39 x.1 x.2.1 x.2.2.1 = some r) (fun (x : Int × Int × (List Key) × Value) => [(0, pt g2 0), (4, str [97, 98, 99, 100, 101, 102, 103, 104]), (6, x.2.2.2)]) (fun (x : Int × Int × (List Key) × Value) => [box g2 157 [v3, .int .i64 x.1, .int .u64 x.2.1], row x.2.2.2 41 fKey x.2.2.1]) ?_ ?_
    · clear hk40
      refine WJ.seq ?_
      refine WJ.reg ?_
      refine SJ.q (YldS.yld (y_move rfl)) rfl ?_
      obtain ⟨r41, h42, hm⟩ := bindS hm
      refine SJ.call1 (k := 1) rfl Try.call84 rfl (fun w S hw hA hO => ok_s_l00Src_one h42 w S _ (hr4.st1 hw hO) hA) rfl ?_
      rintro _ _ ⟨rfl, rfl⟩
      refine SJ.nil ?_
      refine PJ.next ?_
      refine WJ.cond (t := r41.1) rfl (fun hb43 => ?_) (fun hb43 => ?_)
      · replace hm := ifT hm hb43
        refine WJ.reg ?_
        refine SJ.q (YldS.yld (y_move rfl)) rfl ?_
        refine SJ.q (YldS.yld (y_build (parts := [(0, .const (str [39])), (1, .const (str [96])), (2, .const (.bool true))]) (places := [(0, 1), (1, 1), (2, 1)]) (r := [str ((Key.mk [39] [96] true).low), str ((Key.mk [39] [96] true).high), .bool ((Key.mk [39] [96] true).dead)]) pl41 Try.zeroValue41 rfl rfl rfl rfl)) rfl ?_
        refine SJ.buildSlice (R := fKey) (os := [.tmp 39]) [(Key.mk [39] [96] true)] Try.runUnderlying24 Try.sizeOf41 Try.zeroValue41 rfl rfl rfl rfl rfl rfl fun v44 => ?_
        obtain ⟨l45, h46, hm⟩ := bindS hm
        refine SJ.append (k := 2) (R := fKey) h46 rfl Try.underlying24 el41 rfl rfl rfl (fun w hw => (hw.row_rd (k := 0) rfl)) rfl fun v47 => ?_
        refine SJ.q (YldS.yld (y_assign rfl)) rfl ?_
        refine SJ.nil ?_
        exact PJ.joined (r41.2.at_, r41.2.seed, l45, v47) [1, 2] hm ⟨rfl, rfl, rfl, trivial⟩ ⟨by decide, rfl⟩
      · replace hm := ifF hm hb43
        refine WJ.skip ?_
        exact PJ.joined (r41.2.at_, r41.2.seed, l6, v7) [0, 1] hm ⟨rfl, rfl, rfl, trivial⟩ ⟨by decide, rfl⟩
    · rintro ⟨x35, x36, l37, v38⟩ hm
      subst hk40
      refine WJ.seq ?_
      refine WJ.reg ?_
      refine SJ.buildSlice (R := fAccent) (os := []) [] Try.runUnderlying25 Try.sizeOf101 Try.zeroValue101 rfl rfl rfl rfl rfl rfl fun v48 => ?_
      refine SJ.q (YldS.yld (y_assign rfl)) rfl ?_
      refine SJ.nil ?_
      refine PJ.next ?_
      refine WJ.seq ?_
      refine WJ.quiet ?_
      refine QJ.step (YldS.yld (y_assign rfl)) rfl ?_
      refine QJ.done ?_
      refine PJ.next ?_
      obtain ⟨kj53, hk54, hm⟩ := withK_open hm
      refine WJ.join (X := (List Accent) × Value × Int × Int) (fun (x : (List Accent) × Value × Int × Int) => kj53 x.1 x.2.2.1 x.2.2.2 = some r) (fun (x : (List Accent) × Value × Int × Int) => [(6, v38), (8, x.2.1)]) (fun (x : (List Accent) × Value × Int × Int) => [row x.2.1 101 fAccent x.1, box g2 157 [v3, .int .i64 x.2.2.1, .int .u64 x.2.2.2], row v38 41 fKey l37]) ?_ ?_
      · clear hk54
        refine WJ.seq ?_
        refine WJ.quiet ?_
        refine QJ.step (YldS.yld (y_assign rfl)) rfl ?_
        refine QJ.done ?_
        refine PJ.next ?_
        refine WJ.block ?_
        refine WJ.sel (L' := (fun (x : (List Accent) × Value × Int × Int × Int) => [row x.2.1 101 fAccent x.1, box g2 157 [v3, .int .i64 x.2.2.1, .int .u64 x.2.2.2.1], row v38 41 fKey l37]) ([], v48, x35, x36, 0)) [0, 1, 2] ⟨by decide, rfl⟩ ?_
        refine WJ.sub (m' := (fun (x : (List Accent) × Value × Int × Int × Int) => [(0, pt g2 0), (4, str [97, 98, 99, 100, 101, 102, 103, 104]), (6, v38), (8, x.2.1), (9, str [49, 50, 51, 52, 53, 54]), (10, .int .i64 x.2.2.2.2)]) ([], v48, x35, x36, 0)) ⟨rfl, rfl, rfl, rfl, rfl, rfl, trivial⟩ ?_
        refine WJ.loop (X := (List Accent) × Value × Int × Int × Int) (fun N (x : (List Accent) × Value × Int × Int × Int) => s_l02Draw_l2 kj53 s1 l37 N x.1 x.2.2.1 x.2.2.2.1 x.2.2.2.2 = some r) (fun (x : (List Accent) × Value × Int × Int × Int) => [(0, pt g2 0), (4, str [97, 98, 99, 100, 101, 102, 103, 104]), (6, v38), (8, x.2.1), (9, str [49, 50, 51, 52, 53, 54]), (10, .int .i64 x.2.2.2.2)]) (fun (x : (List Accent) × Value × Int × Int × Int) => [row x.2.1 101 fAccent x.1, box g2 157 [v3, .int .i64 x.2.2.1, .int .u64 x.2.2.2.1], row v38 41 fKey l37]) ?_ N ([], v48, x35, x36, 0) hm
        · rintro N ⟨l55, v56, x57, x58, i59⟩ hI
          have hm := hI; clear hI
          cases N with
          | zero => cases hm
          | succ N =>
          unfold s_l02Draw_l2 at hm
          refine WJ.seq ?_
          refine WJ.seq ?_
          refine WJ.quiet ?_
          refine QJ.step (YldS.yld (y_move rfl)) rfl ?_
          refine QJ.step (YldS.yld (y_move rfl)) rfl ?_
          refine QJ.step (YldS.yld (y_lenStr Try.runUnderlying9 rfl)) rfl ?_
          refine QJ.step (YldS.yld (y_bin rfl rfl rfl)) rfl ?_
          refine QJ.done ?_
          refine PJ.next ?_
          refine WJ.cond (t := decide (i59 < (List.length [49, 50, 51, 52, 53, 54] : Int))) rfl (fun hb60 => ?_) (fun hb60 => ?_)
          · replace hm := ifT hm hb60
            refine WJ.skip ?_
            refine PJ.next ?_
            obtain ⟨kj65, hk66, hm⟩ := withK_open hm
            refine WJ.join (X := Int × Int × (List Accent) × Value) (fun (x : Int × Int × (List Accent) × Value) => kj65 x.1 x.2.1 x.2.2.1 = some r) (fun (x : Int × Int × (List Accent) × Value) => [(0, pt g2 0), (4, str [97, 98, 99, 100, 101, 102, 103, 104]), (6, v38), (8, x.2.2.2), (9, str [49, 50, 51, 52, 53, 54]), (10, .int .i64 i59)]) (fun (x : Int × Int × (List Accent) × Value) => [box g2 157 [v3, .int .i64 x.1, .int .u64 x.2.1], row x.2.2.2 101 fAccent x.2.2.1, row v38 41 fKey l37]) ?_ ?_
            · clear hk66
              refine WJ.block ?_
              refine WJ.seq ?_
              obtain ⟨r68, h69, hm⟩ := bindS hm
              obtain ⟨s70, h71, hm⟩ := bindS hm
              refine WJ.draws (N := 11) (listed0 := #[false, false, false, false, false, false, false, false, false, false, false]) [row v56 101 fAccent l55, row v38 41 fKey l37] follows rfl rfl ?_
              refine RJ.first 0 (listed' := #[true, false, false, false, false, false, false, false, false, false, false]) [0, 2] rfl (by kernel_rfl) rfl ⟨by decide, rfl⟩ (y_move rfl) rfl ?_
              refine RJ.first 3 (listed' := #[true, false, false, true, false, false, false, false, false, false, false]) [0, 2] rfl (by kernel_rfl) rfl ⟨by decide, rfl⟩ (y_move rfl) rfl ?_
              refine RJ.first 4 (listed' := #[true, false, false, true, true, false, false, false, false, false, false]) [0, 2] rfl (by kernel_rfl) rfl ⟨by decide, rfl⟩ (y_move rfl) rfl ?_
              refine RJ.first 5 (listed' := #[true, false, false, true, true, true, false, false, false, false, false]) [0, 2] rfl (by kernel_rfl) rfl ⟨by decide, rfl⟩ (y_move rfl) rfl ?_
              refine RJ.first 6 (listed' := #[true, false, false, true, true, true, true, false, false, false, false]) [0, 2] rfl (by kernel_rfl) rfl ⟨by decide, rfl⟩ (y_bin rfl rfl rfl) rfl ?_
              refine RJ.first 7 (listed' := #[true, false, false, true, true, true, true, true, false, false, false]) [0, 2] rfl (by kernel_rfl) rfl ⟨by decide, rfl⟩ (y_subStr (i := some i59) (j := some (w64 (i59 + 1))) h71 Try.runUnderlying9 rfl ⟨_, rfl⟩ ⟨_, rfl⟩) rfl ?_
              refine RJ.hold (X := Nat × Value) 1 #[true, true, true, true, true, true, true, true, true, true, false] (fun (x : Nat × Value) => [(0, pt g2 0), (4, str [97, 98, 99, 100, 101, 102, 103, 104]), (6, v38), (8, v56), (9, str [49, 50, 51, 52, 53, 54]), (10, .int .i64 i59), (11, pt x.1 0), (57, .agg (Accent.enc (Accent.mk r68.1 [] s70)).toArray)]) (fun (x : Nat × Value) => [box x.1 101 [str [], str [], str []], box g2 157 [v3, .int .i64 r68.2.at_, .int .u64 r68.2.seed], row x.2 9 fStr [[39], [96]], row v56 101 fAccent l55, row v38 41 fKey l37]) ?_ ?_
              · rintro ⟨g72, v67⟩
                refine RJ.step1 10 [3, 4] (by kernel_rfl) ⟨by decide, rfl⟩ ?_
                refine RO.of (listed' := #[true, true, true, true, true, true, true, true, true, true, true]) rfl rfl ?_
                refine SJ.storeL (k := 0) (off := 0) (us := [str ((Accent.mk r68.1 [] s70).mark), str ((Accent.mk r68.1 [] s70).letter), str ((Accent.mk r68.1 [] s70).made)]) rfl rfl rfl rfl Try.sizeOf101 rfl rfl ?_
                refine SJ.nil ?_
                refine PJ.draw ?_
                refine RJ.fin [3, 4] (by kernel_rfl) ⟨by decide, rfl⟩ ?_
                refine PJ.next ?_
                refine WJ.seq ?_
                refine WJ.reg ?_
                refine SJ.q (YldS.yld (y_move rfl)) rfl ?_
                refine SJ.q (YldS.yld (y_move rfl)) rfl ?_
                refine SJ.q (YldS.yld (y_lenStr Try.runUnderlying9 rfl)) rfl ?_
                obtain ⟨r74, h75, hm⟩ := bindS hm
                refine SJ.call1 (k := 1) rfl Try.call83 rfl (fun w S hw hA hO => ok_s_l00Src_pick h75 w S _ (hr4.st1 hw hO) hA) rfl ?_
                rintro _ _ ⟨rfl, rfl⟩
                refine SJ.q (YldS.yld (y_assign rfl)) rfl ?_
                refine SJ.nil ?_
                refine PJ.next ?_
                refine WJ.seq ?_
                refine WJ.reg ?_
                refine SJ.q (YldS.yld (y_move rfl)) rfl ?_
                refine SJ.q (YldS.yld (y_move rfl)) rfl ?_
                refine SJ.q (YldS.yld (y_move rfl)) rfl ?_
                refine SJ.q (YldS.yld (y_bin rfl rfl rfl)) rfl ?_
                obtain ⟨s76, h77, hm⟩ := bindS hm
                refine SJ.q (YldS.yld (y_subStr (i := some r74.1) (j := some (w64 (r74.1 + 1))) h77 Try.runUnderlying9 rfl ⟨_, rfl⟩ ⟨_, rfl⟩)) rfl ?_
                refine SJ.q (YldS.yld (y_fldB (o := 0) fld101_1 rfl)) rfl ?_
                refine SJ.storeL (k := 1) (off := 1) (us := [str s76]) rfl rfl rfl rfl Try.sizeOf9 rfl rfl ?_
                refine SJ.nil ?_
                refine PJ.next ?_
                refine WJ.seq ?_
                obtain ⟨r78, h79, hm⟩ := bindS hm
                obtain ⟨t80, h81, hm⟩ := bindS hm
                refine WJ.draws (N := 12) (listed0 := #[false, false, false, false, false, false, false, false, false, false, false, false]) [box g2 157 [v3, .int .i64 r74.2.at_, .int .u64 r74.2.seed], box g72 101 [str ((Accent.mk r68.1 [] s70).mark), str s76, str ((Accent.mk r68.1 [] s70).made)], row v67 9 fStr [[39], [96]], row v56 101 fAccent l55, row v38 41 fKey l37] follows rfl rfl ?_
                refine RJ.first 0 (listed' := #[true, false, false, false, false, false, false, false, false, false, false, false]) [0, 1, 2, 3, 4] rfl (by kernel_rfl) rfl ⟨by decide, rfl⟩ (y_move rfl) rfl ?_
                refine RJ.step1 1 [0, 1, 2, 3, 4] (by kernel_rfl) ⟨by decide, rfl⟩ ?_
                refine RO.of (listed' := #[true, true, false, false, false, false, false, false, false, false, false, false]) rfl rfl ?_
                refine SJ.q (y_call Try.call119 rfl (RetG.quiet fun w hw => ok_s_l02Accent h79 w _ (hw.row_rd (k := 4) rfl) _ (hw.box_at (k := 1) rfl))) rfl ?_
                refine SJ.nil ?_
                refine PJ.draw ?_
                refine RJ.first 2 (listed' := #[true, true, true, false, false, false, false, false, false, false, false, false]) [0, 1, 2, 3, 4] rfl (by kernel_rfl) rfl ⟨by decide, rfl⟩ (y_move rfl) rfl ?_
                refine RJ.hold (X := Unit) 0 #[true, true, true, true, true, true, true, true, true, true, true, true] (fun _ => [(0, pt g2 0), (4, str [97, 98, 99, 100, 101, 102, 103, 104]), (6, v38), (8, v56), (9, str [49, 50, 51, 52, 53, 54]), (10, .int .i64 i59), (11, pt g72 0), (79, .bool t80)]) (fun _ => [box g2 157 [v3, .int .i64 r74.2.at_, .int .u64 r74.2.seed], box g72 101 [str ((Accent.mk r68.1 [] s70).mark), str s76, str ((Accent.mk r68.1 [] s70).made)], row v67 9 fStr [[39], [96]], row v56 101 fAccent l55, row v38 41 fKey l37]) ?_ ?_
                · rintro _
                  refine RJ.fin [0, 1, 2, 3, 4] (by kernel_rfl) ⟨by decide, rfl⟩ ?_
                  refine PJ.next ?_
                  refine WJ.cond (t := t80) rfl (fun hb94 => ?_) (fun hb94 => ?_)
                  · replace hm := ifT hm hb94
                    refine WJ.reg ?_
                    refine SJ.q (YldS.yld (y_move rfl)) rfl ?_
                    refine SJ.q (YldS.yld (y_loadBN (k := 1) (off := 0) (us := [str ((Accent.mk r68.1 [] s70).mark), str s76, str ((Accent.mk r68.1 [] s70).made)]) rfl Try.isAgg101 Try.sizeOf101 rfl rfl)) rfl ?_
                    refine SJ.buildSlice (R := fAccent) (os := [.tmp 81]) [(Accent.mk ((Accent.mk r68.1 [] s70).mark) s76 ((Accent.mk r68.1 [] s70).made))] Try.runUnderlying25 Try.sizeOf101 Try.zeroValue101 rfl rfl rfl rfl rfl rfl fun v95 => ?_
                    obtain ⟨l96, h97, hm⟩ := bindS hm
                    refine SJ.append (k := 4) (R := fAccent) h97 rfl Try.underlying25 el101 rfl rfl rfl (fun w hw => (hw.row_rd (k := 0) rfl)) rfl fun v98 => ?_
                    refine SJ.q (YldS.yld (y_assign rfl)) rfl ?_
                    refine SJ.nil ?_
                    refine PJ.block_normal ?_
                    exact PJ.joined (r74.2.at_, r74.2.seed, l96, v98) [1, 4, 5] hm ⟨rfl, rfl, rfl, rfl, rfl, rfl, trivial⟩ ⟨by decide, rfl⟩
                  · replace hm := ifF hm hb94
                    refine WJ.skip ?_
                    refine PJ.block_normal ?_
                    exact PJ.joined (r74.2.at_, r74.2.seed, l55, v56) [0, 3, 4] hm ⟨rfl, rfl, rfl, rfl, rfl, rfl, trivial⟩ ⟨by decide, rfl⟩
                · intro hD93
                  rcases Bool.eq_false_or_eq_true r78 with hb82 | hb82
                  · replace h81 := andT h81 hb82
                    obtain ⟨l84, h85, h81⟩ := bindS h81
                    obtain ⟨l88, h89, h81⟩ := bindS h81
                    obtain ⟨r91, h92, h81⟩ := bindS h81
                    obtain rfl := Option.some.inj h81
                    refine RJ.firstOn 3 (listed' := #[true, true, true, true, false, false, false, false, false, false, false, false]) [0, 1, 2, 3, 4] rfl rfl rfl (cB hb82) (by kernel_rfl) rfl ⟨by decide, rfl⟩ (y_move rfl) rfl ?_
                    refine RJ.firstOn 5 (listed' := #[true, true, true, true, false, true, false, false, false, false, false, false]) [0, 1, 2, 3, 4] rfl rfl rfl (cB hb82) (by kernel_rfl) rfl ⟨by decide, rfl⟩ (y_move rfl) rfl ?_
                    refine RJ.firstOn 7 (listed' := #[true, true, true, true, false, true, false, true, false, false, false, false]) [0, 1, 2, 3, 4] rfl rfl rfl (cB hb82) (by kernel_rfl) rfl ⟨by decide, rfl⟩ (y_loadBN (k := 1) (off := 0) (us := [str ((Accent.mk r68.1 [] s70).mark), str s76, str ((Accent.mk r68.1 [] s70).made)]) rfl Try.isAgg101 Try.sizeOf101 rfl rfl) rfl ?_
                    refine RJ.hold (X := Value × Value) 3 #[true, true, true, true, true, true, true, true, true, false, false, false] (fun (x : Value × Value) => [(0, pt g2 0), (4, str [97, 98, 99, 100, 101, 102, 103, 104]), (6, v38), (8, v56), (9, str [49, 50, 51, 52, 53, 54]), (10, .int .i64 i59), (11, pt g72 0), (70, .bool r78), (71, v38), (73, v56), (74, x.2), (75, .agg #[str ((Accent.mk r68.1 [] s70).mark), str s76, str ((Accent.mk r68.1 [] s70).made)]), (76, x.1)]) (fun (x : Value × Value) => [row x.1 101 fAccent [(Accent.mk ((Accent.mk r68.1 [] s70).mark) s76 ((Accent.mk r68.1 [] s70).made))], row x.2 101 fAccent l84, box g2 157 [v3, .int .i64 r74.2.at_, .int .u64 r74.2.seed], box g72 101 [str ((Accent.mk r68.1 [] s70).mark), str s76, str ((Accent.mk r68.1 [] s70).made)], row v67 9 fStr [[39], [96]], row v56 101 fAccent l55, row v38 41 fKey l37]) ?_ ?_
                    · rintro ⟨v87, v86⟩
                      refine RJ.step1 9 [2, 3, 4, 5, 6] (by kernel_rfl) ⟨by decide, rfl⟩ ?_
                      refine RO.of (listed' := #[true, true, true, true, true, true, true, true, true, true, false, false]) rfl rfl ?_
                      refine SJ.on rfl rfl (cB hb82) (SJ.append (k := 1) (R := fAccent) h89 rfl Try.underlying25 el101 rfl rfl rfl (fun w hw => (hw.row_rd (k := 0) rfl)) rfl fun v90 => ?_)
                      refine SJ.nil ?_
                      refine PJ.draw ?_
                      refine RJ.step1 10 [2, 3, 4, 5, 6] (by kernel_rfl) ⟨by decide, rfl⟩ ?_
                      refine RO.of (listed' := #[true, true, true, true, true, true, true, true, true, true, true, false]) rfl rfl ?_
                      refine SJ.on rfl rfl (cB hb82) (SJ.q (y_call Try.call70 rfl (RetG.quiet fun w hw => ok_s_l02Ok h92 w _ (hw.row_rd (k := 6) rfl) _ (hw.row_rd (k := 1) rfl))) rfl ?_)
                      refine SJ.nil ?_
                      refine PJ.draw ?_
                      refine RJ.first 11 (listed' := #[true, true, true, true, true, true, true, true, true, true, true, true]) [2, 3, 4, 5, 6] rfl (by kernel_rfl) rfl ⟨by decide, rfl⟩ (y_pick_t (cB hb82) rfl) rfl ?_
                      exact RJ.weak (hD93 ()) [2, 3, 4, 5, 6] ⟨rfl, rfl, rfl, rfl, rfl, rfl, rfl, rfl, trivial⟩ ⟨by decide, rfl⟩
                    · intro hD99
                      refine RJ.step2 4 8 [0, 1, 2, 3, 4] (by kernel_rfl) ⟨by decide, rfl⟩ ?_ ?_
                      · refine RO.of (listed' := #[true, true, true, true, true, true, false, true, false, false, false, false]) rfl rfl ?_
                        refine SJ.on rfl rfl (cB hb82) (SJ.buildSlice (R := fAccent) (os := []) [] Try.runUnderlying25 Try.sizeOf101 Try.zeroValue101 rfl rfl rfl rfl rfl rfl fun v83 => ?_)
                        refine SJ.nil ?_
                        refine PJ.draw ?_
                        refine RJ.step2 6 8 [1, 2, 3, 4, 5] (by kernel_rfl) ⟨by decide, rfl⟩ ?_ ?_
                        · refine RO.of (listed' := #[true, true, true, true, true, true, true, true, false, false, false, false]) rfl rfl ?_
                          refine SJ.on rfl rfl (cB hb82) (SJ.append (k := 0) (R := fAccent) h85 rfl Try.underlying25 el101 rfl rfl rfl (fun w hw => (hw.row_rd (k := 4) rfl)) rfl fun v86 => ?_)
                          refine SJ.nil ?_
                          refine PJ.draw ?_
                          refine RJ.step1 8 [1, 2, 3, 4, 5] (by kernel_rfl) ⟨by decide, rfl⟩ ?_
                          refine RO.of (listed' := #[true, true, true, true, true, true, true, true, true, false, false, false]) rfl rfl ?_
                          refine SJ.on rfl rfl (cB hb82) (SJ.buildSlice (R := fAccent) (os := [.tmp 75]) [(Accent.mk ((Accent.mk r68.1 [] s70).mark) s76 ((Accent.mk r68.1 [] s70).made))] Try.runUnderlying25 Try.sizeOf101 Try.zeroValue101 rfl rfl rfl rfl rfl rfl fun v87 => ?_)
                          refine SJ.nil ?_
                          refine PJ.draw ?_
                          exact RJ.weak (hD99 (v87, v86)) [0, 1, 2, 3, 4, 5, 6] ⟨rfl, rfl, rfl, rfl, rfl, rfl, rfl, rfl, rfl, rfl, rfl, rfl, rfl, trivial⟩ ⟨by decide, rfl⟩
                        · refine RO.of (listed' := #[true, true, true, true, true, true, false, true, true, false, false, false]) rfl rfl ?_
                          refine SJ.on rfl rfl (cB hb82) (SJ.buildSlice (R := fAccent) (os := [.tmp 75]) [(Accent.mk ((Accent.mk r68.1 [] s70).mark) s76 ((Accent.mk r68.1 [] s70).made))] Try.runUnderlying25 Try.sizeOf101 Try.zeroValue101 rfl rfl rfl rfl rfl rfl fun v87 => ?_)
                          refine SJ.nil ?_
                          refine PJ.draw ?_
                          refine RJ.step1 6 [2, 3, 4, 5, 6] (by kernel_rfl) ⟨by decide, rfl⟩ ?_
                          refine RO.of (listed' := #[true, true, true, true, true, true, true, true, true, false, false, false]) rfl rfl ?_
                          refine SJ.on rfl rfl (cB hb82) (SJ.append (k := 1) (R := fAccent) h85 rfl Try.underlying25 el101 rfl rfl rfl (fun w hw => (hw.row_rd (k := 5) rfl)) rfl fun v86 => ?_)
                          refine SJ.nil ?_
                          refine PJ.draw ?_
                          exact RJ.weak (hD99 (v87, v86)) [0, 1, 2, 3, 4, 5, 6] ⟨rfl, rfl, rfl, rfl, rfl, rfl, rfl, rfl, rfl, rfl, rfl, rfl, rfl, trivial⟩ ⟨by decide, rfl⟩
                      · refine RO.of (listed' := #[true, true, true, true, false, true, false, true, true, false, false, false]) rfl rfl ?_
                        refine SJ.on rfl rfl (cB hb82) (SJ.buildSlice (R := fAccent) (os := [.tmp 75]) [(Accent.mk ((Accent.mk r68.1 [] s70).mark) s76 ((Accent.mk r68.1 [] s70).made))] Try.runUnderlying25 Try.sizeOf101 Try.zeroValue101 rfl rfl rfl rfl rfl rfl fun v87 => ?_)
                        refine SJ.nil ?_
                        refine PJ.draw ?_
                        refine RJ.step1 4 [1, 2, 3, 4, 5] (by kernel_rfl) ⟨by decide, rfl⟩ ?_
                        refine RO.of (listed' := #[true, true, true, true, true, true, false, true, true, false, false, false]) rfl rfl ?_
                        refine SJ.on rfl rfl (cB hb82) (SJ.buildSlice (R := fAccent) (os := []) [] Try.runUnderlying25 Try.sizeOf101 Try.zeroValue101 rfl rfl rfl rfl rfl rfl fun v83 => ?_)
                        refine SJ.nil ?_
                        refine PJ.draw ?_
                        refine RJ.step1 6 [2, 3, 4, 5, 6] (by kernel_rfl) ⟨by decide, rfl⟩ ?_
                        refine RO.of (listed' := #[true, true, true, true, true, true, true, true, true, false, false, false]) rfl rfl ?_
                        refine SJ.on rfl rfl (cB hb82) (SJ.append (k := 0) (R := fAccent) h85 rfl Try.underlying25 el101 rfl rfl rfl (fun w hw => (hw.row_rd (k := 5) rfl)) rfl fun v86 => ?_)
                        refine SJ.nil ?_
                        refine PJ.draw ?_
                        exact RJ.weak (hD99 (v87, v86)) [1, 0, 2, 3, 4, 5, 6] ⟨rfl, rfl, rfl, rfl, rfl, rfl, rfl, rfl, rfl, rfl, rfl, rfl, rfl, trivial⟩ ⟨by decide, rfl⟩
                  · obtain rfl := andF h81 hb82
                    refine RJ.firstOff 3 (listed' := #[true, true, true, true, false, false, false, false, false, false, false, false]) [0, 1, 2, 3, 4] rfl rfl rfl (cB hb82) rfl (by kernel_rfl) rfl ⟨by decide, rfl⟩ rfl ?_
                    refine RJ.firstOff 4 (listed' := #[true, true, true, true, true, false, false, false, false, false, false, false]) [0, 1, 2, 3, 4] rfl rfl rfl (cB hb82) rfl (by kernel_rfl) rfl ⟨by decide, rfl⟩ rfl ?_
                    refine RJ.firstOff 5 (listed' := #[true, true, true, true, true, true, false, false, false, false, false, false]) [0, 1, 2, 3, 4] rfl rfl rfl (cB hb82) rfl (by kernel_rfl) rfl ⟨by decide, rfl⟩ rfl ?_
                    refine RJ.firstOff 6 (listed' := #[true, true, true, true, true, true, true, false, false, false, false, false]) [0, 1, 2, 3, 4] rfl rfl rfl (cB hb82) rfl (by kernel_rfl) rfl ⟨by decide, rfl⟩ rfl ?_
                    refine RJ.firstOff 7 (listed' := #[true, true, true, true, true, true, true, true, false, false, false, false]) [0, 1, 2, 3, 4] rfl rfl rfl (cB hb82) rfl (by kernel_rfl) rfl ⟨by decide, rfl⟩ rfl ?_
                    refine RJ.firstOff 8 (listed' := #[true, true, true, true, true, true, true, true, true, false, false, false]) [0, 1, 2, 3, 4] rfl rfl rfl (cB hb82) rfl (by kernel_rfl) rfl ⟨by decide, rfl⟩ rfl ?_
                    refine RJ.firstOff 9 (listed' := #[true, true, true, true, true, true, true, true, true, true, false, false]) [0, 1, 2, 3, 4] rfl rfl rfl (cB hb82) rfl (by kernel_rfl) rfl ⟨by decide, rfl⟩ rfl ?_
                    refine RJ.firstOff 10 (listed' := #[true, true, true, true, true, true, true, true, true, true, true, false]) [0, 1, 2, 3, 4] rfl rfl rfl (cB hb82) rfl (by kernel_rfl) rfl ⟨by decide, rfl⟩ rfl ?_
                    refine RJ.first 11 (listed' := #[true, true, true, true, true, true, true, true, true, true, true, true]) [0, 1, 2, 3, 4] rfl (by kernel_rfl) rfl ⟨by decide, rfl⟩ (y_pick_f (cB hb82) rfl) rfl ?_
                    exact RJ.weak (hD93 ()) [0, 1, 2, 3, 4] ⟨rfl, rfl, rfl, rfl, rfl, rfl, rfl, rfl, trivial⟩ ⟨by decide, rfl⟩
              · intro hD73
                refine RJ.step2 1 9 [0, 2] (by kernel_rfl) ⟨by decide, rfl⟩ ?_ ?_
                · refine RO.of (listed' := #[true, true, false, true, true, true, true, true, false, false, false]) rfl rfl ?_
                  refine SJ.buildSlice (R := fStr) (os := [.const (str [39]), .const (str [96])]) [[39], [96]] Try.runUnderlying78 Try.sizeOf9 Try.zeroValue9 rfl rfl rfl rfl rfl rfl fun v67 => ?_
                  refine SJ.nil ?_
                  refine PJ.draw ?_
                  refine RJ.step2 2 9 [1, 3] (by kernel_rfl) ⟨by decide, rfl⟩ ?_ ?_
                  · refine RO.of (listed' := #[true, true, true, true, true, true, true, true, false, false, false]) rfl rfl ?_
                    refine SJ.call2 (k := 2) rfl Try.call75 rfl (fun w S hw hA hO hB => ok_s_l00Src_text h69 w S _ (hr4.st1 hw hO) _ (hB.row_rd (j := 0) (k := 2) rfl rfl) hA) rfl ?_
                    rintro _ _ ⟨rfl, rfl⟩
                    refine SJ.nil ?_
                    refine PJ.draw ?_
                    refine RJ.first 8 (listed' := #[true, true, true, true, true, true, true, true, true, false, false]) [2, 3] rfl (by kernel_rfl) rfl ⟨by decide, rfl⟩ (y_build (parts := [(0, .tmp 51), (2, .tmp 56)]) (places := [(0, 1), (1, 1), (2, 1)]) (r := [str ((Accent.mk r68.1 [] s70).mark), str ((Accent.mk r68.1 [] s70).letter), str ((Accent.mk r68.1 [] s70).made)]) pl101 Try.zeroValue101 rfl rfl rfl rfl) rfl ?_
                    refine RJ.step1 9 [2, 3] (by kernel_rfl) ⟨by decide, rfl⟩ ?_
                    refine RO.of (listed' := #[true, true, true, true, true, true, true, true, true, true, false]) rfl rfl ?_
                    refine SJ.alloc (cs := [str [], str [], str []]) Try.zeroValue101 rfl rfl fun g72 => ?_
                    refine SJ.nil ?_
                    refine PJ.draw ?_
                    exact RJ.weak (hD73 (g72, v67)) [0, 1, 2, 3, 4] ⟨rfl, rfl, rfl, rfl, rfl, rfl, rfl, rfl, trivial⟩ ⟨by decide, rfl⟩
                  · refine RO.of (listed' := #[true, true, false, true, true, true, true, true, false, true, false]) rfl rfl ?_
                    refine SJ.alloc (cs := [str [], str [], str []]) Try.zeroValue101 rfl rfl fun g72 => ?_
                    refine SJ.nil ?_
                    refine PJ.draw ?_
                    refine RJ.step1 2 [2, 4] (by kernel_rfl) ⟨by decide, rfl⟩ ?_
                    refine RO.of (listed' := #[true, true, true, true, true, true, true, true, false, true, false]) rfl rfl ?_
                    refine SJ.call2 (k := 3) rfl Try.call75 rfl (fun w S hw hA hO hB => ok_s_l00Src_text h69 w S _ (hr4.st1 hw hO) _ (hB.row_rd (j := 1) (k := 3) rfl rfl) hA) rfl ?_
                    rintro _ _ ⟨rfl, rfl⟩
                    refine SJ.nil ?_
                    refine PJ.draw ?_
                    refine RJ.first 8 (listed' := #[true, true, true, true, true, true, true, true, true, true, false]) [3, 4] rfl (by kernel_rfl) rfl ⟨by decide, rfl⟩ (y_build (parts := [(0, .tmp 51), (2, .tmp 56)]) (places := [(0, 1), (1, 1), (2, 1)]) (r := [str ((Accent.mk r68.1 [] s70).mark), str ((Accent.mk r68.1 [] s70).letter), str ((Accent.mk r68.1 [] s70).made)]) pl101 Try.zeroValue101 rfl rfl rfl rfl) rfl ?_
                    exact RJ.weak (hD73 (g72, v67)) [1, 0, 2, 3, 4] ⟨rfl, rfl, rfl, rfl, rfl, rfl, rfl, rfl, trivial⟩ ⟨by decide, rfl⟩
                · refine RO.of (listed' := #[true, false, false, true, true, true, true, true, false, true, false]) rfl rfl ?_
                  refine SJ.alloc (cs := [str [], str [], str []]) Try.zeroValue101 rfl rfl fun g72 => ?_
                  refine SJ.nil ?_
                  refine PJ.draw ?_
                  refine RJ.step1 1 [1, 3] (by kernel_rfl) ⟨by decide, rfl⟩ ?_
                  refine RO.of (listed' := #[true, true, false, true, true, true, true, true, false, true, false]) rfl rfl ?_
                  refine SJ.buildSlice (R := fStr) (os := [.const (str [39]), .const (str [96])]) [[39], [96]] Try.runUnderlying78 Try.sizeOf9 Try.zeroValue9 rfl rfl rfl rfl rfl rfl fun v67 => ?_
                  refine SJ.nil ?_
                  refine PJ.draw ?_
                  refine RJ.step1 2 [2, 4] (by kernel_rfl) ⟨by decide, rfl⟩ ?_
                  refine RO.of (listed' := #[true, true, true, true, true, true, true, true, false, true, false]) rfl rfl ?_
                  refine SJ.call2 (k := 3) rfl Try.call75 rfl (fun w S hw hA hO hB => ok_s_l00Src_text h69 w S _ (hr4.st1 hw hO) _ (hB.row_rd (j := 0) (k := 3) rfl rfl) hA) rfl ?_
                  rintro _ _ ⟨rfl, rfl⟩
                  refine SJ.nil ?_
                  refine PJ.draw ?_
                  refine RJ.first 8 (listed' := #[true, true, true, true, true, true, true, true, true, true, false]) [3, 4] rfl (by kernel_rfl) rfl ⟨by decide, rfl⟩ (y_build (parts := [(0, .tmp 51), (2, .tmp 56)]) (places := [(0, 1), (1, 1), (2, 1)]) (r := [str ((Accent.mk r68.1 [] s70).mark), str ((Accent.mk r68.1 [] s70).letter), str ((Accent.mk r68.1 [] s70).made)]) pl101 Try.zeroValue101 rfl rfl rfl rfl) rfl ?_
                  exact RJ.weak (hD73 (g72, v67)) [2, 0, 1, 3, 4] ⟨rfl, rfl, rfl, rfl, rfl, rfl, rfl, rfl, trivial⟩ ⟨by decide, rfl⟩
            · rintro ⟨x61, x62, l63, v64⟩ hm
              subst hk66
              refine WJ.quiet ?_
              refine QJ.step (YldS.yld (y_move rfl)) rfl ?_
              refine QJ.step (YldS.yld (y_bin rfl rfl rfl)) rfl ?_
              refine QJ.step (YldS.yld (y_assign rfl)) rfl ?_
              refine QJ.done ?_
              exact PJ.round (l63, v64, x61, x62, w64 (i59 + 1)) [1, 0, 2] hm ⟨rfl, rfl, rfl, rfl, rfl, rfl, trivial⟩ ⟨by decide, rfl⟩
          · replace hm := ifF hm hb60
            refine WJ.exit ?_
            refine PJ.then_exit (PJ.then_exit (PJ.block_exit ?_))
            exact PJ.joined (l55, v56, x57, x58) [0, 1, 2] hm ⟨rfl, rfl, trivial⟩ ⟨by decide, rfl⟩
      · rintro ⟨l49, v50, x51, x52⟩ hm
        subst hk54
        refine WJ.seq ?_
        refine WJ.quiet ?_
        refine QJ.step (YldS.yld (y_move rfl)) rfl ?_
        refine QJ.step (YldS.yld (y_move rfl)) rfl ?_
        refine QJ.step (YldS.yld (y_assign rfl)) rfl ?_
        refine QJ.step (YldS.yld (y_assign rfl)) rfl ?_
        refine QJ.done ?_
        refine PJ.next ?_
        refine WJ.ret ?_
        obtain rfl := Option.some.inj hm
        refine PJ.sel (L' := [box g2 157 [v3, .int .i64 x51, .int .u64 x52], row v38 41 fKey l37, row v50 101 fAccent l49]) [1, 2, 0] ⟨by decide, rfl⟩ ?_
        exact PJ.retn (vs := [v38, v50]) Try.results120 ⟨rfl, rfl, trivial⟩ ⟨_, _, rfl, rfl⟩

set_option maxRecDepth 100000 in
set_option maxHeartbeats 1000000 in
theorem ok_s_l02Bent {N : Nat} {s1 : L00Src} {g2 : Nat} {r : (List Key) × (List Accent) × L00Src} (hm : s_l02Bent N s1 = some r) (w : World) (S : Nat → Prop) (v3 : Value) (hr4 : RdS w (Cx.Fz ⟨w, S⟩) v3 fByte.rp s1.code) (hA : (box g2 157 [v3, .int .i64 s1.at_, .int .u64 s1.seed]).holds w S) :
    Calls Try.prog 74 #[pt g2 0] w (RetG ⟨w, S⟩ fun u L => ∃ (u1 : Value) (u2 : Value), (u = tup [u1, u2] ∧ L = [box g2 157 [v3, .int .i64 r.2.2.at_, .int .u64 r.2.2.seed], row u1 41 fKey r.1, row u2 101 fAccent r.2.1])) := by
  unfold s_l02Bent at hm
  refine Calls.enter1 hA [pt g2 0] Try.func74 rfl Try.ntmps74 rfl ?_
  refine WJ.seq ?_
  refine WJ.quiet ?_
  refine QJ.step (YldS.yld (y_assign rfl)) rfl ?_
  refine QJ.step (YldS.yld (y_assign rfl)) rfl ?_
  refine QJ.done ?_
  refine PJ.next ?_
  refine WJ.seq ?_
  refine WJ.reg ?_
  refine SJ.q (YldS.yld (y_move rfl)) rfl ?_
  obtain ⟨r5, h6, hm⟩ := bindS hm
  refine SJ.call1 (k := 0) rfl Try.call120 rfl (fun w S hw hA hO => ok_s_l02Draw h6 w S _ (hr4.st1 hw hO) hA) rfl ?_
  rintro _ _ ⟨v7, v8, rfl, rfl⟩
  refine SJ.q (YldS.yld (y_move rfl)) rfl ?_
  refine SJ.q (YldS.yld (y_extract rfl rfl)) rfl ?_
  refine SJ.q (YldS.yld (y_extract rfl rfl)) rfl ?_
  refine SJ.q (YldS.yld (y_assign rfl)) rfl ?_
  refine SJ.q (YldS.yld (y_assign rfl)) rfl ?_
  refine SJ.nil ?_
  refine PJ.next ?_
  obtain ⟨kj15, hk16, hm⟩ := withK_open hm
  refine WJ.join (X := Int × Int × (List Key) × Value × (List Accent) × Value) (fun (x : Int × Int × (List Key) × Value × (List Accent) × Value) => kj15 x.1 x.2.1 x.2.2.1 x.2.2.2.2.1 = some r) (fun (x : Int × Int × (List Key) × Value × (List Accent) × Value) => [(4, x.2.2.2.1), (5, x.2.2.2.2.2)]) (fun (x : Int × Int × (List Key) × Value × (List Accent) × Value) => [box g2 157 [v3, .int .i64 x.1, .int .u64 x.2.1], row x.2.2.2.1 41 fKey x.2.2.1, row x.2.2.2.2.2 101 fAccent x.2.2.2.2.1]) ?_ ?_
  · clear hk16
    refine WJ.seq ?_
    refine WJ.reg ?_
    refine SJ.q (YldS.yld (y_move rfl)) rfl ?_
    obtain ⟨r17, h18, hm⟩ := bindS hm
    refine SJ.call1 (k := 0) rfl Try.call83 rfl (fun w S hw hA hO => ok_s_l00Src_pick h18 w S _ (hr4.st1 hw hO) hA) rfl ?_
    rintro _ _ ⟨rfl, rfl⟩
    refine SJ.nil ?_
    refine PJ.next ?_
    refine WJ.block ?_
    refine WJ.seq ?_
    refine WJ.quiet ?_
    refine QJ.step (YldS.yld (y_bin rfl rfl rfl)) rfl ?_
    refine QJ.step (YldS.yld (y_assign rfl)) rfl ?_
    refine QJ.done ?_
    refine PJ.next ?_
    refine WJ.cond (t := (r17.1 == 0)) rfl (fun hb19 => ?_) (fun hb19 => ?_)
    · replace hm := ifT hm hb19
      refine WJ.reg ?_
      refine SJ.q (YldS.yld (y_move rfl)) rfl ?_
      refine SJ.q (YldS.yld (y_move rfl)) rfl ?_
      refine SJ.buildSlice (R := fStr) (os := [.const (str []), .const (str [97]), .const (str [120]), .const (str [32])]) [[], [97], [120], [32]] Try.runUnderlying78 Try.sizeOf9 Try.zeroValue9 rfl rfl rfl rfl rfl rfl fun v20 => ?_
      obtain ⟨r21, h22, hm⟩ := bindS hm
      refine SJ.call2 (k := 1) rfl Try.call75 rfl (fun w S hw hA hO hB => ok_s_l00Src_text h22 w S _ (hr4.st1 hw hO) _ (hB.row_rd (j := 0) (k := 1) rfl rfl) hA) rfl ?_
      rintro _ _ ⟨rfl, rfl⟩
      refine SJ.q (YldS.yld (y_build (parts := [(0, .tmp 25), (1, .const (str [121]))]) (places := [(0, 1), (1, 1), (2, 1)]) (r := [str ((Key.mk r21.1 [121] false).low), str ((Key.mk r21.1 [121] false).high), .bool ((Key.mk r21.1 [121] false).dead)]) pl41 Try.zeroValue41 rfl rfl rfl rfl)) rfl ?_
      refine SJ.buildSlice (R := fKey) (os := [.tmp 26]) [(Key.mk r21.1 [121] false)] Try.runUnderlying24 Try.sizeOf41 Try.zeroValue41 rfl rfl rfl rfl rfl rfl fun v23 => ?_
      obtain ⟨l24, h25, hm⟩ := bindS hm
      refine SJ.append (k := 3) (R := fKey) h25 rfl Try.underlying24 el41 rfl rfl rfl (fun w hw => (hw.row_rd (k := 0) rfl)) rfl fun v26 => ?_
      refine SJ.q (YldS.yld (y_assign rfl)) rfl ?_
      refine SJ.nil ?_
      refine PJ.block_normal ?_
      exact PJ.joined (r21.2.at_, r21.2.seed, l24, v26, r5.2.1, v8) [1, 3, 4] hm ⟨rfl, rfl, trivial⟩ ⟨by decide, rfl⟩
    · replace hm := ifF hm hb19
      refine WJ.seq ?_
      refine WJ.quiet ?_
      refine QJ.step (YldS.yld (y_bin rfl rfl rfl)) rfl ?_
      refine QJ.step (YldS.yld (y_assign rfl)) rfl ?_
      refine QJ.done ?_
      refine PJ.next ?_
      refine WJ.cond (t := (r17.1 == 1)) rfl (fun hb27 => ?_) (fun hb27 => ?_)
      · replace hm := ifT hm hb27
        refine WJ.reg ?_
        refine SJ.q (YldS.yld (y_move rfl)) rfl ?_
        refine SJ.q (YldS.yld (y_move rfl)) rfl ?_
        refine SJ.buildSlice (R := fStr) (os := [.const (str [120]), .const (str [120, 121]), .const (str [65]), .const (str [122])]) [[120], [120, 121], [65], [122]] Try.runUnderlying78 Try.sizeOf9 Try.zeroValue9 rfl rfl rfl rfl rfl rfl fun v28 => ?_
        obtain ⟨r29, h30, hm⟩ := bindS hm
        refine SJ.call2 (k := 1) rfl Try.call75 rfl (fun w S hw hA hO hB => ok_s_l00Src_text h30 w S _ (hr4.st1 hw hO) _ (hB.row_rd (j := 0) (k := 1) rfl rfl) hA) rfl ?_
        rintro _ _ ⟨rfl, rfl⟩
        refine SJ.q (YldS.yld (y_build (parts := [(0, .const (str [120])), (1, .tmp 34)]) (places := [(0, 1), (1, 1), (2, 1)]) (r := [str ((Key.mk [120] r29.1 false).low), str ((Key.mk [120] r29.1 false).high), .bool ((Key.mk [120] r29.1 false).dead)]) pl41 Try.zeroValue41 rfl rfl rfl rfl)) rfl ?_
        refine SJ.buildSlice (R := fKey) (os := [.tmp 35]) [(Key.mk [120] r29.1 false)] Try.runUnderlying24 Try.sizeOf41 Try.zeroValue41 rfl rfl rfl rfl rfl rfl fun v31 => ?_
        obtain ⟨l32, h33, hm⟩ := bindS hm
        refine SJ.append (k := 3) (R := fKey) h33 rfl Try.underlying24 el41 rfl rfl rfl (fun w hw => (hw.row_rd (k := 0) rfl)) rfl fun v34 => ?_
        refine SJ.q (YldS.yld (y_assign rfl)) rfl ?_
        refine SJ.nil ?_
        refine PJ.block_normal ?_
        exact PJ.joined (r29.2.at_, r29.2.seed, l32, v34, r5.2.1, v8) [1, 3, 4] hm ⟨rfl, rfl, trivial⟩ ⟨by decide, rfl⟩
      · replace hm := ifF hm hb27
        refine WJ.seq ?_
        refine WJ.quiet ?_
        refine QJ.step (YldS.yld (y_bin rfl rfl rfl)) rfl ?_
        refine QJ.step (YldS.yld (y_assign rfl)) rfl ?_
        refine QJ.done ?_
        refine PJ.next ?_
        refine WJ.cond (t := (r17.1 == 2)) rfl (fun hb35 => ?_) (fun hb35 => ?_)
        · replace hm := ifT hm hb35
          refine WJ.reg ?_
          refine SJ.q (YldS.yld (y_move rfl)) rfl ?_
          refine SJ.q (YldS.yld (y_move rfl)) rfl ?_
          refine SJ.buildSlice (R := fStr) (os := [.const (str [39]), .const (str [97])]) [[39], [97]] Try.runUnderlying78 Try.sizeOf9 Try.zeroValue9 rfl rfl rfl rfl rfl rfl fun v36 => ?_
          obtain ⟨r37, h38, hm⟩ := bindS hm
          refine SJ.call2 (k := 1) rfl Try.call75 rfl (fun w S hw hA hO hB => ok_s_l00Src_text h38 w S _ (hr4.st1 hw hO) _ (hB.row_rd (j := 0) (k := 1) rfl rfl) hA) rfl ?_
          rintro _ _ ⟨rfl, rfl⟩
          refine SJ.q (YldS.yld (y_move rfl)) rfl ?_
          refine SJ.buildSlice (R := fStr) (os := [.const (str [98]), .const (str [39]), .const (str [122])]) [[98], [39], [122]] Try.runUnderlying78 Try.sizeOf9 Try.zeroValue9 rfl rfl rfl rfl rfl rfl fun v39 => ?_
          obtain ⟨r40, h41, hm⟩ := bindS hm
          refine SJ.call2 (k := 1) rfl Try.call75 rfl (fun w S hw hA hO hB => ok_s_l00Src_text h41 w S _ (hr4.st1 hw hO) _ (hB.row_rd (j := 0) (k := 1) rfl rfl) hA) rfl ?_
          rintro _ _ ⟨rfl, rfl⟩
          refine SJ.q (YldS.yld (y_move rfl)) rfl ?_
          refine SJ.buildSlice (R := fStr) (os := [.const (str [57]), .const (str [97]), .const (str [49])]) [[57], [97], [49]] Try.runUnderlying78 Try.sizeOf9 Try.zeroValue9 rfl rfl rfl rfl rfl rfl fun v42 => ?_
          obtain ⟨r43, h44, hm⟩ := bindS hm
          refine SJ.call2 (k := 1) rfl Try.call75 rfl (fun w S hw hA hO hB => ok_s_l00Src_text h44 w S _ (hr4.st1 hw hO) _ (hB.row_rd (j := 0) (k := 1) rfl rfl) hA) rfl ?_
          rintro _ _ ⟨rfl, rfl⟩
          refine SJ.q (YldS.yld (y_build (parts := [(0, .tmp 43), (1, .tmp 46), (2, .tmp 49)]) (places := [(0, 1), (1, 1), (2, 1)]) (r := [str ((Accent.mk r37.1 r40.1 r43.1).mark), str ((Accent.mk r37.1 r40.1 r43.1).letter), str ((Accent.mk r37.1 r40.1 r43.1).made)]) pl101 Try.zeroValue101 rfl rfl rfl rfl)) rfl ?_
          refine SJ.buildSlice (R := fAccent) (os := [.tmp 50]) [(Accent.mk r37.1 r40.1 r43.1)] Try.runUnderlying25 Try.sizeOf101 Try.zeroValue101 rfl rfl rfl rfl rfl rfl fun v45 => ?_
          obtain ⟨l46, h47, hm⟩ := bindS hm
          refine SJ.append (k := 6) (R := fAccent) h47 rfl Try.underlying25 el101 rfl rfl rfl (fun w hw => (hw.row_rd (k := 0) rfl)) rfl fun v48 => ?_
          refine SJ.q (YldS.yld (y_assign rfl)) rfl ?_
          refine SJ.nil ?_
          refine PJ.block_normal ?_
          exact PJ.joined (r43.2.at_, r43.2.seed, r5.1, v7, l46, v48) [1, 5, 6] hm ⟨rfl, rfl, trivial⟩ ⟨by decide, rfl⟩
        · replace hm := ifF hm hb35
          refine WJ.seq ?_
          refine WJ.quiet ?_
          refine QJ.step (YldS.yld (y_bin rfl rfl rfl)) rfl ?_
          refine QJ.step (YldS.yld (y_assign rfl)) rfl ?_
          refine QJ.done ?_
          refine PJ.next ?_
          refine WJ.cond (t := (r17.1 == 3)) rfl (fun hb49 => ?_) (fun hb49 => ?_)
          · replace hm := ifT hm hb49
            refine WJ.seq ?_
            refine WJ.reg ?_
            refine SJ.buildSlice (R := fKey) (os := []) [] Try.runUnderlying24 Try.sizeOf41 Try.zeroValue41 rfl rfl rfl rfl rfl rfl fun v50 => ?_
            refine SJ.q (YldS.yld (y_assign rfl)) rfl ?_
            refine SJ.nil ?_
            refine PJ.next ?_
            obtain ⟨kj55, hk56, hm⟩ := withK_open hm
            refine WJ.join (X := Int × Int × (List Key) × Value) (fun (x : Int × Int × (List Key) × Value) => kj55 x.1 x.2.1 x.2.2.1 = some r) (fun (x : Int × Int × (List Key) × Value) => [(4, x.2.2.2)]) (fun (x : Int × Int × (List Key) × Value) => [box g2 157 [v3, .int .i64 x.1, .int .u64 x.2.1], row x.2.2.2 41 fKey x.2.2.1]) ?_ ?_
            · clear hk56
              refine WJ.seq ?_
              refine WJ.reg ?_
              refine SJ.q (YldS.yld (y_move rfl)) rfl ?_
              obtain ⟨r57, h58, hm⟩ := bindS hm
              refine SJ.call1 (k := 1) rfl Try.call83 rfl (fun w S hw hA hO => ok_s_l00Src_pick h58 w S _ (hr4.st1 hw hO) hA) rfl ?_
              rintro _ _ ⟨rfl, rfl⟩
              refine SJ.q (YldS.yld (y_bin rfl rfl rfl)) rfl ?_
              refine SJ.q (YldS.yld (y_assign rfl)) rfl ?_
              refine SJ.nil ?_
              refine PJ.next ?_
              refine WJ.block ?_
              refine WJ.sel (L' := (fun (x : (List Key) × Value × Int) => [box g2 157 [v3, .int .i64 r57.2.at_, .int .u64 r57.2.seed], row x.2.1 41 fKey x.1]) ([], v50, w64 (40 + r57.1))) [0, 1] ⟨by decide, rfl⟩ ?_
              refine WJ.sub (m' := (fun (x : (List Key) × Value × Int) => [(4, x.2.1), (6, .int .i64 x.2.2)]) ([], v50, w64 (40 + r57.1))) ⟨rfl, rfl, trivial⟩ ?_
              refine WJ.loop (X := (List Key) × Value × Int) (fun N (x : (List Key) × Value × Int) => s_l02Bent_l1 kj55 r57 N x.1 x.2.2 = some r) (fun (x : (List Key) × Value × Int) => [(4, x.2.1), (6, .int .i64 x.2.2)]) (fun (x : (List Key) × Value × Int) => [box g2 157 [v3, .int .i64 r57.2.at_, .int .u64 r57.2.seed], row x.2.1 41 fKey x.1]) ?_ N ([], v50, w64 (40 + r57.1)) hm
              · rintro N ⟨l59, v60, k61⟩ hI
                have hm := hI; clear hI
                cases N with
                | zero => cases hm
                | succ N =>
                unfold s_l02Bent_l1 at hm
                refine WJ.seq ?_
                refine WJ.seq ?_
                refine WJ.quiet ?_
                refine QJ.step (YldS.yld (y_move rfl)) rfl ?_
                refine QJ.step (YldS.yld (y_bin rfl rfl rfl)) rfl ?_
                refine QJ.done ?_
                refine PJ.next ?_
                refine WJ.cond (t := decide (k61 > 0)) rfl (fun hb62 => ?_) (fun hb62 => ?_)
                · replace hm := ifT hm hb62
                  refine WJ.skip ?_
                  refine PJ.next ?_
                  refine WJ.seq ?_
                  refine WJ.block ?_
                  refine WJ.seq ?_
                  refine WJ.quiet ?_
                  refine QJ.step (YldS.yld (y_move rfl)) rfl ?_
                  refine QJ.step (YldS.yld (y_lenRow (k := 1) rfl Try.runUnderlying24 rfl)) rfl ?_
                  refine QJ.step (YldS.yld (y_convTo8 Try.runUnderlying3 Try.runUnderlying5 rfl)) rfl ?_
                  refine QJ.step (YldS.yld (y_bin8 (2 : UInt8) (UInt8.ofInt (List.length l59 : Int)) rfl rfl rfl)) rfl ?_
                  refine QJ.step (YldS.yld (y_bin8 (33 : UInt8) ((2 : UInt8) * (UInt8.ofInt (List.length l59 : Int))) rfl rfl rfl)) rfl ?_
                  refine QJ.step (YldS.yld (y_assign rfl)) rfl ?_
                  refine QJ.done ?_
                  refine PJ.next ?_
                  refine WJ.reg ?_
                  refine SJ.q (YldS.yld (y_move rfl)) rfl ?_
                  refine SJ.q (YldS.yld (y_move rfl)) rfl ?_
                  refine SJ.buildSlice (R := fByte) (os := [.tmp 69]) [(33 : UInt8) + ((2 : UInt8) * (UInt8.ofInt (List.length l59 : Int)))] Try.runUnderlying22 Try.sizeOf5 Try.zeroValue5 rfl rfl rfl rfl rfl rfl fun v63 => ?_
                  refine SJ.q (YldS.yld (y_b2s Try.underlying22 Try.underlying9 Try.underlying5 (fun w hw => ⟨_, (hw.row_rd (k := 0) rfl)⟩) rfl)) rfl ?_
                  refine SJ.q (YldS.yld (y_move rfl)) rfl ?_
                  refine SJ.q (YldS.yld (y_bin8 ((33 : UInt8) + ((2 : UInt8) * (UInt8.ofInt (List.length l59 : Int)))) (1 : UInt8) rfl rfl rfl)) rfl ?_
                  refine SJ.buildSlice (R := fByte) (os := [.tmp 73]) [((33 : UInt8) + ((2 : UInt8) * (UInt8.ofInt (List.length l59 : Int)))) + (1 : UInt8)] Try.runUnderlying22 Try.sizeOf5 Try.zeroValue5 rfl rfl rfl rfl rfl rfl fun v64 => ?_
                  refine SJ.q (YldS.yld (y_b2s Try.underlying22 Try.underlying9 Try.underlying5 (fun w hw => ⟨_, (hw.row_rd (k := 0) rfl)⟩) rfl)) rfl ?_
                  refine SJ.q (YldS.yld (y_build (parts := [(0, .tmp 71), (1, .tmp 75)]) (places := [(0, 1), (1, 1), (2, 1)]) (r := [str ((Key.mk [(33 : UInt8) + ((2 : UInt8) * (UInt8.ofInt (List.length l59 : Int)))] [((33 : UInt8) + ((2 : UInt8) * (UInt8.ofInt (List.length l59 : Int)))) + (1 : UInt8)] false).low), str ((Key.mk [(33 : UInt8) + ((2 : UInt8) * (UInt8.ofInt (List.length l59 : Int)))] [((33 : UInt8) + ((2 : UInt8) * (UInt8.ofInt (List.length l59 : Int)))) + (1 : UInt8)] false).high), .bool ((Key.mk [(33 : UInt8) + ((2 : UInt8) * (UInt8.ofInt (List.length l59 : Int)))] [((33 : UInt8) + ((2 : UInt8) * (UInt8.ofInt (List.length l59 : Int)))) + (1 : UInt8)] false).dead)]) pl41 Try.zeroValue41 rfl rfl rfl rfl)) rfl ?_
                  refine SJ.buildSlice (R := fKey) (os := [.tmp 76]) [(Key.mk [(33 : UInt8) + ((2 : UInt8) * (UInt8.ofInt (List.length l59 : Int)))] [((33 : UInt8) + ((2 : UInt8) * (UInt8.ofInt (List.length l59 : Int)))) + (1 : UInt8)] false)] Try.runUnderlying24 Try.sizeOf41 Try.zeroValue41 rfl rfl rfl rfl rfl rfl fun v65 => ?_
                  obtain ⟨l66, h67, hm⟩ := bindS hm
                  refine SJ.append (k := 4) (R := fKey) h67 rfl Try.underlying24 el41 rfl rfl rfl (fun w hw => (hw.row_rd (k := 0) rfl)) rfl fun v68 => ?_
                  refine SJ.q (YldS.yld (y_assign rfl)) rfl ?_
                  refine SJ.nil ?_
                  refine PJ.block_normal (PJ.next ?_)
                  refine WJ.quiet ?_
                  refine QJ.step (YldS.yld (y_move rfl)) rfl ?_
                  refine QJ.step (YldS.yld (y_bin rfl rfl rfl)) rfl ?_
                  refine QJ.step (YldS.yld (y_assign rfl)) rfl ?_
                  refine QJ.done ?_
                  exact PJ.round (l66, v68, w64 (k61 - 1)) [3, 4] hm ⟨rfl, rfl, trivial⟩ ⟨by decide, rfl⟩
                · replace hm := ifF hm hb62
                  refine WJ.exit ?_
                  refine PJ.then_exit (PJ.then_exit (PJ.block_exit ?_))
                  exact PJ.joined (r57.2.at_, r57.2.seed, l59, v60) [0, 1] hm ⟨rfl, trivial⟩ ⟨by decide, rfl⟩
            · rintro ⟨x51, x52, l53, v54⟩ hm
              subst hk56
              refine WJ.reg ?_
              refine SJ.buildSlice (R := fAccent) (os := []) [] Try.runUnderlying25 Try.sizeOf101 Try.zeroValue101 rfl rfl rfl rfl rfl rfl fun v69 => ?_
              refine SJ.q (YldS.yld (y_assign rfl)) rfl ?_
              refine SJ.nil ?_
              refine PJ.block_normal ?_
              exact PJ.joined (x51, x52, l53, v54, [], v69) [1, 2, 0] hm ⟨rfl, rfl, trivial⟩ ⟨by decide, rfl⟩
          · replace hm := ifF hm hb49
            refine WJ.seq ?_
            refine WJ.quiet ?_
            refine QJ.step (YldS.yld (y_bin rfl rfl rfl)) rfl ?_
            refine QJ.step (YldS.yld (y_assign rfl)) rfl ?_
            refine QJ.done ?_
            refine PJ.next ?_
            refine WJ.cond (t := (r17.1 == 4)) rfl (fun hb70 => ?_) (fun hb70 => ?_)
            · replace hm := ifT hm hb70
              refine WJ.seq ?_
              refine WJ.reg ?_
              refine SJ.q (YldS.yld (y_build (parts := [(0, .const (str [97])), (1, .const (str [65]))]) (places := [(0, 1), (1, 1), (2, 1)]) (r := [str ((Key.mk [97] [65] false).low), str ((Key.mk [97] [65] false).high), .bool ((Key.mk [97] [65] false).dead)]) pl41 Try.zeroValue41 rfl rfl rfl rfl)) rfl ?_
              refine SJ.q (YldS.yld (y_build (parts := [(0, .const (str [98])), (1, .const (str [66]))]) (places := [(0, 1), (1, 1), (2, 1)]) (r := [str ((Key.mk [98] [66] false).low), str ((Key.mk [98] [66] false).high), .bool ((Key.mk [98] [66] false).dead)]) pl41 Try.zeroValue41 rfl rfl rfl rfl)) rfl ?_
              refine SJ.q (YldS.yld (y_build (parts := [(0, .const (str [39])), (1, .const (str [96])), (2, .const (.bool true))]) (places := [(0, 1), (1, 1), (2, 1)]) (r := [str ((Key.mk [39] [96] true).low), str ((Key.mk [39] [96] true).high), .bool ((Key.mk [39] [96] true).dead)]) pl41 Try.zeroValue41 rfl rfl rfl rfl)) rfl ?_
              refine SJ.q (YldS.yld (y_build (parts := [(0, .const (str [94])), (1, .const (str [126])), (2, .const (.bool true))]) (places := [(0, 1), (1, 1), (2, 1)]) (r := [str ((Key.mk [94] [126] true).low), str ((Key.mk [94] [126] true).high), .bool ((Key.mk [94] [126] true).dead)]) pl41 Try.zeroValue41 rfl rfl rfl rfl)) rfl ?_
              refine SJ.buildSlice (R := fKey) (os := [.tmp 82, .tmp 83, .tmp 84, .tmp 85]) [(Key.mk [97] [65] false), (Key.mk [98] [66] false), (Key.mk [39] [96] true), (Key.mk [94] [126] true)] Try.runUnderlying24 Try.sizeOf41 Try.zeroValue41 rfl rfl rfl rfl rfl rfl fun v71 => ?_
              refine SJ.q (YldS.yld (y_assign rfl)) rfl ?_
              refine SJ.nil ?_
              refine PJ.next ?_
              obtain ⟨kj74, hk75, hm⟩ := withK_open hm
              refine WJ.join (X := (List Key) × Value) (fun (x : (List Key) × Value) => kj74 x.1 = some r) (fun (x : (List Key) × Value) => [(0, pt g2 0), (4, x.2)]) (fun (x : (List Key) × Value) => [row x.2 41 fKey x.1, box g2 157 [v3, .int .i64 r17.2.at_, .int .u64 r17.2.seed]]) ?_ ?_
              · clear hk75
                refine WJ.seq ?_
                refine WJ.quiet ?_
                refine QJ.step (YldS.yld (y_assign rfl)) rfl ?_
                refine QJ.done ?_
                refine PJ.next ?_
                refine WJ.block ?_
                refine WJ.sel (L' := (fun (x : (List Key) × Value × Int) => [row x.2.1 41 fKey x.1, box g2 157 [v3, .int .i64 r17.2.at_, .int .u64 r17.2.seed]]) ([(Key.mk [97] [65] false), (Key.mk [98] [66] false), (Key.mk [39] [96] true), (Key.mk [94] [126] true)], v71, 0)) [0, 1] ⟨by decide, rfl⟩ ?_
                refine WJ.sub (m' := (fun (x : (List Key) × Value × Int) => [(0, pt g2 0), (4, x.2.1), (8, .int .i64 x.2.2)]) ([(Key.mk [97] [65] false), (Key.mk [98] [66] false), (Key.mk [39] [96] true), (Key.mk [94] [126] true)], v71, 0)) ⟨rfl, rfl, rfl, trivial⟩ ?_
                refine WJ.loop (X := (List Key) × Value × Int) (fun N (x : (List Key) × Value × Int) => s_l02Bent_l2 kj74 N x.1 x.2.2 = some r) (fun (x : (List Key) × Value × Int) => [(0, pt g2 0), (4, x.2.1), (8, .int .i64 x.2.2)]) (fun (x : (List Key) × Value × Int) => [row x.2.1 41 fKey x.1, box g2 157 [v3, .int .i64 r17.2.at_, .int .u64 r17.2.seed]]) ?_ N ([(Key.mk [97] [65] false), (Key.mk [98] [66] false), (Key.mk [39] [96] true), (Key.mk [94] [126] true)], v71, 0) hm
                · rintro N ⟨l76, v77, i78⟩ hI
                  have hm := hI; clear hI
                  cases N with
                  | zero => cases hm
                  | succ N =>
                  unfold s_l02Bent_l2 at hm
                  refine WJ.seq ?_
                  refine WJ.seq ?_
                  refine WJ.quiet ?_
                  refine QJ.step (YldS.yld (y_move rfl)) rfl ?_
                  refine QJ.step (YldS.yld (y_bin rfl rfl rfl)) rfl ?_
                  refine QJ.done ?_
                  refine PJ.next ?_
                  refine WJ.cond (t := decide (i78 < 6)) rfl (fun hb79 => ?_) (fun hb79 => ?_)
                  · replace hm := ifT hm hb79
                    refine WJ.skip ?_
                    refine PJ.next ?_
                    refine WJ.seq ?_
                    refine WJ.block ?_
                    refine WJ.seq ?_
                    refine WJ.quiet ?_
                    refine QJ.step (YldS.yld (y_move rfl)) rfl ?_
                    refine QJ.step (YldS.yld (y_convTo8 Try.runUnderlying3 Try.runUnderlying5 rfl)) rfl ?_
                    refine QJ.step (YldS.yld (y_bin8 (2 : UInt8) (UInt8.ofInt i78) rfl rfl rfl)) rfl ?_
                    refine QJ.step (YldS.yld (y_bin8 (99 : UInt8) ((2 : UInt8) * (UInt8.ofInt i78)) rfl rfl rfl)) rfl ?_
                    refine QJ.step (YldS.yld (y_assign rfl)) rfl ?_
                    refine QJ.done ?_
                    refine PJ.next ?_
                    refine WJ.reg ?_
                    refine SJ.q (YldS.yld (y_move rfl)) rfl ?_
                    refine SJ.q (YldS.yld (y_move rfl)) rfl ?_
                    refine SJ.buildSlice (R := fByte) (os := [.tmp 96]) [(99 : UInt8) + ((2 : UInt8) * (UInt8.ofInt i78))] Try.runUnderlying22 Try.sizeOf5 Try.zeroValue5 rfl rfl rfl rfl rfl rfl fun v80 => ?_
                    refine SJ.q (YldS.yld (y_b2s Try.underlying22 Try.underlying9 Try.underlying5 (fun w hw => ⟨_, (hw.row_rd (k := 0) rfl)⟩) rfl)) rfl ?_
                    refine SJ.q (YldS.yld (y_move rfl)) rfl ?_
                    refine SJ.q (YldS.yld (y_bin8 ((99 : UInt8) + ((2 : UInt8) * (UInt8.ofInt i78))) (1 : UInt8) rfl rfl rfl)) rfl ?_
                    refine SJ.buildSlice (R := fByte) (os := [.tmp 100]) [((99 : UInt8) + ((2 : UInt8) * (UInt8.ofInt i78))) + (1 : UInt8)] Try.runUnderlying22 Try.sizeOf5 Try.zeroValue5 rfl rfl rfl rfl rfl rfl fun v81 => ?_
                    refine SJ.q (YldS.yld (y_b2s Try.underlying22 Try.underlying9 Try.underlying5 (fun w hw => ⟨_, (hw.row_rd (k := 0) rfl)⟩) rfl)) rfl ?_
                    refine SJ.q (YldS.yld (y_build (parts := [(0, .tmp 98), (1, .tmp 102)]) (places := [(0, 1), (1, 1), (2, 1)]) (r := [str ((Key.mk [(99 : UInt8) + ((2 : UInt8) * (UInt8.ofInt i78))] [((99 : UInt8) + ((2 : UInt8) * (UInt8.ofInt i78))) + (1 : UInt8)] false).low), str ((Key.mk [(99 : UInt8) + ((2 : UInt8) * (UInt8.ofInt i78))] [((99 : UInt8) + ((2 : UInt8) * (UInt8.ofInt i78))) + (1 : UInt8)] false).high), .bool ((Key.mk [(99 : UInt8) + ((2 : UInt8) * (UInt8.ofInt i78))] [((99 : UInt8) + ((2 : UInt8) * (UInt8.ofInt i78))) + (1 : UInt8)] false).dead)]) pl41 Try.zeroValue41 rfl rfl rfl rfl)) rfl ?_
                    refine SJ.buildSlice (R := fKey) (os := [.tmp 103]) [(Key.mk [(99 : UInt8) + ((2 : UInt8) * (UInt8.ofInt i78))] [((99 : UInt8) + ((2 : UInt8) * (UInt8.ofInt i78))) + (1 : UInt8)] false)] Try.runUnderlying24 Try.sizeOf41 Try.zeroValue41 rfl rfl rfl rfl rfl rfl fun v82 => ?_
                    obtain ⟨l83, h84, hm⟩ := bindS hm
                    refine SJ.append (k := 3) (R := fKey) h84 rfl Try.underlying24 el41 rfl rfl rfl (fun w hw => (hw.row_rd (k := 0) rfl)) rfl fun v85 => ?_
                    refine SJ.q (YldS.yld (y_assign rfl)) rfl ?_
                    refine SJ.nil ?_
                    refine PJ.block_normal (PJ.next ?_)
                    refine WJ.quiet ?_
                    refine QJ.step (YldS.yld (y_move rfl)) rfl ?_
                    refine QJ.step (YldS.yld (y_bin rfl rfl rfl)) rfl ?_
                    refine QJ.step (YldS.yld (y_assign rfl)) rfl ?_
                    refine QJ.done ?_
                    exact PJ.round (l83, v85, w64 (i78 + 1)) [3, 4] hm ⟨rfl, rfl, rfl, trivial⟩ ⟨by decide, rfl⟩
                  · replace hm := ifF hm hb79
                    refine WJ.exit ?_
                    refine PJ.then_exit (PJ.then_exit (PJ.block_exit ?_))
                    exact PJ.joined (l76, v77) [0, 1] hm ⟨rfl, rfl, trivial⟩ ⟨by decide, rfl⟩
              · rintro ⟨l72, v73⟩ hm
                subst hk75
                refine WJ.seq ?_
                refine WJ.reg ?_
                refine SJ.buildSlice (R := fAccent) (os := []) [] Try.runUnderlying25 Try.sizeOf101 Try.zeroValue101 rfl rfl rfl rfl rfl rfl fun v86 => ?_
                refine SJ.q (YldS.yld (y_assign rfl)) rfl ?_
                refine SJ.nil ?_
                refine PJ.next ?_
                refine WJ.seq ?_
                refine WJ.reg ?_
                refine SJ.q (YldS.yld (y_move rfl)) rfl ?_
                obtain ⟨r87, h88, hm⟩ := bindS hm
                refine SJ.call1 (k := 2) rfl Try.call83 rfl (fun w S hw hA hO => ok_s_l00Src_pick h88 w S _ (hr4.st1 hw hO) hA) rfl ?_
                rintro _ _ ⟨rfl, rfl⟩
                refine SJ.q (YldS.yld (y_bin rfl rfl rfl)) rfl ?_
                refine SJ.q (YldS.yld (y_assign rfl)) rfl ?_
                refine SJ.nil ?_
                refine PJ.next ?_
                refine WJ.block ?_
                refine WJ.sel (L' := (fun (x : (List Accent) × Value × Int) => [box g2 157 [v3, .int .i64 r87.2.at_, .int .u64 r87.2.seed], row x.2.1 101 fAccent x.1, row v73 41 fKey l72]) ([], v86, w64 (20 + r87.1))) [0, 1, 2] ⟨by decide, rfl⟩ ?_
                refine WJ.sub (m' := (fun (x : (List Accent) × Value × Int) => [(4, v73), (5, x.2.1), (10, .int .i64 x.2.2)]) ([], v86, w64 (20 + r87.1))) ⟨rfl, rfl, rfl, trivial⟩ ?_
                refine WJ.loop (X := (List Accent) × Value × Int) (fun N (x : (List Accent) × Value × Int) => s_l02Bent_l3 kj15 l72 r87 N x.1 x.2.2 = some r) (fun (x : (List Accent) × Value × Int) => [(4, v73), (5, x.2.1), (10, .int .i64 x.2.2)]) (fun (x : (List Accent) × Value × Int) => [box g2 157 [v3, .int .i64 r87.2.at_, .int .u64 r87.2.seed], row x.2.1 101 fAccent x.1, row v73 41 fKey l72]) ?_ N ([], v86, w64 (20 + r87.1)) hm
                · rintro N ⟨l89, v90, k91⟩ hI
                  have hm := hI; clear hI
                  cases N with
                  | zero => cases hm
                  | succ N =>
                  unfold s_l02Bent_l3 at hm
                  refine WJ.seq ?_
                  refine WJ.seq ?_
                  refine WJ.quiet ?_
                  refine QJ.step (YldS.yld (y_move rfl)) rfl ?_
                  refine QJ.step (YldS.yld (y_bin rfl rfl rfl)) rfl ?_
                  refine QJ.done ?_
                  refine PJ.next ?_
                  refine WJ.cond (t := decide (k91 > 0)) rfl (fun hb92 => ?_) (fun hb92 => ?_)
                  · replace hm := ifT hm hb92
                    refine WJ.skip ?_
                    refine PJ.next ?_
                    refine WJ.seq ?_
                    refine WJ.block ?_
                    refine WJ.seq ?_
                    refine WJ.quiet ?_
                    refine QJ.step (YldS.yld (y_move rfl)) rfl ?_
                    refine QJ.step (YldS.yld (y_lenRow (k := 1) rfl Try.runUnderlying25 rfl)) rfl ?_
                    refine QJ.step (YldS.yld (y_assign rfl)) rfl ?_
                    refine QJ.done ?_
                    refine PJ.next ?_
                    refine WJ.seq ?_
                    obtain ⟨s93, h94, hm⟩ := bindS hm
                    refine WJ.draws (N := 14) (listed0 := #[false, false, false, false, false, false, false, false, false, false, false, false, false, false]) [box g2 157 [v3, .int .i64 r87.2.at_, .int .u64 r87.2.seed], row v90 101 fAccent l89, row v73 41 fKey l72] follows rfl rfl ?_
                    refine RJ.first 0 (listed' := #[true, false, false, false, false, false, false, false, false, false, false, false, false, false]) [0, 1, 2] rfl (by kernel_rfl) rfl ⟨by decide, rfl⟩ (y_move rfl) rfl ?_
                    refine RJ.first 1 (listed' := #[true, true, false, false, false, false, false, false, false, false, false, false, false, false]) [0, 1, 2] rfl (by kernel_rfl) rfl ⟨by decide, rfl⟩ (y_quo rfl rfl (by decide)) rfl ?_
                    refine RJ.first 2 (listed' := #[true, true, true, false, false, false, false, false, false, false, false, false, false, false]) [0, 1, 2] rfl (by kernel_rfl) rfl ⟨by decide, rfl⟩ (y_move rfl) rfl ?_
                    refine RJ.first 3 (listed' := #[true, true, true, true, false, false, false, false, false, false, false, false, false, false]) [0, 1, 2] rfl (by kernel_rfl) rfl ⟨by decide, rfl⟩ (y_quo rfl rfl (by decide)) rfl ?_
                    refine RJ.first 4 (listed' := #[true, true, true, true, true, false, false, false, false, false, false, false, false, false]) [0, 1, 2] rfl (by kernel_rfl) rfl ⟨by decide, rfl⟩ (y_bin rfl rfl rfl) rfl ?_
                    refine RJ.first 5 (listed' := #[true, true, true, true, true, true, false, false, false, false, false, false, false, false]) [0, 1, 2] rfl (by kernel_rfl) rfl ⟨by decide, rfl⟩ (y_subStr (i := some (w64 (Int.tdiv (List.length l89 : Int) 6))) (j := some (w64 ((w64 (Int.tdiv (List.length l89 : Int) 6)) + 1))) h94 Try.runUnderlying9 rfl ⟨_, rfl⟩ ⟨_, rfl⟩) rfl ?_
                    refine RJ.first 6 (listed' := #[true, true, true, true, true, true, true, false, false, false, false, false, false, false]) [0, 1, 2] rfl (by kernel_rfl) rfl ⟨by decide, rfl⟩ (y_move rfl) rfl ?_
                    refine RJ.first 7 (listed' := #[true, true, true, true, true, true, true, true, false, false, false, false, false, false]) [0, 1, 2] rfl (by kernel_rfl) rfl ⟨by decide, rfl⟩ (y_convTo8 Try.runUnderlying3 Try.runUnderlying5 rfl) rfl ?_
                    refine RJ.first 8 (listed' := #[true, true, true, true, true, true, true, true, true, false, false, false, false, false]) [0, 1, 2] rfl (by kernel_rfl) rfl ⟨by decide, rfl⟩ (y_bin8 (67 : UInt8) (UInt8.ofInt (List.length l89 : Int)) rfl rfl rfl) rfl ?_
                    refine RJ.hold (X := Nat × Value) 1 #[true, true, true, true, true, true, true, true, true, true, true, true, true, false] (fun (x : Nat × Value) => [(4, v73), (5, v90), (10, .int .i64 k91), (11, .int .i64 (List.length l89 : Int)), (12, pt x.1 0), (127, .agg (Accent.enc (Accent.mk s93 [] [(67 : UInt8) + (UInt8.ofInt (List.length l89 : Int))])).toArray)]) (fun (x : Nat × Value) => [box x.1 101 [str [], str [], str []], row x.2 5 fByte [(67 : UInt8) + (UInt8.ofInt (List.length l89 : Int))], box g2 157 [v3, .int .i64 r87.2.at_, .int .u64 r87.2.seed], row v90 101 fAccent l89, row v73 41 fKey l72]) ?_ ?_
                    · rintro ⟨g96, v95⟩
                      refine RJ.step1 13 [2, 3, 4] (by kernel_rfl) ⟨by decide, rfl⟩ ?_
                      refine RO.of (listed' := #[true, true, true, true, true, true, true, true, true, true, true, true, true, true]) rfl rfl ?_
                      refine SJ.storeL (k := 0) (off := 0) (us := [str ((Accent.mk s93 [] [(67 : UInt8) + (UInt8.ofInt (List.length l89 : Int))]).mark), str ((Accent.mk s93 [] [(67 : UInt8) + (UInt8.ofInt (List.length l89 : Int))]).letter), str ((Accent.mk s93 [] [(67 : UInt8) + (UInt8.ofInt (List.length l89 : Int))]).made)]) rfl rfl rfl rfl Try.sizeOf101 rfl rfl ?_
                      refine SJ.nil ?_
                      refine PJ.draw ?_
                      refine RJ.fin [2, 3, 4] (by kernel_rfl) ⟨by decide, rfl⟩ ?_
                      refine PJ.next ?_
                      refine WJ.seq ?_
                      refine WJ.reg ?_
                      refine SJ.q (YldS.yld (y_move rfl)) rfl ?_
                      refine SJ.q (YldS.yld (y_move rfl)) rfl ?_
                      refine SJ.q (YldS.yld (y_rem rfl rfl (by decide))) rfl ?_
                      refine SJ.q (YldS.yld (y_bin rfl rfl rfl)) rfl ?_
                      obtain ⟨e98, h99, hm⟩ := bindS hm
                      refine SJ.q (YldS.yld (y_ixRow (k := 4) (R := fKey) rfl Try.runUnderlying24 Try.sizeOf41 rfl rfl h99)) rfl ?_
                      refine SJ.q (YldS.yld (y_fldR fld41_0 rfl)) rfl ?_
                      refine SJ.q (YldS.yld (y_loadR (k := 4) (i := (Int.toNat (w64 (4 + (Int.tmod (List.length l89 : Int) 6))))) (off := 0) (u := str e98.low) rfl Try.isAgg9 rfl (idx_get h99) rfl)) rfl ?_
                      refine SJ.q (YldS.yld (y_fldB (o := 0) fld101_1 rfl)) rfl ?_
                      refine SJ.storeL (k := 0) (off := 1) (us := [str e98.low]) rfl rfl rfl rfl Try.sizeOf9 rfl rfl ?_
                      refine SJ.nil ?_
                      refine PJ.next ?_
                      refine WJ.reg ?_
                      refine SJ.q (YldS.yld (y_move rfl)) rfl ?_
                      refine SJ.q (YldS.yld (y_loadBN (k := 0) (off := 0) (us := [str ((Accent.mk s93 [] [(67 : UInt8) + (UInt8.ofInt (List.length l89 : Int))]).mark), str e98.low, str ((Accent.mk s93 [] [(67 : UInt8) + (UInt8.ofInt (List.length l89 : Int))]).made)]) rfl Try.isAgg101 Try.sizeOf101 rfl rfl)) rfl ?_
                      refine SJ.buildSlice (R := fAccent) (os := [.tmp 137]) [(Accent.mk ((Accent.mk s93 [] [(67 : UInt8) + (UInt8.ofInt (List.length l89 : Int))]).mark) e98.low ((Accent.mk s93 [] [(67 : UInt8) + (UInt8.ofInt (List.length l89 : Int))]).made))] Try.runUnderlying25 Try.sizeOf101 Try.zeroValue101 rfl rfl rfl rfl rfl rfl fun v100 => ?_
                      obtain ⟨l101, h102, hm⟩ := bindS hm
                      refine SJ.append (k := 4) (R := fAccent) h102 rfl Try.underlying25 el101 rfl rfl rfl (fun w hw => (hw.row_rd (k := 0) rfl)) rfl fun v103 => ?_
                      refine SJ.q (YldS.yld (y_assign rfl)) rfl ?_
                      refine SJ.nil ?_
                      refine PJ.block_normal (PJ.next ?_)
                      refine WJ.quiet ?_
                      refine QJ.step (YldS.yld (y_move rfl)) rfl ?_
                      refine QJ.step (YldS.yld (y_bin rfl rfl rfl)) rfl ?_
                      refine QJ.step (YldS.yld (y_assign rfl)) rfl ?_
                      refine QJ.done ?_
                      exact PJ.round (l101, v103, w64 (k91 - 1)) [3, 4, 5] hm ⟨rfl, rfl, rfl, trivial⟩ ⟨by decide, rfl⟩
                    · intro hD97
                      refine RJ.step2 9 12 [0, 1, 2] (by kernel_rfl) ⟨by decide, rfl⟩ ?_ ?_
                      · refine RO.of (listed' := #[true, true, true, true, true, true, true, true, true, true, false, false, false, false]) rfl rfl ?_
                        refine SJ.buildSlice (R := fByte) (os := [.tmp 124]) [(67 : UInt8) + (UInt8.ofInt (List.length l89 : Int))] Try.runUnderlying22 Try.sizeOf5 Try.zeroValue5 rfl rfl rfl rfl rfl rfl fun v95 => ?_
                        refine SJ.nil ?_
                        refine PJ.draw ?_
                        refine RJ.step2 10 12 [1, 2, 3] (by kernel_rfl) ⟨by decide, rfl⟩ ?_ ?_
                        · refine RO.of (listed' := #[true, true, true, true, true, true, true, true, true, true, true, false, false, false]) rfl rfl ?_
                          refine SJ.q (YldS.yld (y_b2s Try.underlying22 Try.underlying9 Try.underlying5 (fun w hw => ⟨_, (hw.row_rd (k := 0) rfl)⟩) rfl)) rfl ?_
                          refine SJ.nil ?_
                          refine PJ.draw ?_
                          refine RJ.first 11 (listed' := #[true, true, true, true, true, true, true, true, true, true, true, true, false, false]) [1, 2, 3] rfl (by kernel_rfl) rfl ⟨by decide, rfl⟩ (y_build (parts := [(0, .tmp 121), (2, .tmp 126)]) (places := [(0, 1), (1, 1), (2, 1)]) (r := [str ((Accent.mk s93 [] [(67 : UInt8) + (UInt8.ofInt (List.length l89 : Int))]).mark), str ((Accent.mk s93 [] [(67 : UInt8) + (UInt8.ofInt (List.length l89 : Int))]).letter), str ((Accent.mk s93 [] [(67 : UInt8) + (UInt8.ofInt (List.length l89 : Int))]).made)]) pl101 Try.zeroValue101 rfl rfl rfl rfl) rfl ?_
                          refine RJ.step1 12 [1, 2, 3] (by kernel_rfl) ⟨by decide, rfl⟩ ?_
                          refine RO.of (listed' := #[true, true, true, true, true, true, true, true, true, true, true, true, true, false]) rfl rfl ?_
                          refine SJ.alloc (cs := [str [], str [], str []]) Try.zeroValue101 rfl rfl fun g96 => ?_
                          refine SJ.nil ?_
                          refine PJ.draw ?_
                          exact RJ.weak (hD97 (g96, v95)) [0, 1, 2, 3, 4] ⟨rfl, rfl, rfl, rfl, rfl, rfl, trivial⟩ ⟨by decide, rfl⟩
                        · refine RO.of (listed' := #[true, true, true, true, true, true, true, true, true, true, false, false, true, false]) rfl rfl ?_
                          refine SJ.alloc (cs := [str [], str [], str []]) Try.zeroValue101 rfl rfl fun g96 => ?_
                          refine SJ.nil ?_
                          refine PJ.draw ?_
                          refine RJ.step1 10 [2, 3, 4] (by kernel_rfl) ⟨by decide, rfl⟩ ?_
                          refine RO.of (listed' := #[true, true, true, true, true, true, true, true, true, true, true, false, true, false]) rfl rfl ?_
                          refine SJ.q (YldS.yld (y_b2s Try.underlying22 Try.underlying9 Try.underlying5 (fun w hw => ⟨_, (hw.row_rd (k := 1) rfl)⟩) rfl)) rfl ?_
                          refine SJ.nil ?_
                          refine PJ.draw ?_
                          refine RJ.first 11 (listed' := #[true, true, true, true, true, true, true, true, true, true, true, true, true, false]) [2, 3, 4] rfl (by kernel_rfl) rfl ⟨by decide, rfl⟩ (y_build (parts := [(0, .tmp 121), (2, .tmp 126)]) (places := [(0, 1), (1, 1), (2, 1)]) (r := [str ((Accent.mk s93 [] [(67 : UInt8) + (UInt8.ofInt (List.length l89 : Int))]).mark), str ((Accent.mk s93 [] [(67 : UInt8) + (UInt8.ofInt (List.length l89 : Int))]).letter), str ((Accent.mk s93 [] [(67 : UInt8) + (UInt8.ofInt (List.length l89 : Int))]).made)]) pl101 Try.zeroValue101 rfl rfl rfl rfl) rfl ?_
                          exact RJ.weak (hD97 (g96, v95)) [0, 1, 2, 3, 4] ⟨rfl, rfl, rfl, rfl, rfl, rfl, trivial⟩ ⟨by decide, rfl⟩
                      · refine RO.of (listed' := #[true, true, true, true, true, true, true, true, true, false, false, false, true, false]) rfl rfl ?_
                        refine SJ.alloc (cs := [str [], str [], str []]) Try.zeroValue101 rfl rfl fun g96 => ?_
                        refine SJ.nil ?_
                        refine PJ.draw ?_
                        refine RJ.step1 9 [1, 2, 3] (by kernel_rfl) ⟨by decide, rfl⟩ ?_
                        refine RO.of (listed' := #[true, true, true, true, true, true, true, true, true, true, false, false, true, false]) rfl rfl ?_
                        refine SJ.buildSlice (R := fByte) (os := [.tmp 124]) [(67 : UInt8) + (UInt8.ofInt (List.length l89 : Int))] Try.runUnderlying22 Try.sizeOf5 Try.zeroValue5 rfl rfl rfl rfl rfl rfl fun v95 => ?_
                        refine SJ.nil ?_
                        refine PJ.draw ?_
                        refine RJ.step1 10 [2, 3, 4] (by kernel_rfl) ⟨by decide, rfl⟩ ?_
                        refine RO.of (listed' := #[true, true, true, true, true, true, true, true, true, true, true, false, true, false]) rfl rfl ?_
                        refine SJ.q (YldS.yld (y_b2s Try.underlying22 Try.underlying9 Try.underlying5 (fun w hw => ⟨_, (hw.row_rd (k := 0) rfl)⟩) rfl)) rfl ?_
                        refine SJ.nil ?_
                        refine PJ.draw ?_
                        refine RJ.first 11 (listed' := #[true, true, true, true, true, true, true, true, true, true, true, true, true, false]) [2, 3, 4] rfl (by kernel_rfl) rfl ⟨by decide, rfl⟩ (y_build (parts := [(0, .tmp 121), (2, .tmp 126)]) (places := [(0, 1), (1, 1), (2, 1)]) (r := [str ((Accent.mk s93 [] [(67 : UInt8) + (UInt8.ofInt (List.length l89 : Int))]).mark), str ((Accent.mk s93 [] [(67 : UInt8) + (UInt8.ofInt (List.length l89 : Int))]).letter), str ((Accent.mk s93 [] [(67 : UInt8) + (UInt8.ofInt (List.length l89 : Int))]).made)]) pl101 Try.zeroValue101 rfl rfl rfl rfl) rfl ?_
                        exact RJ.weak (hD97 (g96, v95)) [1, 0, 2, 3, 4] ⟨rfl, rfl, rfl, rfl, rfl, rfl, trivial⟩ ⟨by decide, rfl⟩
                  · replace hm := ifF hm hb92
                    refine WJ.exit ?_
                    refine PJ.then_exit (PJ.then_exit (PJ.block_exit (PJ.block_normal ?_)))
                    exact PJ.joined (r87.2.at_, r87.2.seed, l72, v73, l89, v90) [0, 2, 1] hm ⟨rfl, rfl, trivial⟩ ⟨by decide, rfl⟩
            · replace hm := ifF hm hb70
              refine WJ.skip ?_
              refine PJ.block_normal ?_
              exact PJ.joined (r17.2.at_, r17.2.seed, r5.1, v7, r5.2.1, v8) [0, 1, 2] hm ⟨rfl, rfl, trivial⟩ ⟨by decide, rfl⟩
  · rintro ⟨x9, x10, l11, v12, l13, v14⟩ hm
    subst hk16
    refine WJ.seq ?_
    refine WJ.quiet ?_
    refine QJ.step (YldS.yld (y_move rfl)) rfl ?_
    refine QJ.step (YldS.yld (y_move rfl)) rfl ?_
    refine QJ.step (YldS.yld (y_assign rfl)) rfl ?_
    refine QJ.step (YldS.yld (y_assign rfl)) rfl ?_
    refine QJ.done ?_
    refine PJ.next ?_
    refine WJ.ret ?_
    obtain rfl := Option.some.inj hm
    refine PJ.sel (L' := [box g2 157 [v3, .int .i64 x9, .int .u64 x10], row v12 41 fKey l11, row v14 101 fAccent l13]) [0, 1, 2] ⟨by decide, rfl⟩ ?_
    exact PJ.retn (vs := [v12, v14]) Try.results74 ⟨rfl, rfl, trivial⟩ ⟨_, _, rfl, rfl⟩

set_option maxRecDepth 100000 in
set_option maxHeartbeats 1000000 in
theorem ok_s_l02PutLetter {N : Nat} {list1 : Str} {letter2 : Str} {r : Str} (hm : s_l02PutLetter N list1 letter2 = some r) (w : World)  :
    Calls Try.prog 140 #[str list1, str letter2] w (Ret (cx w) (str r)) := by
  unfold s_l02PutLetter at hm
  refine Calls.enter [str list1, str letter2] Try.func140 rfl Try.ntmps140 rfl ?_
  refine WJ.seq ?_
  refine WJ.quiet ?_
  refine QJ.step (YldS.yld (y_assign rfl)) rfl ?_
  refine QJ.done ?_
  refine PJ.next ?_
  refine WJ.seq ?_
  refine WJ.quiet ?_
  refine QJ.step (YldS.yld (y_assign rfl)) rfl ?_
  refine QJ.done ?_
  refine PJ.next ?_
  obtain ⟨kj4, hk5, hm⟩ := withK_open hm
  refine WJ.join (X := Int) (fun (x : Int) => kj4 x = some r) (fun (x : Int) => [(0, str list1), (1, str letter2), (5, .int .i64 x)]) (fun (x : Int) => []) ?_ ?_
  · clear hk5
    refine WJ.block ?_
    refine WJ.sel (L' := (fun (x : Int) => []) 0) [] ⟨List.nodup_nil, rfl⟩ ?_
    refine WJ.sub (m' := (fun (x : Int) => [(0, str list1), (1, str letter2), (5, .int .i64 x)]) 0) ⟨rfl, rfl, rfl, trivial⟩ ?_
    refine WJ.loop (X := Int) (fun N (x : Int) => s_l02PutLetter_l1 kj4 list1 letter2 N x = some r) (fun (x : Int) => [(0, str list1), (1, str letter2), (5, .int .i64 x)]) (fun (x : Int) => []) ?_ N 0 hm
    · rintro N k6 hI
      have hm := hI; clear hI
      cases N with
      | zero => cases hm
      | succ N =>
      unfold s_l02PutLetter_l1 at hm
      refine WJ.seq ?_
      refine WJ.seq ?_
      refine WJ.quiet_draw follows (by kernel_rfl) ?_
      refine QJ.step (YldS.yld (y_move rfl)) rfl ?_
      refine QJ.step (YldS.yld (y_move rfl)) rfl ?_
      refine QJ.step (YldS.yld (y_lenStr Try.runUnderlying9 rfl)) rfl ?_
      refine QJ.step (YldS.yld (y_bin rfl rfl rfl)) rfl ?_
      refine QJ.step (YldS.yld (y_move rfl)) rfl ?_
      obtain ⟨t7, h8, hm⟩ := bindS hm
      refine QJ.cut 7 [(0, str list1), (1, str letter2), (5, .int .i64 k6), (17, .bool t7)] ?_ ?_
      · rcases Bool.eq_false_or_eq_true (decide (k6 < (List.length list1 : Int))) with hb9 | hb9
        · replace h8 := andT h8 hb9
          refine QJ.on rfl rfl (cB hb9) (YldS.yld (y_move rfl)) rfl ?_
          refine QJ.on rfl rfl (cB hb9) (YldS.yld (y_move rfl)) rfl ?_
          obtain ⟨c10, h11, h8⟩ := bindS h8
          refine QJ.on rfl rfl (cB hb9) (YldS.yld (y_idxStr Try.runUnderlying9 rfl rfl h11)) rfl ?_
          refine QJ.on rfl rfl (cB hb9) (YldS.yld (y_move rfl)) rfl ?_
          obtain ⟨c12, h13, h8⟩ := bindS h8
          refine QJ.on rfl rfl (cB hb9) (YldS.yld (y_idxStr Try.runUnderlying9 rfl rfl h13)) rfl ?_
          refine QJ.on rfl rfl (cB hb9) (YldS.yld (y_bin8 c10 c12 rfl rfl rfl)) rfl ?_
          refine QJ.step (YldS.yld (y_pick_t (cB hb9) rfl)) rfl ?_
          obtain rfl := Option.some.inj h8
          exact QJ.cut_end ⟨rfl, rfl, rfl, rfl, trivial⟩
        · obtain rfl := andF h8 hb9
          refine QJ.off rfl rfl (cB hb9) rfl rfl ?_
          refine QJ.off rfl rfl (cB hb9) rfl rfl ?_
          refine QJ.off rfl rfl (cB hb9) rfl rfl ?_
          refine QJ.off rfl rfl (cB hb9) rfl rfl ?_
          refine QJ.off rfl rfl (cB hb9) rfl rfl ?_
          refine QJ.off rfl rfl (cB hb9) rfl rfl ?_
          refine QJ.step (YldS.yld (y_pick_f (cB hb9) rfl)) rfl ?_
          exact QJ.cut_end ⟨rfl, rfl, rfl, rfl, trivial⟩
      refine QJ.done ?_
      refine PJ.next ?_
      refine WJ.cond (t := t7) rfl (fun hb14 => ?_) (fun hb14 => ?_)
      · replace hm := ifT hm hb14
        refine WJ.skip ?_
        refine PJ.next ?_
        refine WJ.block ?_
        refine WJ.quiet ?_
        refine QJ.step (YldS.yld (y_move rfl)) rfl ?_
        refine QJ.step (YldS.yld (y_bin rfl rfl rfl)) rfl ?_
        refine QJ.step (YldS.yld (y_assign rfl)) rfl ?_
        refine QJ.done ?_
        refine PJ.block_normal ?_
        exact PJ.round (w64 (k6 + 1)) [] hm ⟨rfl, rfl, rfl, trivial⟩ ⟨List.nodup_nil, rfl⟩
      · replace hm := ifF hm hb14
        refine WJ.exit ?_
        refine PJ.then_exit (PJ.then_exit (PJ.block_exit ?_))
        exact PJ.joined k6 [] hm ⟨rfl, rfl, rfl, trivial⟩ ⟨List.nodup_nil, rfl⟩
  · rintro k3 hm
    subst hk5
    refine WJ.seq ?_
    refine WJ.seq ?_
    refine WJ.quiet_draw follows (by kernel_rfl) ?_
    refine QJ.step (YldS.yld (y_move rfl)) rfl ?_
    refine QJ.step (YldS.yld (y_move rfl)) rfl ?_
    refine QJ.step (YldS.yld (y_lenStr Try.runUnderlying9 rfl)) rfl ?_
    refine QJ.step (YldS.yld (y_bin rfl rfl rfl)) rfl ?_
    refine QJ.step (YldS.yld (y_move rfl)) rfl ?_
    obtain ⟨t15, h16, hm⟩ := bindS hm
    refine QJ.cut 7 [(0, str list1), (1, str letter2), (5, .int .i64 k3), (31, .bool t15)] ?_ ?_
    · rcases Bool.eq_false_or_eq_true (decide (k3 < (List.length list1 : Int))) with hb17 | hb17
      · replace h16 := andT h16 hb17
        refine QJ.on rfl rfl (cB hb17) (YldS.yld (y_move rfl)) rfl ?_
        refine QJ.on rfl rfl (cB hb17) (YldS.yld (y_move rfl)) rfl ?_
        obtain ⟨c18, h19, h16⟩ := bindS h16
        refine QJ.on rfl rfl (cB hb17) (YldS.yld (y_idxStr Try.runUnderlying9 rfl rfl h19)) rfl ?_
        refine QJ.on rfl rfl (cB hb17) (YldS.yld (y_move rfl)) rfl ?_
        obtain ⟨c20, h21, h16⟩ := bindS h16
        refine QJ.on rfl rfl (cB hb17) (YldS.yld (y_idxStr Try.runUnderlying9 rfl rfl h21)) rfl ?_
        refine QJ.on rfl rfl (cB hb17) (YldS.yld (y_bin8 c18 c20 rfl rfl rfl)) rfl ?_
        refine QJ.step (YldS.yld (y_pick_t (cB hb17) rfl)) rfl ?_
        obtain rfl := Option.some.inj h16
        exact QJ.cut_end ⟨rfl, rfl, rfl, rfl, trivial⟩
      · obtain rfl := andF h16 hb17
        refine QJ.off rfl rfl (cB hb17) rfl rfl ?_
        refine QJ.off rfl rfl (cB hb17) rfl rfl ?_
        refine QJ.off rfl rfl (cB hb17) rfl rfl ?_
        refine QJ.off rfl rfl (cB hb17) rfl rfl ?_
        refine QJ.off rfl rfl (cB hb17) rfl rfl ?_
        refine QJ.off rfl rfl (cB hb17) rfl rfl ?_
        refine QJ.step (YldS.yld (y_pick_f (cB hb17) rfl)) rfl ?_
        exact QJ.cut_end ⟨rfl, rfl, rfl, rfl, trivial⟩
    refine QJ.done ?_
    refine PJ.next ?_
    refine WJ.cond (t := t15) rfl (fun hb22 => ?_) (fun hb22 => ?_)
    · replace hm := ifT hm hb22
      refine WJ.seq ?_
      refine WJ.quiet ?_
      refine QJ.step (YldS.yld (y_move rfl)) rfl ?_
      refine QJ.step (YldS.yld (y_assign rfl)) rfl ?_
      refine QJ.done ?_
      refine PJ.next ?_
      refine WJ.ret ?_
      refine PJ.then_ret ?_
      obtain rfl := Option.some.inj hm
      refine PJ.sel (L' := []) [] ⟨List.nodup_nil, rfl⟩ ?_
      exact PJ.retn (vs := [str list1]) Try.results140 ⟨rfl, trivial⟩ ⟨rfl, rfl⟩
    · replace hm := ifF hm hb22
      refine WJ.skip ?_
      refine PJ.next ?_
      refine WJ.seq ?_
      refine WJ.quiet_draw follows (by kernel_rfl) ?_
      refine QJ.step (YldS.yld (y_move rfl)) rfl ?_
      refine QJ.step (YldS.yld (y_move rfl)) rfl ?_
      obtain ⟨s23, h24, hm⟩ := bindS hm
      refine QJ.step (YldS.yld (y_subStr (i := none) (j := some k3) h24 Try.runUnderlying9 rfl trivial ⟨_, rfl⟩)) rfl ?_
      refine QJ.step (YldS.yld (y_move rfl)) rfl ?_
      obtain ⟨s25, h26, hm⟩ := bindS hm
      refine QJ.step (YldS.yld (y_cat h26 rfl rfl)) rfl ?_
      refine QJ.step (YldS.yld (y_move rfl)) rfl ?_
      refine QJ.step (YldS.yld (y_move rfl)) rfl ?_
      obtain ⟨s27, h28, hm⟩ := bindS hm
      refine QJ.step (YldS.yld (y_subStr (i := some k3) (j := none) h28 Try.runUnderlying9 rfl ⟨_, rfl⟩ trivial)) rfl ?_
      obtain ⟨s29, h30, hm⟩ := bindS hm
      refine QJ.step (YldS.yld (y_cat h30 rfl rfl)) rfl ?_
      refine QJ.step (YldS.yld (y_assign rfl)) rfl ?_
      refine QJ.done ?_
      refine PJ.next ?_
      refine WJ.ret ?_
      obtain rfl := Option.some.inj hm
      refine PJ.sel (L' := []) [] ⟨List.nodup_nil, rfl⟩ ?_
      exact PJ.retn (vs := [str s29]) Try.results140 ⟨rfl, trivial⟩ ⟨rfl, rfl⟩

set_option maxRecDepth 100000 in
set_option maxHeartbeats 1000000 in
theorem ok_s_LettersOf {N : Nat} {keys1 : List Key} {accents4 : List Accent} {r : Str × Int} (hm : s_LettersOf N keys1 accents4 = some r) (w : World) (v2 : Value) (hr3 : RdS w (cx w).Fz v2 fKey.rp keys1) (v5 : Value) (hr6 : RdS w (cx w).Fz v5 fAccent.rp accents4) :
    Calls Try.prog 133 #[v2, v5] w (Ret (cx w) (tup [str r.1, .int .i64 r.2])) := by
  unfold s_LettersOf at hm
  refine Calls.enter [v2, v5] Try.func133 rfl Try.ntmps133 rfl ?_
  refine WJ.seq ?_
  refine WJ.quiet ?_
  refine QJ.step (YldS.yld (y_assign rfl)) rfl ?_
  refine QJ.step (YldS.yld (y_assign rfl)) rfl ?_
  refine QJ.done ?_
  refine PJ.next ?_
  refine WJ.seq ?_
  refine WJ.seq ?_
  refine WJ.quiet ?_
  refine QJ.step (YldS.yld (y_move rfl)) rfl ?_
  refine QJ.step (YldS.yld (y_move rfl)) rfl ?_
  obtain ⟨r7, h8, hm⟩ := bindS hm
  refine QJ.step (y_call Try.call70 rfl (RetG.quiet fun w hw => ok_s_l02Ok h8 w _ (hr3.st hw) _ (hr6.st hw))) rfl ?_
  refine QJ.step (YldS.yld (y_not rfl)) rfl ?_
  refine QJ.done ?_
  refine PJ.next ?_
  refine WJ.cond (t := !r7) rfl (fun hb9 => ?_) (fun hb9 => ?_)
  · replace hm := ifT hm hb9
    refine WJ.seq ?_
    refine WJ.quiet ?_
    refine QJ.step (YldS.yld (y_assign rfl)) rfl ?_
    refine QJ.step (YldS.yld (y_assign rfl)) rfl ?_
    refine QJ.done ?_
    refine PJ.next ?_
    refine WJ.ret ?_
    refine PJ.then_ret ?_
    obtain rfl := Option.some.inj hm
    refine PJ.sel (L' := []) [] ⟨List.nodup_nil, rfl⟩ ?_
    exact PJ.retn (vs := [str [], .int .i64 1]) Try.results133 ⟨rfl, rfl, trivial⟩ ⟨rfl, rfl⟩
  · replace hm := ifF hm hb9
    refine WJ.skip ?_
    refine PJ.next ?_
    refine WJ.seq ?_
    refine WJ.quiet ?_
    refine QJ.step (YldS.yld (y_assign rfl)) rfl ?_
    refine QJ.done ?_
    refine PJ.next ?_
    obtain ⟨kj11, hk12, hm⟩ := withK_open hm
    refine WJ.join (X := Str) (fun (x : Str) => kj11 x = some r) (fun (x : Str) => [(1, v5), (6, str x)]) (fun (x : Str) => []) ?_ ?_
    · clear hk12
      refine WJ.seq ?_
      refine WJ.quiet ?_
      refine QJ.step (YldS.yld (y_assign rfl)) rfl ?_
      refine QJ.done ?_
      refine PJ.next ?_
      refine WJ.block ?_
      refine WJ.sel (L' := (fun (x : Str × Int) => []) ([], 0)) [] ⟨List.nodup_nil, rfl⟩ ?_
      refine WJ.sub (m' := (fun (x : Str × Int) => [(0, v2), (1, v5), (6, str x.1), (7, .int .i64 x.2)]) ([], 0)) ⟨rfl, rfl, rfl, rfl, trivial⟩ ?_
      refine WJ.loop (X := Str × Int) (fun N (x : Str × Int) => s_LettersOf_l1 kj11 keys1 N x.1 x.2 = some r) (fun (x : Str × Int) => [(0, v2), (1, v5), (6, str x.1), (7, .int .i64 x.2)]) (fun (x : Str × Int) => []) ?_ N ([], 0) hm
      · rintro N ⟨out13, i14⟩ hI
        have hm := hI; clear hI
        cases N with
        | zero => cases hm
        | succ N =>
        unfold s_LettersOf_l1 at hm
        refine WJ.seq ?_
        refine WJ.seq ?_
        refine WJ.quiet ?_
        refine QJ.step (YldS.yld (y_move rfl)) rfl ?_
        refine QJ.step (YldS.yld (y_move rfl)) rfl ?_
        refine QJ.step (YldS.yld (y_lenS Try.runUnderlying24 hr3 rfl)) rfl ?_
        refine QJ.step (YldS.yld (y_bin rfl rfl rfl)) rfl ?_
        refine QJ.done ?_
        refine PJ.next ?_
        refine WJ.cond (t := decide (i14 < (List.length keys1 : Int))) rfl (fun hb15 => ?_) (fun hb15 => ?_)
        · replace hm := ifT hm hb15
          refine WJ.skip ?_
          refine PJ.next ?_
          obtain ⟨kj17, hk18, hm⟩ := withK_open hm
          refine WJ.join (X := Str) (fun (x : Str) => kj17 x = some r) (fun (x : Str) => [(0, v2), (1, v5), (6, str x), (7, .int .i64 i14)]) (fun (x : Str) => []) ?_ ?_
          · clear hk18
            refine WJ.block ?_
            refine WJ.seq ?_
            refine WJ.quiet ?_
            refine QJ.step (YldS.yld (y_move rfl)) rfl ?_
            refine QJ.step (YldS.yld (y_move rfl)) rfl ?_
            obtain ⟨e19, h20, hm⟩ := bindS hm
            obtain ⟨ad21, _, rfl, ha22, hy23⟩ := hr3.elem h20
            refine QJ.step (YldS.yld (hy23 Try.runUnderlying24 Try.sizeOf41 rfl rfl)) rfl ?_
            refine QJ.step (YldS.yld (y_fld (ad := ad21) fld41_2 rfl)) rfl ?_
            refine QJ.step (YldS.yld (y_load1 (v := .bool e19.dead) Try.isAgg4 (ha22.sub 2 1) St.frozenC rfl)) rfl ?_
            refine QJ.step (YldS.yld (y_not rfl)) rfl ?_
            refine QJ.done ?_
            refine PJ.next ?_
            refine WJ.cond (t := !e19.dead) rfl (fun hb24 => ?_) (fun hb24 => ?_)
            · replace hm := ifT hm hb24
              refine WJ.seq ?_
              refine WJ.quiet ?_
              refine QJ.step (YldS.yld (y_move rfl)) rfl ?_
              refine QJ.step (YldS.yld (y_move rfl)) rfl ?_
              refine QJ.step (YldS.yld (y_move rfl)) rfl ?_
              obtain ⟨e25, h26, hm⟩ := bindS hm
              obtain ⟨ad27, _, rfl, ha28, hy29⟩ := hr3.elem h26
              refine QJ.step (YldS.yld (hy29 Try.runUnderlying24 Try.sizeOf41 rfl rfl)) rfl ?_
              refine QJ.step (YldS.yld (y_fld (ad := ad27) fld41_0 rfl)) rfl ?_
              refine QJ.step (YldS.yld (y_load1 (v := str e25.low) Try.isAgg9 (ha28.sub 0 1) St.frozenC rfl)) rfl ?_
              obtain ⟨r30, h31, hm⟩ := bindS hm
              refine QJ.step (y_call Try.call140 rfl (RetG.quiet fun w hw => ok_s_l02PutLetter h31 w )) rfl ?_
              refine QJ.step (YldS.yld (y_assign rfl)) rfl ?_
              refine QJ.done ?_
              refine PJ.next ?_
              refine WJ.quiet ?_
              refine QJ.step (YldS.yld (y_move rfl)) rfl ?_
              refine QJ.step (YldS.yld (y_move rfl)) rfl ?_
              refine QJ.step (YldS.yld (y_move rfl)) rfl ?_
              obtain ⟨e32, h33, hm⟩ := bindS hm
              obtain ⟨ad34, _, rfl, ha35, hy36⟩ := hr3.elem h33
              refine QJ.step (YldS.yld (hy36 Try.runUnderlying24 Try.sizeOf41 rfl rfl)) rfl ?_
              refine QJ.step (YldS.yld (y_fld (ad := ad34) fld41_1 rfl)) rfl ?_
              refine QJ.step (YldS.yld (y_load1 (v := str e32.high) Try.isAgg9 (ha35.sub 1 1) St.frozenC rfl)) rfl ?_
              obtain ⟨r37, h38, hm⟩ := bindS hm
              refine QJ.step (y_call Try.call140 rfl (RetG.quiet fun w hw => ok_s_l02PutLetter h38 w )) rfl ?_
              refine QJ.step (YldS.yld (y_assign rfl)) rfl ?_
              refine QJ.done ?_
              refine PJ.block_normal ?_
              exact PJ.joined r37 [] hm ⟨rfl, rfl, rfl, rfl, trivial⟩ ⟨List.nodup_nil, rfl⟩
            · replace hm := ifF hm hb24
              refine WJ.skip ?_
              refine PJ.block_normal ?_
              exact PJ.joined out13 [] hm ⟨rfl, rfl, rfl, rfl, trivial⟩ ⟨List.nodup_nil, rfl⟩
          · rintro out16 hm
            subst hk18
            refine WJ.quiet ?_
            refine QJ.step (YldS.yld (y_move rfl)) rfl ?_
            refine QJ.step (YldS.yld (y_bin rfl rfl rfl)) rfl ?_
            refine QJ.step (YldS.yld (y_assign rfl)) rfl ?_
            refine QJ.done ?_
            exact PJ.round (out16, w64 (i14 + 1)) [] hm ⟨rfl, rfl, rfl, rfl, trivial⟩ ⟨List.nodup_nil, rfl⟩
        · replace hm := ifF hm hb15
          refine WJ.exit ?_
          refine PJ.then_exit (PJ.then_exit (PJ.block_exit ?_))
          exact PJ.joined out13 [] hm ⟨rfl, rfl, trivial⟩ ⟨List.nodup_nil, rfl⟩
    · rintro out10 hm
      subst hk12
      obtain ⟨kj40, hk41, hm⟩ := withK_open hm
      refine WJ.join (X := Str) (fun (x : Str) => kj40 x = some r) (fun (x : Str) => [(6, str x)]) (fun (x : Str) => []) ?_ ?_
      · clear hk41
        refine WJ.seq ?_
        refine WJ.quiet ?_
        refine QJ.step (YldS.yld (y_assign rfl)) rfl ?_
        refine QJ.done ?_
        refine PJ.next ?_
        refine WJ.block ?_
        refine WJ.sel (L' := (fun (x : Str × Int) => []) (out10, 0)) [] ⟨List.nodup_nil, rfl⟩ ?_
        refine WJ.sub (m' := (fun (x : Str × Int) => [(1, v5), (6, str x.1), (8, .int .i64 x.2)]) (out10, 0)) ⟨rfl, rfl, rfl, trivial⟩ ?_
        refine WJ.loop (X := Str × Int) (fun N (x : Str × Int) => s_LettersOf_l2 kj40 accents4 N x.1 x.2 = some r) (fun (x : Str × Int) => [(1, v5), (6, str x.1), (8, .int .i64 x.2)]) (fun (x : Str × Int) => []) ?_ N (out10, 0) hm
        · rintro N ⟨out42, i43⟩ hI
          have hm := hI; clear hI
          cases N with
          | zero => cases hm
          | succ N =>
          unfold s_LettersOf_l2 at hm
          refine WJ.seq ?_
          refine WJ.seq ?_
          refine WJ.quiet ?_
          refine QJ.step (YldS.yld (y_move rfl)) rfl ?_
          refine QJ.step (YldS.yld (y_move rfl)) rfl ?_
          refine QJ.step (YldS.yld (y_lenS Try.runUnderlying25 hr6 rfl)) rfl ?_
          refine QJ.step (YldS.yld (y_bin rfl rfl rfl)) rfl ?_
          refine QJ.done ?_
          refine PJ.next ?_
          refine WJ.cond (t := decide (i43 < (List.length accents4 : Int))) rfl (fun hb44 => ?_) (fun hb44 => ?_)
          · replace hm := ifT hm hb44
            refine WJ.skip ?_
            refine PJ.next ?_
            refine WJ.seq ?_
            refine WJ.block ?_
            refine WJ.quiet ?_
            refine QJ.step (YldS.yld (y_move rfl)) rfl ?_
            refine QJ.step (YldS.yld (y_move rfl)) rfl ?_
            refine QJ.step (YldS.yld (y_move rfl)) rfl ?_
            obtain ⟨e45, h46, hm⟩ := bindS hm
            obtain ⟨ad47, _, rfl, ha48, hy49⟩ := hr6.elem h46
            refine QJ.step (YldS.yld (hy49 Try.runUnderlying25 Try.sizeOf101 rfl rfl)) rfl ?_
            refine QJ.step (YldS.yld (y_fld (ad := ad47) fld101_2 rfl)) rfl ?_
            refine QJ.step (YldS.yld (y_load1 (v := str e45.made) Try.isAgg9 (ha48.sub 2 1) St.frozenC rfl)) rfl ?_
            obtain ⟨r50, h51, hm⟩ := bindS hm
            refine QJ.step (y_call Try.call140 rfl (RetG.quiet fun w hw => ok_s_l02PutLetter h51 w )) rfl ?_
            refine QJ.step (YldS.yld (y_assign rfl)) rfl ?_
            refine QJ.done ?_
            refine PJ.block_normal (PJ.next ?_)
            refine WJ.quiet ?_
            refine QJ.step (YldS.yld (y_move rfl)) rfl ?_
            refine QJ.step (YldS.yld (y_bin rfl rfl rfl)) rfl ?_
            refine QJ.step (YldS.yld (y_assign rfl)) rfl ?_
            refine QJ.done ?_
            exact PJ.round (r50, w64 (i43 + 1)) [] hm ⟨rfl, rfl, rfl, trivial⟩ ⟨List.nodup_nil, rfl⟩
          · replace hm := ifF hm hb44
            refine WJ.exit ?_
            refine PJ.then_exit (PJ.then_exit (PJ.block_exit ?_))
            exact PJ.joined out42 [] hm ⟨rfl, trivial⟩ ⟨List.nodup_nil, rfl⟩
      · rintro out39 hm
        subst hk41
        refine WJ.seq ?_
        refine WJ.quiet ?_
        refine QJ.step (YldS.yld (y_move rfl)) rfl ?_
        refine QJ.step (YldS.yld (y_assign rfl)) rfl ?_
        refine QJ.step (YldS.yld (y_assign rfl)) rfl ?_
        refine QJ.done ?_
        refine PJ.next ?_
        refine WJ.ret ?_
        obtain rfl := Option.some.inj hm
        refine PJ.sel (L' := []) [] ⟨List.nodup_nil, rfl⟩ ?_
        exact PJ.retn (vs := [str out39, .int .i64 0]) Try.results133 ⟨rfl, rfl, trivial⟩ ⟨rfl, rfl⟩

set_option maxRecDepth 100000 in
set_option maxHeartbeats 1000000 in
theorem ok_s_l02DrawText {N : Nat} {code1 : List UInt8} {r : (List Key) × (List Accent) × Str} (hm : s_l02DrawText N code1 = some r) (w : World) (v2 : Value) (hr3 : RdS w (cx w).Fz v2 fByte.rp code1) :
    Calls Try.prog 116 #[v2] w (RetG (cx w) fun u L => ∃ (u1 : Value) (u2 : Value), (u = tup [u1, u2, str r.2.2] ∧ L = [row u1 41 fKey r.1, row u2 101 fAccent r.2.1])) := by
  unfold s_l02DrawText at hm
  refine Calls.enter [v2] Try.func116 rfl Try.ntmps116 rfl ?_
  refine WJ.seq ?_
  refine WJ.quiet ?_
  refine QJ.step (YldS.yld (y_assign rfl)) rfl ?_
  refine QJ.step (YldS.yld (y_assign rfl)) rfl ?_
  refine QJ.step (YldS.yld (y_assign rfl)) rfl ?_
  refine QJ.done ?_
  refine PJ.next ?_
  refine WJ.seq ?_
  refine WJ.reg ?_
  refine SJ.q (YldS.yld (y_move rfl)) rfl ?_
  obtain ⟨r4, h5, hm⟩ := bindS hm
  refine SJ.call Try.call73 rfl (fun w hw => ok_s_l00From h5 w _ (hr3.st hw)) rfl ?_
  rintro _ _ ⟨g6, rfl, rfl⟩
  refine SJ.q (YldS.yld (y_assign rfl)) rfl ?_
  refine SJ.nil ?_
  refine PJ.next ?_
  refine WJ.seq ?_
  refine WJ.reg ?_
  refine SJ.q (YldS.yld (y_move rfl)) rfl ?_
  obtain ⟨r7, h8, hm⟩ := bindS hm
  refine SJ.call1 (k := 0) rfl Try.call74 rfl (fun w S hw hA hO => ok_s_l02Bent h8 w S _ (hr3.st1 hw hO) hA) rfl ?_
  rintro _ _ ⟨v9, v10, rfl, rfl⟩
  refine SJ.q (YldS.yld (y_move rfl)) rfl ?_
  refine SJ.q (YldS.yld (y_extract rfl rfl)) rfl ?_
  refine SJ.q (YldS.yld (y_extract rfl rfl)) rfl ?_
  refine SJ.q (YldS.yld (y_assign rfl)) rfl ?_
  refine SJ.q (YldS.yld (y_assign rfl)) rfl ?_
  refine SJ.nil ?_
  refine PJ.next ?_
  refine WJ.seq ?_
  refine WJ.quiet ?_
  refine QJ.step (YldS.yld (y_move rfl)) rfl ?_
  refine QJ.step (YldS.yld (y_move rfl)) rfl ?_
  obtain ⟨r11, h12, hm⟩ := bindS hm
  refine QJ.step (y_call Try.call133 rfl (RetG.quiet fun w hw => ok_s_LettersOf h12 w _ (hw.row_rd (k := 1) rfl) _ (hw.row_rd (k := 2) rfl))) rfl ?_
  refine QJ.step (YldS.yld (y_move rfl)) rfl ?_
  refine QJ.step (YldS.yld (y_extract rfl rfl)) rfl ?_
  refine QJ.step (YldS.yld (y_extract rfl rfl)) rfl ?_
  refine QJ.step (YldS.yld (y_assign rfl)) rfl ?_
  refine QJ.step (YldS.yld (y_assign rfl)) rfl ?_
  refine QJ.done ?_
  refine PJ.next ?_
  obtain ⟨kj14, hk15, hm⟩ := withK_open hm
  refine WJ.join (X := Str) (fun (x : Str) => kj14 x = some r) (fun (x : Str) => [(5, pt g6 0), (6, v9), (7, v10), (8, str x)]) (fun (x : Str) => [box g6 157 [v2, .int .i64 r7.2.2.at_, .int .u64 r7.2.2.seed], row v9 41 fKey r7.1, row v10 101 fAccent r7.2.1]) ?_ ?_
  · clear hk15
    refine WJ.seq ?_
    refine WJ.quiet ?_
    refine QJ.step (YldS.yld (y_move rfl)) rfl ?_
    refine QJ.step (YldS.yld (y_bin rfl rfl rfl)) rfl ?_
    refine QJ.step (YldS.yld (y_move rfl)) rfl ?_
    obtain ⟨t16, h17, hm⟩ := bindS hm
    refine QJ.cut 3 [(5, pt g6 0), (6, v9), (7, v10), (8, str r11.1), (32, .bool t16)] ?_ ?_
    · rcases Bool.eq_false_or_eq_true (r11.2 != 0) with hb18 | hb18
      · obtain rfl := orT h17 hb18
        refine QJ.off rfl rfl (cB hb18) rfl rfl ?_
        refine QJ.off rfl rfl (cB hb18) rfl rfl ?_
        refine QJ.step (YldS.yld (y_pick_t (cB hb18) rfl)) rfl ?_
        exact QJ.cut_end ⟨rfl, rfl, rfl, rfl, rfl, trivial⟩
      · replace h17 := orF h17 hb18
        refine QJ.on rfl rfl (cB hb18) (YldS.yld (y_move rfl)) rfl ?_
        refine QJ.on rfl rfl (cB hb18) (YldS.yld (y_binS rfl rfl rfl)) rfl ?_
        refine QJ.step (YldS.yld (y_pick_f (cB hb18) rfl)) rfl ?_
        obtain rfl := Option.some.inj h17
        exact QJ.cut_end ⟨rfl, rfl, rfl, rfl, rfl, trivial⟩
    refine QJ.done ?_
    refine PJ.next ?_
    refine WJ.cond (t := t16) rfl (fun hb19 => ?_) (fun hb19 => ?_)
    · replace hm := ifT hm hb19
      refine WJ.quiet ?_
      refine QJ.step (YldS.yld (y_assign rfl)) rfl ?_
      refine QJ.done ?_
      exact PJ.joined [97, 98] [0, 1, 2] hm ⟨rfl, rfl, rfl, rfl, trivial⟩ ⟨by decide, rfl⟩
    · replace hm := ifF hm hb19
      refine WJ.skip ?_
      exact PJ.joined r11.1 [0, 1, 2] hm ⟨rfl, rfl, rfl, rfl, trivial⟩ ⟨by decide, rfl⟩
  · rintro all13 hm
    subst hk15
    refine WJ.seq ?_
    refine WJ.quiet ?_
    refine QJ.step (YldS.yld (y_assign rfl)) rfl ?_
    refine QJ.done ?_
    refine PJ.next ?_
    refine WJ.seq ?_
    refine WJ.reg ?_
    refine SJ.q (YldS.yld (y_move rfl)) rfl ?_
    obtain ⟨r20, h21, hm⟩ := bindS hm
    refine SJ.call1 (k := 0) rfl Try.call83 rfl (fun w S hw hA hO => ok_s_l00Src_pick h21 w S _ (hr3.st1 hw hO) hA) rfl ?_
    rintro _ _ ⟨rfl, rfl⟩
    refine SJ.q (YldS.yld (y_assign rfl)) rfl ?_
    refine SJ.nil ?_
    refine PJ.next ?_
    obtain ⟨kj25, hk26, hm⟩ := withK_open hm
    refine WJ.join (X := Int × Int × Int) (fun (x : Int × Int × Int) => kj25 x.1 x.2.1 x.2.2 = some r) (fun (x : Int × Int × Int) => [(5, pt g6 0), (6, v9), (7, v10), (8, str all13), (10, str []), (11, .int .i64 x.2.2)]) (fun (x : Int × Int × Int) => [box g6 157 [v2, .int .i64 x.1, .int .u64 x.2.1], row v9 41 fKey r7.1, row v10 101 fAccent r7.2.1]) ?_ ?_
    · clear hk26
      refine WJ.seq ?_
      refine WJ.reg ?_
      refine SJ.q (YldS.yld (y_move rfl)) rfl ?_
      obtain ⟨r27, h28, hm⟩ := bindS hm
      refine SJ.call1 (k := 0) rfl Try.call84 rfl (fun w S hw hA hO => ok_s_l00Src_one h28 w S _ (hr3.st1 hw hO) hA) rfl ?_
      rintro _ _ ⟨rfl, rfl⟩
      refine SJ.nil ?_
      refine PJ.next ?_
      refine WJ.cond (t := r27.1) rfl (fun hb29 => ?_) (fun hb29 => ?_)
      · replace hm := ifT hm hb29
        refine WJ.reg ?_
        refine SJ.q (YldS.yld (y_move rfl)) rfl ?_
        obtain ⟨r30, h31, hm⟩ := bindS hm
        refine SJ.call1 (k := 0) rfl Try.call83 rfl (fun w S hw hA hO => ok_s_l00Src_pick h31 w S _ (hr3.st1 hw hO) hA) rfl ?_
        rintro _ _ ⟨rfl, rfl⟩
        refine SJ.q (YldS.yld (y_bin rfl rfl rfl)) rfl ?_
        refine SJ.q (YldS.yld (y_assign rfl)) rfl ?_
        refine SJ.nil ?_
        exact PJ.joined (r30.2.at_, r30.2.seed, w64 (100 + r30.1)) [0, 1, 2] hm ⟨rfl, rfl, rfl, rfl, rfl, rfl, trivial⟩ ⟨by decide, rfl⟩
      · replace hm := ifF hm hb29
        refine WJ.skip ?_
        exact PJ.joined (r27.2.at_, r27.2.seed, r20.1) [0, 1, 2] hm ⟨rfl, rfl, rfl, rfl, rfl, rfl, trivial⟩ ⟨by decide, rfl⟩
    · rintro ⟨x22, x23, n24⟩ hm
      subst hk26
      obtain ⟨kj35, hk36, hm⟩ := withK_open hm
      refine WJ.join (X := Int × Int × Str) (fun (x : Int × Int × Str) => kj35 x.1 x.2.1 x.2.2 = some r) (fun (x : Int × Int × Str) => [(5, pt g6 0), (6, v9), (7, v10), (10, str x.2.2)]) (fun (x : Int × Int × Str) => [box g6 157 [v2, .int .i64 x.1, .int .u64 x.2.1], row v9 41 fKey r7.1, row v10 101 fAccent r7.2.1]) ?_ ?_
      · clear hk36
        refine WJ.seq ?_
        refine WJ.quiet ?_
        refine QJ.step (YldS.yld (y_move rfl)) rfl ?_
        refine QJ.step (YldS.yld (y_assign rfl)) rfl ?_
        refine QJ.done ?_
        refine PJ.next ?_
        refine WJ.block ?_
        refine WJ.sel (L' := (fun (x : Int × Int × Str × Int) => [box g6 157 [v2, .int .i64 x.1, .int .u64 x.2.1], row v9 41 fKey r7.1, row v10 101 fAccent r7.2.1]) (x22, x23, [], n24)) [0, 1, 2] ⟨by decide, rfl⟩ ?_
        refine WJ.sub (m' := (fun (x : Int × Int × Str × Int) => [(5, pt g6 0), (6, v9), (7, v10), (8, str all13), (10, str x.2.2.1), (12, .int .i64 x.2.2.2)]) (x22, x23, [], n24)) ⟨rfl, rfl, rfl, rfl, rfl, rfl, trivial⟩ ?_
        refine WJ.loop (X := Int × Int × Str × Int) (fun N (x : Int × Int × Str × Int) => s_l02DrawText_l1 kj35 code1 all13 N x.1 x.2.1 x.2.2.1 x.2.2.2 = some r) (fun (x : Int × Int × Str × Int) => [(5, pt g6 0), (6, v9), (7, v10), (8, str all13), (10, str x.2.2.1), (12, .int .i64 x.2.2.2)]) (fun (x : Int × Int × Str × Int) => [box g6 157 [v2, .int .i64 x.1, .int .u64 x.2.1], row v9 41 fKey r7.1, row v10 101 fAccent r7.2.1]) ?_ N (x22, x23, [], n24) hm
        · rintro N ⟨x37, x38, text39, k40⟩ hI
          have hm := hI; clear hI
          cases N with
          | zero => cases hm
          | succ N =>
          unfold s_l02DrawText_l1 at hm
          refine WJ.seq ?_
          refine WJ.seq ?_
          refine WJ.quiet ?_
          refine QJ.step (YldS.yld (y_move rfl)) rfl ?_
          refine QJ.step (YldS.yld (y_bin rfl rfl rfl)) rfl ?_
          refine QJ.done ?_
          refine PJ.next ?_
          refine WJ.cond (t := decide (k40 > 0)) rfl (fun hb41 => ?_) (fun hb41 => ?_)
          · replace hm := ifT hm hb41
            refine WJ.skip ?_
            refine PJ.next ?_
            refine WJ.seq ?_
            refine WJ.block ?_
            refine WJ.seq ?_
            refine WJ.reg ?_
            refine SJ.q (YldS.yld (y_move rfl)) rfl ?_
            refine SJ.q (YldS.yld (y_move rfl)) rfl ?_
            refine SJ.q (YldS.yld (y_lenStr Try.runUnderlying9 rfl)) rfl ?_
            obtain ⟨r42, h43, hm⟩ := bindS hm
            refine SJ.call1 (k := 0) rfl Try.call83 rfl (fun w S hw hA hO => ok_s_l00Src_pick h43 w S _ (hr3.st1 hw hO) hA) rfl ?_
            rintro _ _ ⟨rfl, rfl⟩
            refine SJ.q (YldS.yld (y_assign rfl)) rfl ?_
            refine SJ.nil ?_
            refine PJ.next ?_
            refine WJ.quiet ?_
            refine QJ.step (YldS.yld (y_move rfl)) rfl ?_
            refine QJ.step (YldS.yld (y_move rfl)) rfl ?_
            refine QJ.step (YldS.yld (y_move rfl)) rfl ?_
            refine QJ.step (YldS.yld (y_move rfl)) rfl ?_
            refine QJ.step (YldS.yld (y_bin rfl rfl rfl)) rfl ?_
            obtain ⟨s44, h45, hm⟩ := bindS hm
            refine QJ.step (YldS.yld (y_subStr (i := some r42.1) (j := some (w64 (r42.1 + 1))) h45 Try.runUnderlying9 rfl ⟨_, rfl⟩ ⟨_, rfl⟩)) rfl ?_
            obtain ⟨s46, h47, hm⟩ := bindS hm
            refine QJ.step (YldS.yld (y_cat h47 rfl rfl)) rfl ?_
            refine QJ.step (YldS.yld (y_assign rfl)) rfl ?_
            refine QJ.done ?_
            refine PJ.block_normal (PJ.next ?_)
            refine WJ.quiet ?_
            refine QJ.step (YldS.yld (y_move rfl)) rfl ?_
            refine QJ.step (YldS.yld (y_bin rfl rfl rfl)) rfl ?_
            refine QJ.step (YldS.yld (y_assign rfl)) rfl ?_
            refine QJ.done ?_
            exact PJ.round (r42.2.at_, r42.2.seed, s46, w64 (k40 - 1)) [0, 1, 2] hm ⟨rfl, rfl, rfl, rfl, rfl, rfl, trivial⟩ ⟨by decide, rfl⟩
          · replace hm := ifF hm hb41
            refine WJ.exit ?_
            refine PJ.then_exit (PJ.then_exit (PJ.block_exit ?_))
            exact PJ.joined (x37, x38, text39) [0, 1, 2] hm ⟨rfl, rfl, rfl, rfl, trivial⟩ ⟨by decide, rfl⟩
      · rintro ⟨x32, x33, text34⟩ hm
        subst hk36
        obtain ⟨kj49, hk50, hm⟩ := withK_open hm
        refine WJ.join (X := Str) (fun (x : Str) => kj49 x = some r) (fun (x : Str) => [(6, v9), (7, v10), (10, str x)]) (fun (x : Str) => [row v9 41 fKey r7.1, row v10 101 fAccent r7.2.1]) ?_ ?_
        · clear hk50
          refine WJ.seq ?_
          refine WJ.reg ?_
          refine SJ.q (YldS.yld (y_move rfl)) rfl ?_
          obtain ⟨r51, h52, hm⟩ := bindS hm
          refine SJ.call1 (k := 0) rfl Try.call83 rfl (fun w S hw hA hO => ok_s_l00Src_pick h52 w S _ (hr3.st1 hw hO) hA) rfl ?_
          rintro _ _ ⟨rfl, rfl⟩
          refine SJ.nil ?_
          refine PJ.next ?_
          refine WJ.block ?_
          refine WJ.seq ?_
          refine WJ.quiet ?_
          refine QJ.step (YldS.yld (y_bin rfl rfl rfl)) rfl ?_
          refine QJ.step (YldS.yld (y_assign rfl)) rfl ?_
          refine QJ.done ?_
          refine PJ.next ?_
          refine WJ.cond (t := (r51.1 == 0)) rfl (fun hb53 => ?_) (fun hb53 => ?_)
          · replace hm := ifT hm hb53
            refine WJ.reg ?_
            refine SJ.q (YldS.yld (y_move rfl)) rfl ?_
            refine SJ.q (YldS.yld (y_move rfl)) rfl ?_
            refine SJ.buildSlice (R := fStr) (os := [.const (str [122]), .const (str [32]), .const (str [127]), .const (str [39])]) [[122], [32], [127], [39]] Try.runUnderlying78 Try.sizeOf9 Try.zeroValue9 rfl rfl rfl rfl rfl rfl fun v54 => ?_
            obtain ⟨r55, h56, hm⟩ := bindS hm
            refine SJ.call2 (k := 1) rfl Try.call75 rfl (fun w S hw hA hO hB => ok_s_l00Src_text h56 w S _ (hr3.st1 hw hO) _ (hB.row_rd (j := 0) (k := 1) rfl rfl) hA) rfl ?_
            rintro _ _ ⟨rfl, rfl⟩
            obtain ⟨s57, h58, hm⟩ := bindS hm
            refine SJ.q (YldS.yld (y_cat h58 rfl rfl)) rfl ?_
            refine SJ.q (YldS.yld (y_assign rfl)) rfl ?_
            refine SJ.nil ?_
            refine PJ.block_normal ?_
            exact PJ.joined s57 [2, 3] hm ⟨rfl, rfl, rfl, trivial⟩ ⟨by decide, rfl⟩
          · replace hm := ifF hm hb53
            refine WJ.skip ?_
            refine PJ.block_normal ?_
            exact PJ.joined text34 [1, 2] hm ⟨rfl, rfl, rfl, trivial⟩ ⟨by decide, rfl⟩
        · rintro text48 hm
          subst hk50
          refine WJ.seq ?_
          refine WJ.quiet ?_
          refine QJ.step (YldS.yld (y_move rfl)) rfl ?_
          refine QJ.step (YldS.yld (y_move rfl)) rfl ?_
          refine QJ.step (YldS.yld (y_move rfl)) rfl ?_
          refine QJ.step (YldS.yld (y_assign rfl)) rfl ?_
          refine QJ.step (YldS.yld (y_assign rfl)) rfl ?_
          refine QJ.step (YldS.yld (y_assign rfl)) rfl ?_
          refine QJ.done ?_
          refine PJ.next ?_
          refine WJ.ret ?_
          obtain rfl := Option.some.inj hm
          refine PJ.sel (L' := [row v9 41 fKey r7.1, row v10 101 fAccent r7.2.1]) [0, 1] ⟨by decide, rfl⟩ ?_
          exact PJ.retn (vs := [v9, v10, str text48]) Try.results116 ⟨rfl, rfl, rfl, trivial⟩ ⟨_, _, rfl, rfl⟩

set_option maxRecDepth 100000 in
set_option maxHeartbeats 1000000 in
theorem ok_s_l02Text {N : Nat} {s1 : Str} {r : Bool} (hm : s_l02Text N s1 = some r) (w : World)  :
    Calls Try.prog 141 #[str s1] w (Ret (cx w) (.bool r)) := by
  unfold s_l02Text at hm
  refine Calls.enter [str s1] Try.func141 rfl Try.ntmps141 rfl ?_
  refine WJ.seq ?_
  refine WJ.quiet ?_
  refine QJ.step (YldS.yld (y_assign rfl)) rfl ?_
  refine QJ.done ?_
  refine PJ.next ?_
  obtain ⟨kj2, hk3, hm⟩ := withK_open hm
  refine WJ.join (X := Unit) (fun (_ : Unit) => kj2  = some r) (fun (_ : Unit) => [(0, str s1)]) (fun (_ : Unit) => []) ?_ ?_
  · clear hk3
    refine WJ.seq ?_
    refine WJ.quiet ?_
    refine QJ.step (YldS.yld (y_assign rfl)) rfl ?_
    refine QJ.done ?_
    refine PJ.next ?_
    refine WJ.block ?_
    refine WJ.sel (L' := (fun (x : Int) => []) 0) [] ⟨List.nodup_nil, rfl⟩ ?_
    refine WJ.sub (m' := (fun (x : Int) => [(0, str s1), (3, .int .i64 x)]) 0) ⟨rfl, rfl, trivial⟩ ?_
    refine WJ.loop (X := Int) (fun N (x : Int) => s_l02Text_l1 kj2 s1 N x = some r) (fun (x : Int) => [(0, str s1), (3, .int .i64 x)]) (fun (x : Int) => []) ?_ N 0 hm
    · rintro N i4 hI
      have hm := hI; clear hI
      cases N with
      | zero => cases hm
      | succ N =>
      unfold s_l02Text_l1 at hm
      refine WJ.seq ?_
      refine WJ.seq ?_
      refine WJ.quiet ?_
      refine QJ.step (YldS.yld (y_move rfl)) rfl ?_
      refine QJ.step (YldS.yld (y_move rfl)) rfl ?_
      refine QJ.step (YldS.yld (y_lenStr Try.runUnderlying9 rfl)) rfl ?_
      refine QJ.step (YldS.yld (y_bin rfl rfl rfl)) rfl ?_
      refine QJ.done ?_
      refine PJ.next ?_
      refine WJ.cond (t := decide (i4 < (List.length s1 : Int))) rfl (fun hb5 => ?_) (fun hb5 => ?_)
      · replace hm := ifT hm hb5
        refine WJ.skip ?_
        refine PJ.next ?_
        refine WJ.seq ?_
        refine WJ.block ?_
        refine WJ.seq ?_
        refine WJ.quiet ?_
        refine QJ.step (YldS.yld (y_move rfl)) rfl ?_
        refine QJ.step (YldS.yld (y_move rfl)) rfl ?_
        obtain ⟨c6, h7, hm⟩ := bindS hm
        refine QJ.step (YldS.yld (y_idxStr Try.runUnderlying9 rfl rfl h7)) rfl ?_
        refine QJ.step (YldS.yld (y_bin8 c6 (33 : UInt8) rfl rfl rfl)) rfl ?_
        refine QJ.step (YldS.yld (y_move rfl)) rfl ?_
        obtain ⟨t8, h9, hm⟩ := bindS hm
        refine QJ.cut 5 [(0, str s1), (3, .int .i64 i4), (19, .bool t8)] ?_ ?_
        · rcases Bool.eq_false_or_eq_true (decide (c6 < (33 : UInt8))) with hb10 | hb10
          · obtain rfl := orT h9 hb10
            refine QJ.off rfl rfl (cB hb10) rfl rfl ?_
            refine QJ.off rfl rfl (cB hb10) rfl rfl ?_
            refine QJ.off rfl rfl (cB hb10) rfl rfl ?_
            refine QJ.off rfl rfl (cB hb10) rfl rfl ?_
            refine QJ.step (YldS.yld (y_pick_t (cB hb10) rfl)) rfl ?_
            exact QJ.cut_end ⟨rfl, rfl, rfl, trivial⟩
          · replace h9 := orF h9 hb10
            refine QJ.on rfl rfl (cB hb10) (YldS.yld (y_move rfl)) rfl ?_
            refine QJ.on rfl rfl (cB hb10) (YldS.yld (y_move rfl)) rfl ?_
            obtain ⟨c11, h12, h9⟩ := bindS h9
            refine QJ.on rfl rfl (cB hb10) (YldS.yld (y_idxStr Try.runUnderlying9 rfl rfl h12)) rfl ?_
            refine QJ.on rfl rfl (cB hb10) (YldS.yld (y_bin8 c11 (126 : UInt8) rfl rfl rfl)) rfl ?_
            refine QJ.step (YldS.yld (y_pick_f (cB hb10) rfl)) rfl ?_
            obtain rfl := Option.some.inj h9
            exact QJ.cut_end ⟨rfl, rfl, rfl, trivial⟩
        refine QJ.done ?_
        refine PJ.next ?_
        refine WJ.cond (t := t8) rfl (fun hb13 => ?_) (fun hb13 => ?_)
        · replace hm := ifT hm hb13
          refine WJ.seq ?_
          refine WJ.quiet ?_
          refine QJ.step (YldS.yld (y_assign rfl)) rfl ?_
          refine QJ.done ?_
          refine PJ.next ?_
          refine WJ.ret ?_
          refine PJ.block_ret (PJ.then_ret (PJ.then_ret (PJ.block_ret (PJ.then_ret ?_))))
          obtain rfl := Option.some.inj hm
          refine PJ.sel (L' := []) [] ⟨List.nodup_nil, rfl⟩ ?_
          exact PJ.retn (vs := [.bool false]) Try.results141 ⟨rfl, trivial⟩ ⟨rfl, rfl⟩
        · replace hm := ifF hm hb13
          refine WJ.skip ?_
          refine PJ.block_normal (PJ.next ?_)
          refine WJ.quiet ?_
          refine QJ.step (YldS.yld (y_move rfl)) rfl ?_
          refine QJ.step (YldS.yld (y_bin rfl rfl rfl)) rfl ?_
          refine QJ.step (YldS.yld (y_assign rfl)) rfl ?_
          refine QJ.done ?_
          exact PJ.round (w64 (i4 + 1)) [] hm ⟨rfl, rfl, trivial⟩ ⟨List.nodup_nil, rfl⟩
      · replace hm := ifF hm hb5
        refine WJ.exit ?_
        refine PJ.then_exit (PJ.then_exit (PJ.block_exit ?_))
        exact PJ.joined () [] hm ⟨rfl, trivial⟩ ⟨List.nodup_nil, rfl⟩
  · rintro _ hm
    subst hk3
    refine WJ.seq ?_
    refine WJ.quiet ?_
    refine QJ.step (YldS.yld (y_move rfl)) rfl ?_
    refine QJ.step (YldS.yld (y_lenStr Try.runUnderlying9 rfl)) rfl ?_
    refine QJ.step (YldS.yld (y_bin rfl rfl rfl)) rfl ?_
    refine QJ.step (YldS.yld (y_assign rfl)) rfl ?_
    refine QJ.done ?_
    refine PJ.next ?_
    refine WJ.ret ?_
    obtain rfl := Option.some.inj hm
    refine PJ.sel (L' := []) [] ⟨List.nodup_nil, rfl⟩ ?_
    exact PJ.retn (vs := [.bool (decide ((List.length s1 : Int) ≤ 100))]) Try.results141 ⟨rfl, trivial⟩ ⟨rfl, rfl⟩

set_option maxRecDepth 100000 in
set_option maxHeartbeats 1000000 in
theorem ok_s_l02Code {N : Nat} {keys1 : List Key} {accents4 : List Accent} {text7 : Str} {r : Int} (hm : s_l02Code N keys1 accents4 text7 = some r) (w : World) (v2 : Value) (hr3 : RdS w (cx w).Fz v2 fKey.rp keys1) (v5 : Value) (hr6 : RdS w (cx w).Fz v5 fAccent.rp accents4) :
    Calls Try.prog 134 #[v2, v5, str text7] w (Ret (cx w) (.int .i64 r)) := by
  unfold s_l02Code at hm
  refine Calls.enter [v2, v5, str text7] Try.func134 rfl Try.ntmps134 rfl ?_
  refine WJ.seq ?_
  refine WJ.quiet ?_
  refine QJ.step (YldS.yld (y_assign rfl)) rfl ?_
  refine QJ.done ?_
  refine PJ.next ?_
  refine WJ.seq ?_
  refine WJ.seq ?_
  refine WJ.quiet ?_
  refine QJ.step (YldS.yld (y_move rfl)) rfl ?_
  refine QJ.step (YldS.yld (y_move rfl)) rfl ?_
  obtain ⟨r8, h9, hm⟩ := bindS hm
  refine QJ.step (y_call Try.call70 rfl (RetG.quiet fun w hw => ok_s_l02Ok h9 w _ (hr3.st hw) _ (hr6.st hw))) rfl ?_
  refine QJ.step (YldS.yld (y_not rfl)) rfl ?_
  refine QJ.done ?_
  refine PJ.next ?_
  refine WJ.cond (t := !r8) rfl (fun hb10 => ?_) (fun hb10 => ?_)
  · replace hm := ifT hm hb10
    refine WJ.seq ?_
    refine WJ.quiet ?_
    refine QJ.step (YldS.yld (y_assign rfl)) rfl ?_
    refine QJ.done ?_
    refine PJ.next ?_
    refine WJ.ret ?_
    refine PJ.then_ret ?_
    obtain rfl := Option.some.inj hm
    refine PJ.sel (L' := []) [] ⟨List.nodup_nil, rfl⟩ ?_
    exact PJ.retn (vs := [.int .i64 1]) Try.results134 ⟨rfl, trivial⟩ ⟨rfl, rfl⟩
  · replace hm := ifF hm hb10
    refine WJ.skip ?_
    refine PJ.next ?_
    refine WJ.seq ?_
    refine WJ.seq ?_
    refine WJ.quiet ?_
    refine QJ.step (YldS.yld (y_move rfl)) rfl ?_
    obtain ⟨r11, h12, hm⟩ := bindS hm
    refine QJ.step (y_call Try.call141 rfl (RetG.quiet fun w hw => ok_s_l02Text h12 w )) rfl ?_
    refine QJ.step (YldS.yld (y_not rfl)) rfl ?_
    refine QJ.done ?_
    refine PJ.next ?_
    refine WJ.cond (t := !r11) rfl (fun hb13 => ?_) (fun hb13 => ?_)
    · replace hm := ifT hm hb13
      refine WJ.seq ?_
      refine WJ.quiet ?_
      refine QJ.step (YldS.yld (y_assign rfl)) rfl ?_
      refine QJ.done ?_
      refine PJ.next ?_
      refine WJ.ret ?_
      refine PJ.then_ret ?_
      obtain rfl := Option.some.inj hm
      refine PJ.sel (L' := []) [] ⟨List.nodup_nil, rfl⟩ ?_
      exact PJ.retn (vs := [.int .i64 2]) Try.results134 ⟨rfl, trivial⟩ ⟨rfl, rfl⟩
    · replace hm := ifF hm hb13
      refine WJ.skip ?_
      refine PJ.next ?_
      refine WJ.seq ?_
      refine WJ.quiet ?_
      refine QJ.step (YldS.yld (y_assign rfl)) rfl ?_
      refine QJ.done ?_
      refine PJ.next ?_
      refine WJ.ret ?_
      obtain rfl := Option.some.inj hm
      refine PJ.sel (L' := []) [] ⟨List.nodup_nil, rfl⟩ ?_
      exact PJ.retn (vs := [.int .i64 0]) Try.results134 ⟨rfl, trivial⟩ ⟨rfl, rfl⟩

set_option maxRecDepth 100000 in
set_option maxHeartbeats 1000000 in
theorem ok_s_l02Presses {N : Nat} {keys1 : List Key} {accents4 : List Accent} {letter7 : Str} {r : (List Press)} (hm : s_l02Presses N keys1 accents4 letter7 = some r) (w : World) (v2 : Value) (hr3 : RdS w (cx w).Fz v2 fKey.rp keys1) (v5 : Value) (hr6 : RdS w (cx w).Fz v5 fAccent.rp accents4) :
    Calls Try.prog 135 #[v2, v5, str letter7] w (RetG (cx w) fun u L => ∃ (u1 : Value), (u = u1 ∧ L = [row u1 37 fPress r])) := by
  unfold s_l02Presses at hm
  refine Calls.enter [v2, v5, str letter7] Try.func135 rfl Try.ntmps135 rfl ?_
  refine WJ.seq ?_
  refine WJ.quiet ?_
  refine QJ.step (YldS.yld (y_assign rfl)) rfl ?_
  refine QJ.done ?_
  refine PJ.next ?_
  refine WJ.seq ?_
  refine WJ.quiet ?_
  refine QJ.step (YldS.yld (y_move rfl)) rfl ?_
  refine QJ.step (YldS.yld (y_move rfl)) rfl ?_
  obtain ⟨r8, h9, hm⟩ := bindS hm
  refine QJ.step (y_call Try.call79 rfl (RetG.quiet fun w hw => ok_s_l02Find h9 w _ (hr3.st hw))) rfl ?_
  refine QJ.step (YldS.yld (y_move rfl)) rfl ?_
  refine QJ.step (YldS.yld (y_extract rfl rfl)) rfl ?_
  refine QJ.step (YldS.yld (y_extract rfl rfl)) rfl ?_
  refine QJ.step (YldS.yld (y_assign rfl)) rfl ?_
  refine QJ.step (YldS.yld (y_assign rfl)) rfl ?_
  refine QJ.done ?_
  refine PJ.next ?_
  refine WJ.seq ?_
  refine WJ.seq ?_
  refine WJ.quiet ?_
  refine QJ.step (YldS.yld (y_move rfl)) rfl ?_
  refine QJ.step (YldS.yld (y_bin rfl rfl rfl)) rfl ?_
  refine QJ.step (YldS.yld (y_move rfl)) rfl ?_
  obtain ⟨t10, h11, hm⟩ := bindS hm
  refine QJ.cut 7 [(0, v2), (1, v5), (2, str letter7), (7, .int .i64 r8.1), (8, .bool r8.2), (29, .bool t10)] ?_ ?_
  · rcases Bool.eq_false_or_eq_true (decide (r8.1 ≥ 0)) with hb12 | hb12
    · replace h11 := andT h11 hb12
      refine QJ.on rfl rfl (cB hb12) (YldS.yld (y_move rfl)) rfl ?_
      refine QJ.on rfl rfl (cB hb12) (YldS.yld (y_move rfl)) rfl ?_
      obtain ⟨e13, h14, h11⟩ := bindS h11
      obtain ⟨ad15, _, rfl, ha16, hy17⟩ := hr3.elem h14
      refine QJ.on rfl rfl (cB hb12) (YldS.yld (hy17 Try.runUnderlying24 Try.sizeOf41 rfl rfl)) rfl ?_
      refine QJ.on rfl rfl (cB hb12) (YldS.yld (y_fld (ad := ad15) fld41_2 rfl)) rfl ?_
      refine QJ.on rfl rfl (cB hb12) (YldS.yld (y_load1 (v := .bool e13.dead) Try.isAgg4 (ha16.sub 2 1) St.frozenC rfl)) rfl ?_
      refine QJ.on rfl rfl (cB hb12) (YldS.yld (y_not rfl)) rfl ?_
      refine QJ.step (YldS.yld (y_pick_t (cB hb12) rfl)) rfl ?_
      obtain rfl := Option.some.inj h11
      exact QJ.cut_end ⟨rfl, rfl, rfl, rfl, rfl, rfl, trivial⟩
    · obtain rfl := andF h11 hb12
      refine QJ.off rfl rfl (cB hb12) rfl rfl ?_
      refine QJ.off rfl rfl (cB hb12) rfl rfl ?_
      refine QJ.off rfl rfl (cB hb12) rfl rfl ?_
      refine QJ.off rfl rfl (cB hb12) rfl rfl ?_
      refine QJ.off rfl rfl (cB hb12) rfl rfl ?_
      refine QJ.off rfl rfl (cB hb12) rfl rfl ?_
      refine QJ.step (YldS.yld (y_pick_f (cB hb12) rfl)) rfl ?_
      exact QJ.cut_end ⟨rfl, rfl, rfl, rfl, rfl, rfl, trivial⟩
  refine QJ.done ?_
  refine PJ.next ?_
  refine WJ.cond (t := t10) rfl (fun hb18 => ?_) (fun hb18 => ?_)
  · replace hm := ifT hm hb18
    refine WJ.seq ?_
    refine WJ.reg ?_
    refine SJ.q (YldS.yld (y_move rfl)) rfl ?_
    refine SJ.q (YldS.yld (y_move rfl)) rfl ?_
    refine SJ.q (YldS.yld (y_build (parts := [(0, .tmp 30), (1, .tmp 31)]) (places := [(0, 1), (1, 1)]) (r := [.int .i64 ((Press.mk r8.1 r8.2).key), .bool ((Press.mk r8.1 r8.2).shift)]) pl37 Try.zeroValue37 rfl rfl rfl rfl)) rfl ?_
    refine SJ.buildSlice (R := fPress) (os := [.tmp 32]) [(Press.mk r8.1 r8.2)] Try.runUnderlying26 Try.sizeOf37 Try.zeroValue37 rfl rfl rfl rfl rfl rfl fun v19 => ?_
    refine SJ.q (YldS.yld (y_assign rfl)) rfl ?_
    refine SJ.nil ?_
    refine PJ.next ?_
    refine WJ.ret ?_
    refine PJ.then_ret ?_
    obtain rfl := Option.some.inj hm
    refine PJ.sel (L' := [row v19 37 fPress [(Press.mk r8.1 r8.2)]]) [0] ⟨by decide, rfl⟩ ?_
    exact PJ.retn (vs := [v19]) Try.results135 ⟨rfl, trivial⟩ ⟨_, rfl, rfl⟩
  · replace hm := ifF hm hb18
    refine WJ.skip ?_
    refine PJ.next ?_
    obtain ⟨kj20, hk21, hm⟩ := withK_open hm
    refine WJ.join (X := Unit) (fun (_ : Unit) => kj20  = some r) (fun (_ : Unit) => []) (fun (_ : Unit) => []) ?_ ?_
    · clear hk21
      refine WJ.seq ?_
      refine WJ.quiet ?_
      refine QJ.step (YldS.yld (y_assign rfl)) rfl ?_
      refine QJ.done ?_
      refine PJ.next ?_
      refine WJ.block ?_
      refine WJ.sel (L' := (fun (x : Int) => []) 0) [] ⟨List.nodup_nil, rfl⟩ ?_
      refine WJ.sub (m' := (fun (x : Int) => [(0, v2), (1, v5), (2, str letter7), (9, .int .i64 x)]) 0) ⟨rfl, rfl, rfl, rfl, trivial⟩ ?_
      refine WJ.loop (X := Int) (fun N (x : Int) => s_l02Presses_l1 kj20 keys1 accents4 letter7 N x = some r) (fun (x : Int) => [(0, v2), (1, v5), (2, str letter7), (9, .int .i64 x)]) (fun (x : Int) => []) ?_ N 0 hm
      · rintro N i22 hI
        have hm := hI; clear hI
        cases N with
        | zero => cases hm
        | succ N =>
        unfold s_l02Presses_l1 at hm
        refine WJ.seq ?_
        refine WJ.seq ?_
        refine WJ.quiet ?_
        refine QJ.step (YldS.yld (y_move rfl)) rfl ?_
        refine QJ.step (YldS.yld (y_move rfl)) rfl ?_
        refine QJ.step (YldS.yld (y_lenS Try.runUnderlying25 hr6 rfl)) rfl ?_
        refine QJ.step (YldS.yld (y_bin rfl rfl rfl)) rfl ?_
        refine QJ.done ?_
        refine PJ.next ?_
        refine WJ.cond (t := decide (i22 < (List.length accents4 : Int))) rfl (fun hb23 => ?_) (fun hb23 => ?_)
        · replace hm := ifT hm hb23
          refine WJ.skip ?_
          refine PJ.next ?_
          refine WJ.seq ?_
          refine WJ.block ?_
          refine WJ.seq ?_
          refine WJ.quiet ?_
          refine QJ.step (YldS.yld (y_move rfl)) rfl ?_
          refine QJ.step (YldS.yld (y_move rfl)) rfl ?_
          obtain ⟨e24, h25, hm⟩ := bindS hm
          obtain ⟨ad26, _, rfl, ha27, hy28⟩ := hr6.elem h25
          refine QJ.step (YldS.yld (hy28 Try.runUnderlying25 Try.sizeOf101 rfl rfl)) rfl ?_
          refine QJ.step (YldS.yld (y_fld (ad := ad26) fld101_2 rfl)) rfl ?_
          refine QJ.step (YldS.yld (y_load1 (v := str e24.made) Try.isAgg9 (ha27.sub 2 1) St.frozenC rfl)) rfl ?_
          refine QJ.step (YldS.yld (y_move rfl)) rfl ?_
          refine QJ.step (YldS.yld (y_binS rfl rfl rfl)) rfl ?_
          refine QJ.done ?_
          refine PJ.next ?_
          refine WJ.cond (t := (e24.made == letter7)) rfl (fun hb29 => ?_) (fun hb29 => ?_)
          · replace hm := ifT hm hb29
            refine WJ.seq ?_
            refine WJ.quiet ?_
            refine QJ.step (YldS.yld (y_move rfl)) rfl ?_
            refine QJ.step (YldS.yld (y_move rfl)) rfl ?_
            refine QJ.step (YldS.yld (y_move rfl)) rfl ?_
            obtain ⟨e30, h31, hm⟩ := bindS hm
            obtain ⟨ad32, _, rfl, ha33, hy34⟩ := hr6.elem h31
            refine QJ.step (YldS.yld (hy34 Try.runUnderlying25 Try.sizeOf101 rfl rfl)) rfl ?_
            refine QJ.step (YldS.yld (y_fld (ad := ad32) fld101_0 rfl)) rfl ?_
            refine QJ.step (YldS.yld (y_load1 (v := str e30.mark) Try.isAgg9 (ha33.sub 0 1) St.frozenC rfl)) rfl ?_
            obtain ⟨r35, h36, hm⟩ := bindS hm
            refine QJ.step (y_call Try.call79 rfl (RetG.quiet fun w hw => ok_s_l02Find h36 w _ (hr3.st hw))) rfl ?_
            refine QJ.step (YldS.yld (y_move rfl)) rfl ?_
            refine QJ.step (YldS.yld (y_extract rfl rfl)) rfl ?_
            refine QJ.step (YldS.yld (y_extract rfl rfl)) rfl ?_
            refine QJ.step (YldS.yld (y_assign rfl)) rfl ?_
            refine QJ.step (YldS.yld (y_assign rfl)) rfl ?_
            refine QJ.done ?_
            refine PJ.next ?_
            refine WJ.seq ?_
            refine WJ.quiet ?_
            refine QJ.step (YldS.yld (y_move rfl)) rfl ?_
            refine QJ.step (YldS.yld (y_move rfl)) rfl ?_
            refine QJ.step (YldS.yld (y_move rfl)) rfl ?_
            obtain ⟨e37, h38, hm⟩ := bindS hm
            obtain ⟨ad39, _, rfl, ha40, hy41⟩ := hr6.elem h38
            refine QJ.step (YldS.yld (hy41 Try.runUnderlying25 Try.sizeOf101 rfl rfl)) rfl ?_
            refine QJ.step (YldS.yld (y_fld (ad := ad39) fld101_1 rfl)) rfl ?_
            refine QJ.step (YldS.yld (y_load1 (v := str e37.letter) Try.isAgg9 (ha40.sub 1 1) St.frozenC rfl)) rfl ?_
            obtain ⟨r42, h43, hm⟩ := bindS hm
            refine QJ.step (y_call Try.call79 rfl (RetG.quiet fun w hw => ok_s_l02Find h43 w _ (hr3.st hw))) rfl ?_
            refine QJ.step (YldS.yld (y_move rfl)) rfl ?_
            refine QJ.step (YldS.yld (y_extract rfl rfl)) rfl ?_
            refine QJ.step (YldS.yld (y_extract rfl rfl)) rfl ?_
            refine QJ.step (YldS.yld (y_assign rfl)) rfl ?_
            refine QJ.step (YldS.yld (y_assign rfl)) rfl ?_
            refine QJ.done ?_
            refine PJ.next ?_
            refine WJ.seq ?_
            refine WJ.reg ?_
            refine SJ.q (YldS.yld (y_move rfl)) rfl ?_
            refine SJ.q (YldS.yld (y_move rfl)) rfl ?_
            refine SJ.q (YldS.yld (y_build (parts := [(0, .tmp 67), (1, .tmp 68)]) (places := [(0, 1), (1, 1)]) (r := [.int .i64 ((Press.mk r35.1 r35.2).key), .bool ((Press.mk r35.1 r35.2).shift)]) pl37 Try.zeroValue37 rfl rfl rfl rfl)) rfl ?_
            refine SJ.q (YldS.yld (y_move rfl)) rfl ?_
            refine SJ.q (YldS.yld (y_move rfl)) rfl ?_
            refine SJ.q (YldS.yld (y_build (parts := [(0, .tmp 70), (1, .tmp 71)]) (places := [(0, 1), (1, 1)]) (r := [.int .i64 ((Press.mk r42.1 r42.2).key), .bool ((Press.mk r42.1 r42.2).shift)]) pl37 Try.zeroValue37 rfl rfl rfl rfl)) rfl ?_
            refine SJ.buildSlice (R := fPress) (os := [.tmp 69, .tmp 72]) [(Press.mk r35.1 r35.2), (Press.mk r42.1 r42.2)] Try.runUnderlying26 Try.sizeOf37 Try.zeroValue37 rfl rfl rfl rfl rfl rfl fun v44 => ?_
            refine SJ.q (YldS.yld (y_assign rfl)) rfl ?_
            refine SJ.nil ?_
            refine PJ.next ?_
            refine WJ.ret ?_
            refine PJ.block_ret (PJ.then_ret (PJ.then_ret (PJ.block_ret (PJ.then_ret ?_))))
            obtain rfl := Option.some.inj hm
            refine PJ.sel (L' := [row v44 37 fPress [(Press.mk r35.1 r35.2), (Press.mk r42.1 r42.2)]]) [0] ⟨by decide, rfl⟩ ?_
            exact PJ.retn (vs := [v44]) Try.results135 ⟨rfl, trivial⟩ ⟨_, rfl, rfl⟩
          · replace hm := ifF hm hb29
            refine WJ.skip ?_
            refine PJ.block_normal (PJ.next ?_)
            refine WJ.quiet ?_
            refine QJ.step (YldS.yld (y_move rfl)) rfl ?_
            refine QJ.step (YldS.yld (y_bin rfl rfl rfl)) rfl ?_
            refine QJ.step (YldS.yld (y_assign rfl)) rfl ?_
            refine QJ.done ?_
            exact PJ.round (w64 (i22 + 1)) [] hm ⟨rfl, rfl, rfl, rfl, trivial⟩ ⟨List.nodup_nil, rfl⟩
        · replace hm := ifF hm hb23
          refine WJ.exit ?_
          refine PJ.then_exit (PJ.then_exit (PJ.block_exit ?_))
          exact PJ.joined () [] hm trivial ⟨List.nodup_nil, rfl⟩
    · rintro _ hm
      subst hk21
      refine WJ.seq ?_
      refine WJ.reg ?_
      refine SJ.buildSlice (R := fPress) (os := []) [] Try.runUnderlying26 Try.sizeOf37 Try.zeroValue37 rfl rfl rfl rfl rfl rfl fun v45 => ?_
      refine SJ.q (YldS.yld (y_assign rfl)) rfl ?_
      refine SJ.nil ?_
      refine PJ.next ?_
      refine WJ.ret ?_
      obtain rfl := Option.some.inj hm
      refine PJ.sel (L' := [row v45 37 fPress []]) [0] ⟨by decide, rfl⟩ ?_
      exact PJ.retn (vs := [v45]) Try.results135 ⟨rfl, trivial⟩ ⟨_, rfl, rfl⟩

set_option maxRecDepth 100000 in
set_option maxHeartbeats 1000000 in
theorem ok_s_PressesFor {N : Nat} {keys1 : List Key} {accents4 : List Accent} {text7 : Str} {r : (List Press) × Int} (hm : s_PressesFor N keys1 accents4 text7 = some r) (w : World) (v2 : Value) (hr3 : RdS w (cx w).Fz v2 fKey.rp keys1) (v5 : Value) (hr6 : RdS w (cx w).Fz v5 fAccent.rp accents4) :
    Calls Try.prog 117 #[v2, v5, str text7] w (RetG (cx w) fun u L => ∃ (u1 : Value), (u = tup [u1, .int .i64 r.2] ∧ L = [row u1 37 fPress r.1])) := by
  unfold s_PressesFor at hm
  refine Calls.enter [v2, v5, str text7] Try.func117 rfl Try.ntmps117 rfl ?_
  refine WJ.seq ?_
  refine WJ.quiet ?_
  refine QJ.step (YldS.yld (y_assign rfl)) rfl ?_
  refine QJ.step (YldS.yld (y_assign rfl)) rfl ?_
  refine QJ.done ?_
  refine PJ.next ?_
  refine WJ.seq ?_
  refine WJ.quiet ?_
  refine QJ.step (YldS.yld (y_move rfl)) rfl ?_
  refine QJ.step (YldS.yld (y_move rfl)) rfl ?_
  refine QJ.step (YldS.yld (y_move rfl)) rfl ?_
  obtain ⟨r8, h9, hm⟩ := bindS hm
  refine QJ.step (y_call Try.call134 rfl (RetG.quiet fun w hw => ok_s_l02Code h9 w _ (hr3.st hw) _ (hr6.st hw))) rfl ?_
  refine QJ.step (YldS.yld (y_assign rfl)) rfl ?_
  refine QJ.done ?_
  refine PJ.next ?_
  refine WJ.seq ?_
  refine WJ.seq ?_
  refine WJ.quiet ?_
  refine QJ.step (YldS.yld (y_move rfl)) rfl ?_
  refine QJ.step (YldS.yld (y_bin rfl rfl rfl)) rfl ?_
  refine QJ.done ?_
  refine PJ.next ?_
  refine WJ.cond (t := (r8 != 0)) rfl (fun hb10 => ?_) (fun hb10 => ?_)
  · replace hm := ifT hm hb10
    refine WJ.seq ?_
    refine WJ.quiet ?_
    refine QJ.step (YldS.yld (y_move rfl)) rfl ?_
    refine QJ.step (YldS.yld (y_assign rfl)) rfl ?_
    refine QJ.step (YldS.yld (y_assign rfl)) rfl ?_
    refine QJ.done ?_
    refine PJ.next ?_
    refine WJ.ret ?_
    refine PJ.then_ret ?_
    refine PJ.nil_row 37 fPress ?_
    obtain rfl := Option.some.inj hm
    refine PJ.sel (L' := [row (.slice none 0 0) 37 fPress []]) [0] ⟨by decide, rfl⟩ ?_
    exact PJ.retn (vs := [(.slice none 0 0), .int .i64 r8]) Try.results117 ⟨rfl, rfl, trivial⟩ ⟨_, rfl, rfl⟩
  · replace hm := ifF hm hb10
    refine WJ.skip ?_
    refine PJ.next ?_
    refine WJ.seq ?_
    refine WJ.reg ?_
    refine SJ.buildSlice (R := fPress) (os := []) [] Try.runUnderlying26 Try.sizeOf37 Try.zeroValue37 rfl rfl rfl rfl rfl rfl fun v11 => ?_
    refine SJ.q (YldS.yld (y_assign rfl)) rfl ?_
    refine SJ.nil ?_
    refine PJ.next ?_
    obtain ⟨kj14, hk15, hm⟩ := withK_open hm
    refine WJ.join (X := (List Press) × Value) (fun (x : (List Press) × Value) => kj14 x.1 = some r) (fun (x : (List Press) × Value) => [(9, x.2)]) (fun (x : (List Press) × Value) => [row x.2 37 fPress x.1]) ?_ ?_
    · clear hk15
      refine WJ.seq ?_
      refine WJ.quiet ?_
      refine QJ.step (YldS.yld (y_assign rfl)) rfl ?_
      refine QJ.done ?_
      refine PJ.next ?_
      refine WJ.block ?_
      refine WJ.sel (L' := (fun (x : (List Press) × Value × Int) => [row x.2.1 37 fPress x.1]) ([], v11, 0)) [0] ⟨by decide, rfl⟩ ?_
      refine WJ.sub (m' := (fun (x : (List Press) × Value × Int) => [(0, v2), (1, v5), (2, str text7), (9, x.2.1), (10, .int .i64 x.2.2)]) ([], v11, 0)) ⟨rfl, rfl, rfl, rfl, rfl, trivial⟩ ?_
      refine WJ.loop (X := (List Press) × Value × Int) (fun N (x : (List Press) × Value × Int) => s_PressesFor_l1 kj14 keys1 accents4 text7 N x.1 x.2.2 = some r) (fun (x : (List Press) × Value × Int) => [(0, v2), (1, v5), (2, str text7), (9, x.2.1), (10, .int .i64 x.2.2)]) (fun (x : (List Press) × Value × Int) => [row x.2.1 37 fPress x.1]) ?_ N ([], v11, 0) hm
      · rintro N ⟨l16, v17, i18⟩ hI
        have hm := hI; clear hI
        cases N with
        | zero => cases hm
        | succ N =>
        unfold s_PressesFor_l1 at hm
        refine WJ.seq ?_
        refine WJ.seq ?_
        refine WJ.quiet ?_
        refine QJ.step (YldS.yld (y_move rfl)) rfl ?_
        refine QJ.step (YldS.yld (y_move rfl)) rfl ?_
        refine QJ.step (YldS.yld (y_lenStr Try.runUnderlying9 rfl)) rfl ?_
        refine QJ.step (YldS.yld (y_bin rfl rfl rfl)) rfl ?_
        refine QJ.done ?_
        refine PJ.next ?_
        refine WJ.cond (t := decide (i18 < (List.length text7 : Int))) rfl (fun hb19 => ?_) (fun hb19 => ?_)
        · replace hm := ifT hm hb19
          refine WJ.skip ?_
          refine PJ.next ?_
          refine WJ.seq ?_
          refine WJ.block ?_
          refine WJ.seq ?_
          refine WJ.reg ?_
          refine SJ.q (YldS.yld (y_move rfl)) rfl ?_
          refine SJ.q (YldS.yld (y_move rfl)) rfl ?_
          refine SJ.q (YldS.yld (y_move rfl)) rfl ?_
          refine SJ.q (YldS.yld (y_move rfl)) rfl ?_
          refine SJ.q (YldS.yld (y_move rfl)) rfl ?_
          refine SJ.q (YldS.yld (y_bin rfl rfl rfl)) rfl ?_
          obtain ⟨s20, h21, hm⟩ := bindS hm
          refine SJ.q (YldS.yld (y_subStr (i := some i18) (j := some (w64 (i18 + 1))) h21 Try.runUnderlying9 rfl ⟨_, rfl⟩ ⟨_, rfl⟩)) rfl ?_
          obtain ⟨r22, h23, hm⟩ := bindS hm
          refine SJ.call Try.call135 rfl (fun w hw => ok_s_l02Presses h23 w _ (hr3.st hw) _ (hr6.st hw)) rfl ?_
          rintro v24 _ ⟨_, rfl, rfl⟩
          refine SJ.q (YldS.yld (y_assign rfl)) rfl ?_
          refine SJ.nil ?_
          refine PJ.next ?_
          refine WJ.seq ?_
          refine WJ.seq ?_
          refine WJ.quiet ?_
          refine QJ.step (YldS.yld (y_move rfl)) rfl ?_
          refine QJ.step (YldS.yld (y_lenRow (k := 0) rfl Try.runUnderlying26 rfl)) rfl ?_
          refine QJ.step (YldS.yld (y_bin rfl rfl rfl)) rfl ?_
          refine QJ.done ?_
          refine PJ.next ?_
          refine WJ.cond (t := ((List.length r22 : Int) == 0)) rfl (fun hb25 => ?_) (fun hb25 => ?_)
          · replace hm := ifT hm hb25
            refine WJ.seq ?_
            refine WJ.quiet ?_
            refine QJ.step (YldS.yld (y_assign rfl)) rfl ?_
            refine QJ.step (YldS.yld (y_assign rfl)) rfl ?_
            refine QJ.done ?_
            refine PJ.next ?_
            refine WJ.ret ?_
            refine PJ.then_ret (PJ.block_ret (PJ.then_ret (PJ.then_ret (PJ.block_ret (PJ.then_ret ?_)))))
            refine PJ.nil_row 37 fPress ?_
            obtain rfl := Option.some.inj hm
            refine PJ.sel (L' := [row (.slice none 0 0) 37 fPress []]) [0] ⟨by decide, rfl⟩ ?_
            exact PJ.retn (vs := [(.slice none 0 0), .int .i64 3]) Try.results117 ⟨rfl, rfl, trivial⟩ ⟨_, rfl, rfl⟩
          · replace hm := ifF hm hb25
            refine WJ.skip ?_
            refine PJ.next ?_
            refine WJ.reg ?_
            refine SJ.q (YldS.yld (y_move rfl)) rfl ?_
            refine SJ.q (YldS.yld (y_move rfl)) rfl ?_
            obtain ⟨l26, h27, hm⟩ := bindS hm
            refine SJ.append (k := 1) (R := fPress) h27 rfl Try.underlying26 el37 rfl rfl rfl (fun w hw => (hw.row_rd (k := 0) rfl)) rfl fun v28 => ?_
            refine SJ.q (YldS.yld (y_assign rfl)) rfl ?_
            refine SJ.nil ?_
            refine PJ.block_normal (PJ.next ?_)
            refine WJ.quiet ?_
            refine QJ.step (YldS.yld (y_move rfl)) rfl ?_
            refine QJ.step (YldS.yld (y_bin rfl rfl rfl)) rfl ?_
            refine QJ.step (YldS.yld (y_assign rfl)) rfl ?_
            refine QJ.done ?_
            exact PJ.round (l26, v28, w64 (i18 + 1)) [1] hm ⟨rfl, rfl, rfl, rfl, rfl, trivial⟩ ⟨by decide, rfl⟩
        · replace hm := ifF hm hb19
          refine WJ.exit ?_
          refine PJ.then_exit (PJ.then_exit (PJ.block_exit ?_))
          exact PJ.joined (l16, v17) [0] hm ⟨rfl, trivial⟩ ⟨by decide, rfl⟩
    · rintro ⟨l12, v13⟩ hm
      subst hk15
      refine WJ.seq ?_
      refine WJ.quiet ?_
      refine QJ.step (YldS.yld (y_move rfl)) rfl ?_
      refine QJ.step (YldS.yld (y_assign rfl)) rfl ?_
      refine QJ.step (YldS.yld (y_assign rfl)) rfl ?_
      refine QJ.done ?_
      refine PJ.next ?_
      refine WJ.ret ?_
      obtain rfl := Option.some.inj hm
      refine PJ.sel (L' := [row v13 37 fPress l12]) [0] ⟨by decide, rfl⟩ ?_
      exact PJ.retn (vs := [v13, .int .i64 0]) Try.results117 ⟨rfl, rfl, trivial⟩ ⟨_, rfl, rfl⟩

set_option maxRecDepth 100000 in
set_option maxHeartbeats 1000000 in
theorem ok_s_l00Src_among {s1 : L00Src} {list5 : List Int} {g2 : Nat} {r : Int × L00Src} (hm : s_l00Src_among s1 list5 = some r) (w : World) (S : Nat → Prop) (v3 : Value) (hr4 : RdS w (Cx.Fz ⟨w, S⟩) v3 fByte.rp s1.code) (v6 : Value) (hr7 : RdS w (Cx.Fz ⟨w, S⟩) v6 fI64.rp list5) (hA : (box g2 157 [v3, .int .i64 s1.at_, .int .u64 s1.seed]).holds w S) :
    Calls Try.prog 118 #[pt g2 0, v6] w (RetG ⟨w, S⟩ fun u L => (u = .int .i64 r.1 ∧ L = [box g2 157 [v3, .int .i64 r.2.at_, .int .u64 r.2.seed]])) := by
  unfold s_l00Src_among at hm
  refine Calls.enter1 hA [pt g2 0, v6] Try.func118 rfl Try.ntmps118 rfl ?_
  refine WJ.seq ?_
  refine WJ.quiet ?_
  refine QJ.step (YldS.yld (y_assign rfl)) rfl ?_
  refine QJ.done ?_
  refine PJ.next ?_
  refine WJ.seq ?_
  refine WJ.reg ?_
  refine SJ.q (YldS.yld (y_move rfl)) rfl ?_
  refine SJ.q (YldS.yld (y_move rfl)) rfl ?_
  refine SJ.q (YldS.yld (y_move rfl)) rfl ?_
  refine SJ.q (YldS.yld (y_lenS Try.runUnderlying69 hr7 rfl)) rfl ?_
  obtain ⟨r8, h9, hm⟩ := bindS hm
  refine SJ.call1 (k := 0) rfl Try.call83 rfl (fun w S hw hA hO => ok_s_l00Src_pick h9 w S _ (hr4.st1 hw hO) hA) rfl ?_
  rintro _ _ ⟨rfl, rfl⟩
  obtain ⟨e10, h11, hm⟩ := bindS hm
  obtain ⟨ad12, _, rfl, ha13, hy14⟩ := hr7.elem h11
  refine SJ.q (YldS.yld (hy14 Try.runUnderlying69 Try.sizeOf2 rfl rfl)) rfl ?_
  refine SJ.q (YldS.yld (y_load1 (v := .int .i64 e10) Try.isAgg2 ha13 St.frozenC rfl)) rfl ?_
  refine SJ.q (YldS.yld (y_assign rfl)) rfl ?_
  refine SJ.nil ?_
  refine PJ.next ?_
  refine WJ.ret ?_
  obtain rfl := Option.some.inj hm
  refine PJ.sel (L' := [box g2 157 [v3, .int .i64 r8.2.at_, .int .u64 r8.2.seed]]) [0] ⟨by decide, rfl⟩ ?_
  exact PJ.retn (vs := [.int .i64 e10]) Try.results118 ⟨rfl, trivial⟩ ⟨rfl, rfl⟩

set_option maxRecDepth 100000 in
set_option maxHeartbeats 1000000 in
theorem ok_s_l02DrawPresses {N : Nat} {code1 : List UInt8} {r : (List Key) × (List Accent) × (List Press)} (hm : s_l02DrawPresses N code1 = some r) (w : World) (v2 : Value) (hr3 : RdS w (cx w).Fz v2 fByte.rp code1) :
    Calls Try.prog 66 #[v2] w (RetG (cx w) fun u L => ∃ (u1 : Value) (u2 : Value) (u3 : Value), (u = tup [u1, u2, u3] ∧ L = [row u1 41 fKey r.1, row u2 101 fAccent r.2.1, row u3 37 fPress r.2.2])) := by
  unfold s_l02DrawPresses at hm
  refine Calls.enter [v2] Try.func66 rfl Try.ntmps66 rfl ?_
  refine WJ.seq ?_
  refine WJ.quiet ?_
  refine QJ.step (YldS.yld (y_assign rfl)) rfl ?_
  refine QJ.step (YldS.yld (y_assign rfl)) rfl ?_
  refine QJ.step (YldS.yld (y_assign rfl)) rfl ?_
  refine QJ.done ?_
  refine PJ.next ?_
  refine WJ.seq ?_
  refine WJ.reg ?_
  refine SJ.q (YldS.yld (y_move rfl)) rfl ?_
  obtain ⟨r4, h5, hm⟩ := bindS hm
  refine SJ.call Try.call116 rfl (fun w hw => ok_s_l02DrawText h5 w _ (hr3.st hw)) rfl ?_
  rintro _ _ ⟨v6, v7, rfl, rfl⟩
  refine SJ.q (YldS.yld (y_move rfl)) rfl ?_
  refine SJ.q (YldS.yld (y_extract rfl rfl)) rfl ?_
  refine SJ.q (YldS.yld (y_extract rfl rfl)) rfl ?_
  refine SJ.q (YldS.yld (y_extract rfl rfl)) rfl ?_
  refine SJ.q (YldS.yld (y_assign rfl)) rfl ?_
  refine SJ.q (YldS.yld (y_assign rfl)) rfl ?_
  refine SJ.q (YldS.yld (y_assign rfl)) rfl ?_
  refine SJ.nil ?_
  refine PJ.next ?_
  refine WJ.seq ?_
  refine WJ.reg ?_
  refine SJ.q (YldS.yld (y_move rfl)) rfl ?_
  obtain ⟨r8, h9, hm⟩ := bindS hm
  refine SJ.call Try.call73 rfl (fun w hw => ok_s_l00From h9 w _ (hr3.st hw)) rfl ?_
  rintro _ _ ⟨g10, rfl, rfl⟩
  refine SJ.q (YldS.yld (y_assign rfl)) rfl ?_
  refine SJ.nil ?_
  refine PJ.next ?_
  refine WJ.seq ?_
  refine WJ.reg ?_
  refine SJ.q (YldS.yld (y_move rfl)) rfl ?_
  refine SJ.q (YldS.yld (y_move rfl)) rfl ?_
  refine SJ.q (YldS.yld (y_move rfl)) rfl ?_
  obtain ⟨r11, h12, hm⟩ := bindS hm
  refine SJ.call Try.call117 rfl (fun w hw => ok_s_PressesFor h12 w _ (hw.row_rd (k := 1) rfl) _ (hw.row_rd (k := 2) rfl)) rfl ?_
  rintro _ _ ⟨v13, rfl, rfl⟩
  refine SJ.q (YldS.yld (y_move rfl)) rfl ?_
  refine SJ.q (YldS.yld (y_extract rfl rfl)) rfl ?_
  refine SJ.q (YldS.yld (y_extract rfl rfl)) rfl ?_
  refine SJ.q (YldS.yld (y_assign rfl)) rfl ?_
  refine SJ.q (YldS.yld (y_assign rfl)) rfl ?_
  refine SJ.nil ?_
  refine PJ.next ?_
  obtain ⟨kj16, hk17, hm⟩ := withK_open hm
  refine WJ.join (X := (List Press) × Value) (fun (x : (List Press) × Value) => kj16 x.1 = some r) (fun (x : (List Press) × Value) => [(5, v6), (6, v7), (8, pt g10 0), (9, x.2)]) (fun (x : (List Press) × Value) => [row x.2 37 fPress x.1, box g10 157 [v2, .int .i64 r8.at_, .int .u64 r8.seed], row v6 41 fKey r4.1, row v7 101 fAccent r4.2.1]) ?_ ?_
  · clear hk17
    refine WJ.seq ?_
    refine WJ.quiet ?_
    refine QJ.step (YldS.yld (y_move rfl)) rfl ?_
    refine QJ.step (YldS.yld (y_bin rfl rfl rfl)) rfl ?_
    refine QJ.done ?_
    refine PJ.next ?_
    refine WJ.cond (t := (r11.2 != 0)) rfl (fun hb18 => ?_) (fun hb18 => ?_)
    · replace hm := ifT hm hb18
      refine WJ.reg ?_
      refine SJ.buildSlice (R := fPress) (os := []) [] Try.runUnderlying26 Try.sizeOf37 Try.zeroValue37 rfl rfl rfl rfl rfl rfl fun v19 => ?_
      refine SJ.q (YldS.yld (y_assign rfl)) rfl ?_
      refine SJ.nil ?_
      exact PJ.joined ([], v19) [0, 2, 3, 4] hm ⟨rfl, rfl, rfl, rfl, trivial⟩ ⟨by decide, rfl⟩
    · replace hm := ifF hm hb18
      refine WJ.skip ?_
      exact PJ.joined (r11.1, v13) [0, 1, 2, 3] hm ⟨rfl, rfl, rfl, rfl, trivial⟩ ⟨by decide, rfl⟩
  · rintro ⟨l14, v15⟩ hm
    subst hk17
    obtain ⟨kj22, hk23, hm⟩ := withK_open hm
    refine WJ.join (X := (List Press) × Value) (fun (x : (List Press) × Value) => kj22 x.1 = some r) (fun (x : (List Press) × Value) => [(5, v6), (6, v7), (9, x.2)]) (fun (x : (List Press) × Value) => [row x.2 37 fPress x.1, row v6 41 fKey r4.1, row v7 101 fAccent r4.2.1]) ?_ ?_
    · clear hk23
      refine WJ.seq ?_
      refine WJ.reg ?_
      refine SJ.q (YldS.yld (y_move rfl)) rfl ?_
      obtain ⟨r24, h25, hm⟩ := bindS hm
      refine SJ.call1 (k := 1) rfl Try.call83 rfl (fun w S hw hA hO => ok_s_l00Src_pick h25 w S _ (hr3.st1 hw hO) hA) rfl ?_
      rintro _ _ ⟨rfl, rfl⟩
      refine SJ.nil ?_
      refine PJ.next ?_
      refine WJ.block ?_
      refine WJ.seq ?_
      refine WJ.quiet ?_
      refine QJ.step (YldS.yld (y_bin rfl rfl rfl)) rfl ?_
      refine QJ.step (YldS.yld (y_assign rfl)) rfl ?_
      refine QJ.done ?_
      refine PJ.next ?_
      refine WJ.cond (t := (r24.1 == 0)) rfl (fun hb26 => ?_) (fun hb26 => ?_)
      · replace hm := ifT hm hb26
        refine WJ.reg ?_
        refine SJ.q (YldS.yld (y_move rfl)) rfl ?_
        refine SJ.q (YldS.yld (y_move rfl)) rfl ?_
        refine SJ.q (YldS.yld (y_move rfl)) rfl ?_
        refine SJ.q (YldS.yld (y_lenRow (k := 2) rfl Try.runUnderlying24 rfl)) rfl ?_
        refine SJ.q (YldS.yld (y_bin rfl rfl rfl)) rfl ?_
        refine SJ.q (YldS.yld (y_move rfl)) rfl ?_
        refine SJ.q (YldS.yld (y_lenRow (k := 2) rfl Try.runUnderlying24 rfl)) rfl ?_
        refine SJ.buildSlice (R := fI64) (os := [.const (.int .i64 (-1)), .const (.int .i64 0), .tmp 37, .tmp 39]) [(-1), 0, w64 ((List.length r4.1 : Int) - 1), (List.length r4.1 : Int)] Try.runUnderlying69 Try.sizeOf2 Try.zeroValue2 rfl rfl rfl rfl rfl rfl fun v27 => ?_
        obtain ⟨r28, h29, hm⟩ := bindS hm
        refine SJ.call2 (k := 1) rfl Try.call118 rfl (fun w S hw hA hO hB => ok_s_l00Src_among h29 w S _ (hr3.st1 hw hO) _ (hB.row_rd (j := 0) (k := 1) rfl rfl) hA) rfl ?_
        rintro _ _ ⟨rfl, rfl⟩
        refine SJ.q (YldS.yld (y_build (parts := [(0, .tmp 41), (1, .const (.bool true))]) (places := [(0, 1), (1, 1)]) (r := [.int .i64 ((Press.mk r28.1 true).key), .bool ((Press.mk r28.1 true).shift)]) pl37 Try.zeroValue37 rfl rfl rfl rfl)) rfl ?_
        refine SJ.buildSlice (R := fPress) (os := [.tmp 42]) [(Press.mk r28.1 true)] Try.runUnderlying26 Try.sizeOf37 Try.zeroValue37 rfl rfl rfl rfl rfl rfl fun v30 => ?_
        obtain ⟨l31, h32, hm⟩ := bindS hm
        refine SJ.append (k := 3) (R := fPress) h32 rfl Try.underlying26 el37 rfl rfl rfl (fun w hw => (hw.row_rd (k := 0) rfl)) rfl fun v33 => ?_
        refine SJ.q (YldS.yld (y_assign rfl)) rfl ?_
        refine SJ.nil ?_
        refine PJ.block_normal ?_
        exact PJ.joined (l31, v33) [3, 4, 5] hm ⟨rfl, rfl, rfl, trivial⟩ ⟨by decide, rfl⟩
      · replace hm := ifF hm hb26
        refine WJ.seq ?_
        refine WJ.quiet ?_
        refine QJ.step (YldS.yld (y_bin rfl rfl rfl)) rfl ?_
        refine QJ.step (YldS.yld (y_assign rfl)) rfl ?_
        refine QJ.done ?_
        refine PJ.next ?_
        refine WJ.cond (t := (r24.1 == 1)) rfl (fun hb34 => ?_) (fun hb34 => ?_)
        · replace hm := ifT hm hb34
          refine WJ.reg ?_
          refine SJ.q (YldS.yld (y_move rfl)) rfl ?_
          obtain ⟨r35, h36, hm⟩ := bindS hm
          refine SJ.call1 (k := 0) rfl Try.call83 rfl (fun w S hw hA hO => ok_s_l00Src_pick h36 w S _ (hr3.st1 hw hO) hA) rfl ?_
          rintro _ _ ⟨rfl, rfl⟩
          refine SJ.q (YldS.yld (y_bin rfl rfl rfl)) rfl ?_
          obtain ⟨l37, h38, hm⟩ := bindS hm
          refine SJ.makeSlice (R := fPress) (z := (Press.mk 0 false)) h38 Try.underlying26 el37 rfl rfl rfl fun v39 => ?_
          refine SJ.q (YldS.yld (y_assign rfl)) rfl ?_
          refine SJ.nil ?_
          refine PJ.block_normal ?_
          exact PJ.joined (l37, v39) [0, 3, 4] hm ⟨rfl, rfl, rfl, trivial⟩ ⟨by decide, rfl⟩
        · replace hm := ifF hm hb34
          refine WJ.skip ?_
          refine PJ.block_normal ?_
          exact PJ.joined (l14, v15) [1, 2, 3] hm ⟨rfl, rfl, rfl, trivial⟩ ⟨by decide, rfl⟩
    · rintro ⟨l20, v21⟩ hm
      subst hk23
      refine WJ.seq ?_
      refine WJ.quiet ?_
      refine QJ.step (YldS.yld (y_move rfl)) rfl ?_
      refine QJ.step (YldS.yld (y_move rfl)) rfl ?_
      refine QJ.step (YldS.yld (y_move rfl)) rfl ?_
      refine QJ.step (YldS.yld (y_assign rfl)) rfl ?_
      refine QJ.step (YldS.yld (y_assign rfl)) rfl ?_
      refine QJ.step (YldS.yld (y_assign rfl)) rfl ?_
      refine QJ.done ?_
      refine PJ.next ?_
      refine WJ.ret ?_
      obtain rfl := Option.some.inj hm
      refine PJ.sel (L' := [row v6 41 fKey r4.1, row v7 101 fAccent r4.2.1, row v21 37 fPress l20]) [1, 2, 0] ⟨by decide, rfl⟩ ?_
      exact PJ.retn (vs := [v6, v7, v21]) Try.results66 ⟨rfl, rfl, rfl, trivial⟩ ⟨_, _, _, rfl, rfl⟩

set_option maxRecDepth 100000 in
set_option maxHeartbeats 1000000 in
theorem ok_s_DrawTextOfPresses {N : Nat} {code1 : List UInt8} {r : (List Key) × (List Accent) × (List Press)} (hm : s_DrawTextOfPresses N code1 = some r) (w : World) (v2 : Value) (hr3 : RdS w (cx w).Fz v2 fByte.rp code1) :
    Calls Try.prog 10 #[v2] w (RetG (cx w) fun u L => ∃ (u1 : Value) (u2 : Value) (u3 : Value), (u = tup [u1, u2, u3] ∧ L = [row u1 41 fKey r.1, row u2 101 fAccent r.2.1, row u3 37 fPress r.2.2])) := by
  unfold s_DrawTextOfPresses at hm
  refine Calls.enter [v2] Try.func10 rfl Try.ntmps10 rfl ?_
  refine WJ.seq ?_
  refine WJ.quiet ?_
  refine QJ.step (YldS.yld (y_assign rfl)) rfl ?_
  refine QJ.step (YldS.yld (y_assign rfl)) rfl ?_
  refine QJ.step (YldS.yld (y_assign rfl)) rfl ?_
  refine QJ.done ?_
  refine PJ.next ?_
  refine WJ.seq ?_
  refine WJ.reg ?_
  refine SJ.q (YldS.yld (y_move rfl)) rfl ?_
  obtain ⟨r4, h5, hm⟩ := bindS hm
  refine SJ.call Try.call66 rfl (fun w hw => ok_s_l02DrawPresses h5 w _ (hr3.st hw)) rfl ?_
  rintro _ _ ⟨v6, v7, v8, rfl, rfl⟩
  refine SJ.q (YldS.yld (y_extract rfl rfl)) rfl ?_
  refine SJ.q (YldS.yld (y_extract rfl rfl)) rfl ?_
  refine SJ.q (YldS.yld (y_extract rfl rfl)) rfl ?_
  refine SJ.q (YldS.yld (y_assign rfl)) rfl ?_
  refine SJ.q (YldS.yld (y_assign rfl)) rfl ?_
  refine SJ.q (YldS.yld (y_assign rfl)) rfl ?_
  refine SJ.nil ?_
  refine PJ.next ?_
  refine WJ.ret ?_
  obtain rfl := Option.some.inj hm
  refine PJ.sel (L' := [row v6 41 fKey r4.1, row v7 101 fAccent r4.2.1, row v8 37 fPress r4.2.2]) [0, 1, 2] ⟨by decide, rfl⟩ ?_
  exact PJ.retn (vs := [v6, v7, v8]) Try.results10 ⟨rfl, rfl, rfl, trivial⟩ ⟨_, _, _, rfl, rfl⟩

set_option maxRecDepth 100000 in
set_option maxHeartbeats 1000000 in
theorem ok_i_isText {N : Nat} {s1 : Str} {low2 : UInt8} {most3 : Int} {r : Bool} (hm : i_isText N s1 low2 most3 = some r) (w : World)  :
    Calls Try.prog 80 #[str s1, .int .u8 (UInt8.toNat low2 : Int), .int .i64 most3] w (Ret (cx w) (.bool r)) := by
  unfold i_isText at hm
  refine Calls.enter [str s1, .int .u8 (UInt8.toNat low2 : Int), .int .i64 most3] Try.func80 rfl Try.ntmps80 rfl ?_
  refine WJ.seq ?_
  refine WJ.quiet ?_
  refine QJ.step (YldS.yld (y_assign rfl)) rfl ?_
  refine QJ.done ?_
  refine PJ.next ?_
  refine WJ.seq ?_
  refine WJ.seq ?_
  refine WJ.quiet ?_
  refine QJ.step (YldS.yld (y_move rfl)) rfl ?_
  refine QJ.step (YldS.yld (y_lenStr Try.runUnderlying9 rfl)) rfl ?_
  refine QJ.step (YldS.yld (y_move rfl)) rfl ?_
  refine QJ.step (YldS.yld (y_bin rfl rfl rfl)) rfl ?_
  refine QJ.done ?_
  refine PJ.next ?_
  refine WJ.cond (t := decide ((List.length s1 : Int) > most3)) rfl (fun hb4 => ?_) (fun hb4 => ?_)
  · replace hm := ifT hm hb4
    refine WJ.seq ?_
    refine WJ.quiet ?_
    refine QJ.step (YldS.yld (y_assign rfl)) rfl ?_
    refine QJ.done ?_
    refine PJ.next ?_
    refine WJ.ret ?_
    refine PJ.then_ret ?_
    obtain rfl := Option.some.inj hm
    refine PJ.sel (L' := []) [] ⟨List.nodup_nil, rfl⟩ ?_
    exact PJ.retn (vs := [.bool false]) Try.results80 ⟨rfl, trivial⟩ ⟨rfl, rfl⟩
  · replace hm := ifF hm hb4
    refine WJ.skip ?_
    refine PJ.next ?_
    obtain ⟨kj5, hk6, hm⟩ := withK_open hm
    refine WJ.join (X := Unit) (fun (_ : Unit) => kj5  = some r) (fun (_ : Unit) => []) (fun (_ : Unit) => []) ?_ ?_
    · clear hk6
      refine WJ.seq ?_
      refine WJ.quiet ?_
      refine QJ.step (YldS.yld (y_move rfl)) rfl ?_
      refine QJ.step (YldS.yld (y_lenStr Try.runUnderlying9 rfl)) rfl ?_
      refine QJ.step (YldS.yld (y_move rfl)) rfl ?_
      refine QJ.done ?_
      refine PJ.next ?_
      refine WJ.block ?_
      refine WJ.sel (L' := (fun (x : Int) => []) 0) [] ⟨List.nodup_nil, rfl⟩ ?_
      refine WJ.sub (m' := (fun (x : Int) => [(0, str s1), (1, .int .u8 (UInt8.toNat low2 : Int)), (13, .int .i64 (List.length s1 : Int)), (14, .int .i64 x)]) 0) ⟨rfl, rfl, rfl, rfl, trivial⟩ ?_
      refine WJ.loop (X := Int) (fun N (x : Int) => i_isText_l1 kj5 s1 low2 N x = some r) (fun (x : Int) => [(0, str s1), (1, .int .u8 (UInt8.toNat low2 : Int)), (13, .int .i64 (List.length s1 : Int)), (14, .int .i64 x)]) (fun (x : Int) => []) ?_ N 0 hm
      · rintro N x7 hI
        have hm := hI; clear hI
        cases N with
        | zero => cases hm
        | succ N =>
        unfold i_isText_l1 at hm
        refine WJ.seq ?_
        refine WJ.quiet ?_
        refine QJ.step (YldS.yld (y_bin rfl rfl rfl)) rfl ?_
        refine QJ.done ?_
        refine PJ.next ?_
        refine WJ.seq ?_
        refine WJ.cond (t := decide (x7 < (List.length s1 : Int))) rfl (fun hb8 => ?_) (fun hb8 => ?_)
        · replace hm := ifT hm hb8
          refine WJ.skip ?_
          refine PJ.next ?_
          refine WJ.seq ?_
          refine WJ.block ?_
          refine WJ.seq ?_
          refine WJ.quiet ?_
          refine QJ.step (YldS.yld (y_move rfl)) rfl ?_
          refine QJ.step (YldS.yld (y_assign rfl)) rfl ?_
          refine QJ.done ?_
          refine PJ.next ?_
          refine WJ.seq ?_
          refine WJ.quiet ?_
          refine QJ.step (YldS.yld (y_move rfl)) rfl ?_
          refine QJ.step (YldS.yld (y_move rfl)) rfl ?_
          obtain ⟨c9, h10, hm⟩ := bindS hm
          refine QJ.step (YldS.yld (y_idxStr Try.runUnderlying9 rfl rfl h10)) rfl ?_
          refine QJ.step (YldS.yld (y_move rfl)) rfl ?_
          refine QJ.step (YldS.yld (y_bin8 c9 low2 rfl rfl rfl)) rfl ?_
          refine QJ.step (YldS.yld (y_move rfl)) rfl ?_
          obtain ⟨t11, h12, hm⟩ := bindS hm
          refine QJ.cut 5 [(0, str s1), (1, .int .u8 (UInt8.toNat low2 : Int)), (13, .int .i64 (List.length s1 : Int)), (14, .int .i64 x7), (27, .bool t11)] ?_ ?_
          · rcases Bool.eq_false_or_eq_true (decide (c9 < low2)) with hb13 | hb13
            · obtain rfl := orT h12 hb13
              refine QJ.off rfl rfl (cB hb13) rfl rfl ?_
              refine QJ.off rfl rfl (cB hb13) rfl rfl ?_
              refine QJ.off rfl rfl (cB hb13) rfl rfl ?_
              refine QJ.off rfl rfl (cB hb13) rfl rfl ?_
              refine QJ.step (YldS.yld (y_pick_t (cB hb13) rfl)) rfl ?_
              exact QJ.cut_end ⟨rfl, rfl, rfl, rfl, rfl, trivial⟩
            · replace h12 := orF h12 hb13
              refine QJ.on rfl rfl (cB hb13) (YldS.yld (y_move rfl)) rfl ?_
              refine QJ.on rfl rfl (cB hb13) (YldS.yld (y_move rfl)) rfl ?_
              obtain ⟨c14, h15, h12⟩ := bindS h12
              refine QJ.on rfl rfl (cB hb13) (YldS.yld (y_idxStr Try.runUnderlying9 rfl rfl h15)) rfl ?_
              refine QJ.on rfl rfl (cB hb13) (YldS.yld (y_bin8 c14 (126 : UInt8) rfl rfl rfl)) rfl ?_
              refine QJ.step (YldS.yld (y_pick_f (cB hb13) rfl)) rfl ?_
              obtain rfl := Option.some.inj h12
              exact QJ.cut_end ⟨rfl, rfl, rfl, rfl, rfl, trivial⟩
          refine QJ.done ?_
          refine PJ.next ?_
          refine WJ.cond (t := t11) rfl (fun hb16 => ?_) (fun hb16 => ?_)
          · replace hm := ifT hm hb16
            refine WJ.seq ?_
            refine WJ.quiet ?_
            refine QJ.step (YldS.yld (y_assign rfl)) rfl ?_
            refine QJ.done ?_
            refine PJ.next ?_
            refine WJ.ret ?_
            refine PJ.block_ret (PJ.then_ret (PJ.then_ret (PJ.block_ret (PJ.then_ret ?_))))
            obtain rfl := Option.some.inj hm
            refine PJ.sel (L' := []) [] ⟨List.nodup_nil, rfl⟩ ?_
            exact PJ.retn (vs := [.bool false]) Try.results80 ⟨rfl, trivial⟩ ⟨rfl, rfl⟩
          · replace hm := ifF hm hb16
            refine WJ.skip ?_
            refine PJ.block_normal (PJ.next ?_)
            refine WJ.quiet ?_
            refine QJ.step (YldS.yld (y_bin rfl rfl rfl)) rfl ?_
            refine QJ.step (YldS.yld (y_move rfl)) rfl ?_
            refine QJ.done ?_
            exact PJ.round (w64 (x7 + 1)) [] hm ⟨rfl, rfl, rfl, rfl, trivial⟩ ⟨List.nodup_nil, rfl⟩
        · replace hm := ifF hm hb8
          refine WJ.exit ?_
          refine PJ.then_exit (PJ.then_exit (PJ.block_exit ?_))
          exact PJ.joined () [] hm trivial ⟨List.nodup_nil, rfl⟩
    · rintro _ hm
      subst hk6
      refine WJ.seq ?_
      refine WJ.quiet ?_
      refine QJ.step (YldS.yld (y_assign rfl)) rfl ?_
      refine QJ.done ?_
      refine PJ.next ?_
      refine WJ.ret ?_
      obtain rfl := Option.some.inj hm
      refine PJ.sel (L' := []) [] ⟨List.nodup_nil, rfl⟩ ?_
      exact PJ.retn (vs := [.bool true]) Try.results80 ⟨rfl, trivial⟩ ⟨rfl, rfl⟩

set_option maxRecDepth 100000 in
set_option maxHeartbeats 1000000 in
theorem ok_i_isLetter {N : Nat} {s1 : Str} {r : Bool} (hm : i_isLetter N s1 = some r) (w : World)  :
    Calls Try.prog 76 #[str s1] w (Ret (cx w) (.bool r)) := by
  unfold i_isLetter at hm
  refine Calls.enter [str s1] Try.func76 rfl Try.ntmps76 rfl ?_
  refine WJ.seq ?_
  refine WJ.quiet ?_
  refine QJ.step (YldS.yld (y_assign rfl)) rfl ?_
  refine QJ.done ?_
  refine PJ.next ?_
  refine WJ.seq ?_
  refine WJ.quiet ?_
  refine QJ.step (YldS.yld (y_move rfl)) rfl ?_
  refine QJ.step (YldS.yld (y_lenStr Try.runUnderlying9 rfl)) rfl ?_
  refine QJ.step (YldS.yld (y_bin rfl rfl rfl)) rfl ?_
  refine QJ.step (YldS.yld (y_move rfl)) rfl ?_
  obtain ⟨t2, h3, hm⟩ := bindS hm
  refine QJ.cut 3 [(9, .bool t2)] ?_ ?_
  · rcases Bool.eq_false_or_eq_true ((List.length s1 : Int) == 1) with hb4 | hb4
    · replace h3 := andT h3 hb4
      refine QJ.on rfl rfl (cB hb4) (YldS.yld (y_move rfl)) rfl ?_
      obtain ⟨r5, h6, h3⟩ := bindS h3
      refine QJ.on rfl rfl (cB hb4) (y_call Try.call80 rfl (RetG.quiet fun w hw => ok_i_isText h6 w )) rfl ?_
      refine QJ.step (YldS.yld (y_pick_t (cB hb4) rfl)) rfl ?_
      obtain rfl := Option.some.inj h3
      exact QJ.cut_end ⟨rfl, trivial⟩
    · obtain rfl := andF h3 hb4
      refine QJ.off rfl rfl (cB hb4) rfl rfl ?_
      refine QJ.off rfl rfl (cB hb4) rfl rfl ?_
      refine QJ.step (YldS.yld (y_pick_f (cB hb4) rfl)) rfl ?_
      exact QJ.cut_end ⟨rfl, trivial⟩
  refine QJ.step (YldS.yld (y_assign rfl)) rfl ?_
  refine QJ.done ?_
  refine PJ.next ?_
  refine WJ.ret ?_
  obtain rfl := Option.some.inj hm
  refine PJ.sel (L' := []) [] ⟨List.nodup_nil, rfl⟩ ?_
  exact PJ.retn (vs := [.bool t2]) Try.results76 ⟨rfl, trivial⟩ ⟨rfl, rfl⟩

end Go.Proofs.Ythkckgiicchpnaa
