/-
  The walks: a call hands back what its plain function computes, where that has a value. No other conditions.
-/
import Derived.Test.YthmocnbnlpdggaaFnSeenLettersM
import Derived.Test.YthmocnbnlpdggaaChecked
namespace Go.Proofs.Ythmocnbnlpdggaa
open Go.RowKit Go.Proofs
set_option linter.unusedVariables false
set_option linter.unusedSimpArgs false

theorem follows : Try.prog.follows .mixedOrders = true := by kernel_rfl

def Over.enc (x : Over) : List Value := [str x.under, str x.top, str x.seen]
def fOver : FRp Over := ⟨3, Over.enc, fun _ => rfl, by decide, fun x u hu => by
  simp only [Over.enc, List.mem_cons, List.not_mem_nil, or_false] at hu
  rcases hu with rfl | rfl | rfl <;> rfl⟩

theorem pl87 : PlacesOk Try.prog 87 [(0, 1), (1, 1), (2, 1)] := ⟨_, Try.runUnderlying87, fun w => by simp [Try.sizeOf3, Try.sizeOf22, Try.sizeOf85]⟩
theorem fld87_1 : FieldOk Try.prog 87 1 1 3 0 := ⟨_, _, Try.runUnderlying87, rfl, rfl, rfl, Try.sizeOf3⟩
theorem fld87_0 : FieldOk Try.prog 87 0 0 22 0 := ⟨_, _, Try.runUnderlying87, rfl, rfl, rfl, Try.sizeOf22⟩
theorem fld87_2 : FieldOk Try.prog 87 2 2 85 0 := ⟨_, _, Try.runUnderlying87, rfl, rfl, rfl, Try.sizeOf85⟩
theorem pl42 : PlacesOk Try.prog 42 [(0, 1), (1, 1), (2, 1)] := ⟨_, Try.runUnderlying42, fun w => by simp [Try.sizeOf9]⟩
theorem fld42_1 : FieldOk Try.prog 42 1 1 9 0 := ⟨_, _, Try.runUnderlying42, rfl, rfl, rfl, Try.sizeOf9⟩
theorem fld42_2 : FieldOk Try.prog 42 2 2 9 0 := ⟨_, _, Try.runUnderlying42, rfl, rfl, rfl, Try.sizeOf9⟩
set_option maxRecDepth 100000 in
theorem el42 : ElemOk Try.prog 42 3 (fOver.enc (Over.mk [] [] [])) := ⟨_, _, Try.type42, rfl, rfl, rfl, by decide⟩
theorem fld42_0 : FieldOk Try.prog 42 0 0 9 0 := ⟨_, _, Try.runUnderlying42, rfl, rfl, rfl, Try.sizeOf9⟩
set_option maxRecDepth 100000 in
theorem el5 : ElemOk Try.prog 5 1 (fByte.enc 0) := ⟨_, _, Try.type5, rfl, rfl, rfl, by decide⟩
set_option maxRecDepth 100000 in
theorem el2 : ElemOk Try.prog 2 1 (fI64.enc 0) := ⟨_, _, Try.type2, rfl, rfl, rfl, by decide⟩
set_option maxRecDepth 100000 in
theorem el9 : ElemOk Try.prog 9 1 (fStr.enc []) := ⟨_, _, Try.type9, rfl, rfl, rfl, by decide⟩
set_option maxRecDepth 100000 in
theorem zv74 : ∀ w, (zeroValue 74).run Try.prog w = .ok (.agg (List.toArray (encs fI64 (List.replicate 60 (0 : Int))))) w := fun w => by
  rw [Try.zeroValue74]
  refine congrArg (fun z => Result.ok (Value.agg z) w) ?_
  kernel_rfl
theorem eq42 : EqOk Try.prog 42 Over.enc Over.beq := ⟨Try.eqGuardType42, fun x y w => by
  have hf : Try.prog.fieldsOf 42 = #[{ name := "Under", type := 9, offset := 0, embedded := false, tag := "", pkgPath := "", byteOffset := 0 }, { name := "Top", type := 9, offset := 1, embedded := false, tag := "", pkgPath := "", byteOffset := 16 }, { name := "Seen", type := 9, offset := 2, embedded := false, tag := "", pkgPath := "", byteOffset := 32 }] := by kernel_rfl
  have ht : Try.prog.underlying 42 = some (.struct (Try.prog.fieldsOf 42)) := by rw [hf]; exact Try.underlying42
  rw [run_equalIn_struct w 9999 42 _ _ ht Try.stoodInHeld42, hf]
  obtain ⟨a0, a1, a2⟩ := x
  obtain ⟨b0, b1, b2⟩ := y
  simp only [Op.eqFields, Over.enc, Over.beq]
  simp [part, str, Try.isAgg9, run_equalIn_string _ _ _ _ _ Try.underlying9, ByteArray.toList_eq]
  (repeat' split) <;> simp_all⟩

set_option maxRecDepth 100000 in
set_option maxHeartbeats 1000000 in
theorem ok_w_f6big {code1 : List UInt8} {r : Bool} (hm : w_f6big code1 = some r) (w : World) (v2 : Value) (hr3 : RdS w (cx w).Fz v2 fByte.rp code1) :
    Calls Try.prog 5 #[v2] w (Ret (cx w) (.bool r)) := by
  unfold w_f6big at hm
  refine Calls.enter [v2] Try.func5 rfl Try.ntmps5 rfl ?_
  refine WJ.seq ?_
  refine WJ.quiet ?_
  refine QJ.step (YldS.yld (y_assign rfl)) rfl ?_
  refine QJ.done ?_
  refine PJ.next ?_
  refine WJ.seq ?_
  refine WJ.quiet ?_
  refine QJ.step (YldS.yld (y_move rfl)) rfl ?_
  refine QJ.step (YldS.yld (y_lenS Try.runUnderlying22 hr3 rfl)) rfl ?_
  refine QJ.step (YldS.yld (y_bin rfl rfl rfl)) rfl ?_
  refine QJ.step (YldS.yld (y_assign rfl)) rfl ?_
  refine QJ.done ?_
  refine PJ.next ?_
  refine WJ.ret ?_
  obtain rfl := Option.some.inj hm
  refine PJ.sel (L' := []) [] ⟨List.nodup_nil, rfl⟩ ?_
  exact PJ.retn (vs := [.bool (decide ((List.length code1 : Int) > 4096))]) Try.results5 ⟨rfl, trivial⟩ ⟨rfl, rfl⟩

set_option maxRecDepth 100000 in
set_option maxHeartbeats 1000000 in
theorem ok_s_l00From {code1 : List UInt8} {r : L00Src} (hm : s_l00From code1 = some r) (w : World) (v2 : Value) (hr3 : RdS w (cx w).Fz v2 fByte.rp code1) :
    Calls Try.prog 35 #[v2] w (RetG (cx w) fun u L => ∃ (u1 : Nat), (u = pt u1 0 ∧ L = [box u1 87 [v2, .int .i64 r.at_, .int .u64 r.seed]])) := by
  unfold s_l00From at hm
  refine Calls.enter [v2] Try.func35 rfl Try.ntmps35 rfl ?_
  refine WJ.seq ?_
  refine WJ.quiet ?_
  refine QJ.step (YldS.yld (y_assign rfl)) rfl ?_
  refine QJ.done ?_
  refine PJ.next ?_
  refine WJ.seq ?_
  refine WJ.reg ?_
  refine SJ.q (YldS.yld (y_move rfl)) rfl ?_
  refine SJ.q (YldS.yld (y_build (parts := [(0, .tmp 3)]) (places := [(0, 1), (1, 1), (2, 1)]) (r := [v2, .int .i64 0, .int .u64 0]) pl87 Try.zeroValue87 rfl rfl (show _ = [(0, [v2])] from by simp only [List.map, RdS.cells1 hr3]) rfl)) rfl ?_
  refine SJ.box (cs := [v2, .int .i64 0, .int .u64 0]) rfl rfl rfl fun g4 => ?_
  refine SJ.q (YldS.yld (y_assign rfl)) rfl ?_
  refine SJ.nil ?_
  refine PJ.next ?_
  refine WJ.ret ?_
  obtain rfl := Option.some.inj hm
  refine PJ.sel (L' := [box g4 87 [v2, .int .i64 0, .int .u64 0]]) [0] ⟨by decide, rfl⟩ ?_
  exact PJ.retn (vs := [pt g4 0]) Try.results35 ⟨rfl, trivial⟩ ⟨_, rfl, rfl⟩

set_option maxRecDepth 100000 in
set_option maxHeartbeats 1000000 in
theorem ok_s_l00Src_next {s1 : L00Src} {g2 : Nat} {r : Int × L00Src} (hm : s_l00Src_next s1 = some r) (w : World) (S : Nat → Prop) (v3 : Value) (hr4 : RdS w (Cx.Fz ⟨w, S⟩) v3 fByte.rp s1.code) (hA : (box g2 87 [v3, .int .i64 s1.at_, .int .u64 s1.seed]).holds w S) :
    Calls Try.prog 72 #[pt g2 0] w (RetG ⟨w, S⟩ fun u L => (u = .int .i64 r.1 ∧ L = [box g2 87 [v3, .int .i64 r.2.at_, .int .u64 r.2.seed]])) := by
  unfold s_l00Src_next at hm
  refine Calls.enter1 hA [pt g2 0] Try.func72 rfl Try.ntmps72 rfl ?_
  refine WJ.seq ?_
  refine WJ.quiet ?_
  refine QJ.step (YldS.yld (y_assign rfl)) rfl ?_
  refine QJ.done ?_
  refine PJ.next ?_
  refine WJ.seq ?_
  refine WJ.quiet ?_
  refine QJ.step (YldS.yld (y_assign rfl)) rfl ?_
  refine QJ.done ?_
  refine PJ.next ?_
  obtain ⟨k6, hk7, hm⟩ := withK_open hm
  refine WJ.join (X := Int) (fun (x : Int) => k6 x = some r) (fun (x : Int) => [(0, pt g2 0), (3, .int .i64 x)]) (fun (x : Int) => [box g2 87 [v3, .int .i64 s1.at_, .int .u64 s1.seed]]) ?_ ?_
  · clear hk7
    refine WJ.seq ?_
    refine WJ.quiet_draw follows (by kernel_rfl) ?_
    refine QJ.step (YldS.yld (y_move rfl)) rfl ?_
    refine QJ.step (YldS.yld (y_nil rfl)) rfl ?_
    refine QJ.step (YldS.yld (y_fldB (o := 0) fld87_1 rfl)) rfl ?_
    refine QJ.step (YldS.yld (y_loadB (k := 0) (off := 1) (v := .int .i64 s1.at_) rfl Try.isAgg3 rfl rfl)) rfl ?_
    refine QJ.step (YldS.yld (y_move rfl)) rfl ?_
    refine QJ.step (YldS.yld (y_nil rfl)) rfl ?_
    refine QJ.step (YldS.yld (y_fldB (o := 0) fld87_0 rfl)) rfl ?_
    refine QJ.step (YldS.yld (y_loadB (k := 0) (off := 0) (v := v3) rfl Try.isAgg22 rfl rfl)) rfl ?_
    refine QJ.step (YldS.yld (y_lenS Try.runUnderlying22 hr4 rfl)) rfl ?_
    refine QJ.step (YldS.yld (y_bin rfl rfl rfl)) rfl ?_
    refine QJ.done ?_
    refine PJ.next ?_
    refine WJ.cond (t := decide (s1.at_ < (List.length s1.code : Int))) rfl (fun hb8 => ?_) (fun hb8 => ?_)
    · replace hm := ifT hm hb8
      refine WJ.quiet_draw follows (by kernel_rfl) ?_
      refine QJ.step (YldS.yld (y_move rfl)) rfl ?_
      refine QJ.step (YldS.yld (y_nil rfl)) rfl ?_
      refine QJ.step (YldS.yld (y_fldB (o := 0) fld87_0 rfl)) rfl ?_
      refine QJ.step (YldS.yld (y_loadB (k := 0) (off := 0) (v := v3) rfl Try.isAgg22 rfl rfl)) rfl ?_
      refine QJ.step (YldS.yld (y_move rfl)) rfl ?_
      refine QJ.step (YldS.yld (y_nil rfl)) rfl ?_
      refine QJ.step (YldS.yld (y_fldB (o := 0) fld87_1 rfl)) rfl ?_
      refine QJ.step (YldS.yld (y_loadB (k := 0) (off := 1) (v := .int .i64 s1.at_) rfl Try.isAgg3 rfl rfl)) rfl ?_
      obtain ⟨e9, h10, hm⟩ := bindS hm
      obtain ⟨ad11, _, rfl, ha12, hy13⟩ := hr4.elem h10
      refine QJ.step (YldS.yld (hy13 Try.runUnderlying22 Try.sizeOf5 rfl rfl)) rfl ?_
      refine QJ.step (YldS.yld (y_load1 (v := .int .u8 (UInt8.toNat e9 : Int)) Try.isAgg5 ha12 St.frozenC rfl)) rfl ?_
      refine QJ.step (YldS.yld (y_conv8 Try.runUnderlying5 Try.runUnderlying3 rfl)) rfl ?_
      refine QJ.step (YldS.yld (y_assign rfl)) rfl ?_
      refine QJ.done ?_
      exact PJ.joined (UInt8.toNat e9 : Int) [0] hm ⟨rfl, rfl, trivial⟩ ⟨by decide, rfl⟩
    · replace hm := ifF hm hb8
      refine WJ.skip ?_
      exact PJ.joined 0 [0] hm ⟨rfl, rfl, trivial⟩ ⟨by decide, rfl⟩
  · rintro b5 hm
    subst hk7
    refine WJ.seq ?_
    refine WJ.reg ?_
    refine SJ.q (YldS.yld (y_move rfl)) rfl ?_
    refine SJ.q (YldS.yld (y_nil rfl)) rfl ?_
    refine SJ.q (YldS.yld (y_fldB (o := 0) fld87_1 rfl)) rfl ?_
    refine SJ.q (YldS.yld (y_loadB (k := 0) (off := 1) (v := .int .i64 s1.at_) rfl Try.isAgg3 rfl rfl)) rfl ?_
    refine SJ.q (YldS.yld (y_bin rfl rfl rfl)) rfl ?_
    refine SJ.q (YldS.yld (y_nil rfl)) rfl ?_
    refine SJ.q (YldS.yld (y_fldB (o := 0) fld87_1 rfl)) rfl ?_
    refine SJ.storeL (k := 0) (off := 1) (us := [.int .i64 (w64 (s1.at_ + 1))]) rfl rfl rfl rfl Try.sizeOf3 rfl rfl ?_
    refine SJ.nil ?_
    refine PJ.next ?_
    refine WJ.seq ?_
    refine WJ.reg ?_
    refine SJ.q (YldS.yld (y_move rfl)) rfl ?_
    refine SJ.q (YldS.yld (y_move rfl)) rfl ?_
    refine SJ.q (YldS.yld (y_nil rfl)) rfl ?_
    refine SJ.q (YldS.yld (y_fldB (o := 0) fld87_2 rfl)) rfl ?_
    refine SJ.q (YldS.yld (y_loadB (k := 0) (off := 2) (v := .int .u64 s1.seed) rfl Try.isAgg85 rfl rfl)) rfl ?_
    refine SJ.q (YldS.yld (y_bin rfl rfl rfl)) rfl ?_
    refine SJ.q (YldS.yld (y_move rfl)) rfl ?_
    refine SJ.q (YldS.yld (y_convI Try.runUnderlying3 Try.runUnderlying85 rfl)) rfl ?_
    refine SJ.q (YldS.yld (y_bin rfl rfl rfl)) rfl ?_
    refine SJ.q (YldS.yld (y_bin rfl rfl rfl)) rfl ?_
    refine SJ.q (YldS.yld (y_nil rfl)) rfl ?_
    refine SJ.q (YldS.yld (y_fldB (o := 0) fld87_2 rfl)) rfl ?_
    refine SJ.storeL (k := 0) (off := 2) (us := [.int .u64 (IntKind.u64.wrap ((IntKind.u64.wrap ((IntKind.u64.wrap (s1.seed * 6364136223846793005)) + (IntKind.u64.wrap b5))) + 1442695040888963407))]) rfl rfl rfl rfl Try.sizeOf85 rfl rfl ?_
    refine SJ.nil ?_
    refine PJ.next ?_
    refine WJ.seq ?_
    refine WJ.seq ?_
    refine WJ.quiet_draw follows (by kernel_rfl) ?_
    refine QJ.step (YldS.yld (y_move rfl)) rfl ?_
    refine QJ.step (YldS.yld (y_nil rfl)) rfl ?_
    refine QJ.step (YldS.yld (y_fldB (o := 0) fld87_1 rfl)) rfl ?_
    refine QJ.step (YldS.yld (y_loadB (k := 0) (off := 1) (v := .int .i64 (w64 (s1.at_ + 1))) rfl Try.isAgg3 rfl rfl)) rfl ?_
    refine QJ.step (YldS.yld (y_move rfl)) rfl ?_
    refine QJ.step (YldS.yld (y_nil rfl)) rfl ?_
    refine QJ.step (YldS.yld (y_fldB (o := 0) fld87_0 rfl)) rfl ?_
    refine QJ.step (YldS.yld (y_loadB (k := 0) (off := 0) (v := v3) rfl Try.isAgg22 rfl rfl)) rfl ?_
    refine QJ.step (YldS.yld (y_lenS Try.runUnderlying22 hr4 rfl)) rfl ?_
    refine QJ.step (YldS.yld (y_bin rfl rfl rfl)) rfl ?_
    refine QJ.done ?_
    refine PJ.next ?_
    refine WJ.cond (t := decide ((w64 (s1.at_ + 1)) ≤ (List.length s1.code : Int))) rfl (fun hb14 => ?_) (fun hb14 => ?_)
    · replace hm := ifT hm hb14
      refine WJ.seq ?_
      refine WJ.quiet ?_
      refine QJ.step (YldS.yld (y_move rfl)) rfl ?_
      refine QJ.step (YldS.yld (y_assign rfl)) rfl ?_
      refine QJ.done ?_
      refine PJ.next ?_
      refine WJ.ret ?_
      refine PJ.then_ret ?_
      obtain rfl := Option.some.inj hm
      refine PJ.sel (L' := [box g2 87 [v3, .int .i64 (w64 (s1.at_ + 1)), .int .u64 (IntKind.u64.wrap ((IntKind.u64.wrap ((IntKind.u64.wrap (s1.seed * 6364136223846793005)) + (IntKind.u64.wrap b5))) + 1442695040888963407))]]) [0] ⟨by decide, rfl⟩ ?_
      exact PJ.retn (vs := [.int .i64 b5]) Try.results72 ⟨rfl, trivial⟩ ⟨rfl, rfl⟩
    · replace hm := ifF hm hb14
      refine WJ.skip ?_
      refine PJ.next ?_
      refine WJ.seq ?_
      refine WJ.quiet ?_
      refine QJ.step (YldS.yld (y_move rfl)) rfl ?_
      refine QJ.step (YldS.yld (y_nil rfl)) rfl ?_
      refine QJ.step (YldS.yld (y_fldB (o := 0) fld87_2 rfl)) rfl ?_
      refine QJ.step (YldS.yld (y_loadB (k := 0) (off := 2) (v := .int .u64 (IntKind.u64.wrap ((IntKind.u64.wrap ((IntKind.u64.wrap (s1.seed * 6364136223846793005)) + (IntKind.u64.wrap b5))) + 1442695040888963407))) rfl Try.isAgg85 rfl rfl)) rfl ?_
      refine QJ.step (YldS.yld (y_shru rfl rfl rfl)) rfl ?_
      refine QJ.step (YldS.yld (y_andu rfl rfl rfl)) rfl ?_
      refine QJ.step (YldS.yld (y_convI Try.runUnderlying85 Try.runUnderlying2 rfl)) rfl ?_
      refine QJ.step (YldS.yld (y_assign rfl)) rfl ?_
      refine QJ.done ?_
      refine PJ.next ?_
      refine WJ.ret ?_
      obtain rfl := Option.some.inj hm
      refine PJ.sel (L' := [box g2 87 [v3, .int .i64 (w64 (s1.at_ + 1)), .int .u64 (IntKind.u64.wrap ((IntKind.u64.wrap ((IntKind.u64.wrap (s1.seed * 6364136223846793005)) + (IntKind.u64.wrap b5))) + 1442695040888963407))]]) [0] ⟨by decide, rfl⟩ ?_
      exact PJ.retn (vs := [.int .i64 (w64 (uand (ushr (IntKind.u64.wrap ((IntKind.u64.wrap ((IntKind.u64.wrap (s1.seed * 6364136223846793005)) + (IntKind.u64.wrap b5))) + 1442695040888963407)) 40) 255))]) Try.results72 ⟨rfl, trivial⟩ ⟨rfl, rfl⟩

set_option maxRecDepth 100000 in
set_option maxHeartbeats 1000000 in
theorem ok_s_l00Src_pick {s1 : L00Src} {n5 : Int} {g2 : Nat} {r : Int × L00Src} (hm : s_l00Src_pick s1 n5 = some r) (w : World) (S : Nat → Prop) (v3 : Value) (hr4 : RdS w (Cx.Fz ⟨w, S⟩) v3 fByte.rp s1.code) (hA : (box g2 87 [v3, .int .i64 s1.at_, .int .u64 s1.seed]).holds w S) :
    Calls Try.prog 50 #[pt g2 0, .int .i64 n5] w (RetG ⟨w, S⟩ fun u L => (u = .int .i64 r.1 ∧ L = [box g2 87 [v3, .int .i64 r.2.at_, .int .u64 r.2.seed]])) := by
  unfold s_l00Src_pick at hm
  refine Calls.enter1 hA [pt g2 0, .int .i64 n5] Try.func50 rfl Try.ntmps50 rfl ?_
  refine WJ.seq ?_
  refine WJ.quiet ?_
  refine QJ.step (YldS.yld (y_assign rfl)) rfl ?_
  refine QJ.done ?_
  refine PJ.next ?_
  refine WJ.seq ?_
  refine WJ.seq ?_
  refine WJ.quiet ?_
  refine QJ.step (YldS.yld (y_move rfl)) rfl ?_
  refine QJ.step (YldS.yld (y_bin rfl rfl rfl)) rfl ?_
  refine QJ.done ?_
  refine PJ.next ?_
  refine WJ.cond (t := decide (n5 ≤ 1)) rfl (fun hb6 => ?_) (fun hb6 => ?_)
  · replace hm := ifT hm hb6
    refine WJ.seq ?_
    refine WJ.quiet ?_
    refine QJ.step (YldS.yld (y_assign rfl)) rfl ?_
    refine QJ.done ?_
    refine PJ.next ?_
    refine WJ.ret ?_
    refine PJ.then_ret ?_
    obtain rfl := Option.some.inj hm
    refine PJ.sel (L' := [box g2 87 [v3, .int .i64 s1.at_, .int .u64 s1.seed]]) [0] ⟨by decide, rfl⟩ ?_
    exact PJ.retn (vs := [.int .i64 0]) Try.results50 ⟨rfl, trivial⟩ ⟨rfl, rfl⟩
  · replace hm := ifF hm hb6
    refine WJ.skip ?_
    refine PJ.next ?_
    refine WJ.seq ?_
    refine WJ.reg ?_
    refine SJ.q (YldS.yld (y_move rfl)) rfl ?_
    obtain ⟨r7, h8, hm⟩ := bindS hm
    refine SJ.call1 (k := 0) rfl Try.call72 rfl (fun w S hw hA hO => ok_s_l00Src_next h8 w S _ (hr4.st1 hw hO) hA) rfl ?_
    rintro _ _ ⟨rfl, rfl⟩
    refine SJ.q (YldS.yld (y_assign rfl)) rfl ?_
    refine SJ.nil ?_
    refine PJ.next ?_
    obtain ⟨k12, hk13, hm⟩ := withK_open hm
    refine WJ.join (X := Int × Int × Int) (fun (x : Int × Int × Int) => k12 x.1 x.2.1 x.2.2 = some r) (fun (x : Int × Int × Int) => [(1, .int .i64 n5), (5, .int .i64 x.2.2)]) (fun (x : Int × Int × Int) => [box g2 87 [v3, .int .i64 x.1, .int .u64 x.2.1]]) ?_ ?_
    · clear hk13
      refine WJ.seq ?_
      refine WJ.quiet ?_
      refine QJ.step (YldS.yld (y_move rfl)) rfl ?_
      refine QJ.step (YldS.yld (y_bin rfl rfl rfl)) rfl ?_
      refine QJ.done ?_
      refine PJ.next ?_
      refine WJ.cond (t := decide (n5 > 200)) rfl (fun hb14 => ?_) (fun hb14 => ?_)
      · replace hm := ifT hm hb14
        refine WJ.reg ?_
        refine SJ.q (YldS.yld (y_move rfl)) rfl ?_
        refine SJ.q (YldS.yld (y_bin rfl rfl rfl)) rfl ?_
        refine SJ.q (YldS.yld (y_move rfl)) rfl ?_
        obtain ⟨r15, h16, hm⟩ := bindS hm
        refine SJ.call1 (k := 0) rfl Try.call72 rfl (fun w S hw hA hO => ok_s_l00Src_next h16 w S _ (hr4.st1 hw hO) hA) rfl ?_
        rintro _ _ ⟨rfl, rfl⟩
        refine SJ.q (YldS.yld (y_bin rfl rfl rfl)) rfl ?_
        refine SJ.q (YldS.yld (y_assign rfl)) rfl ?_
        refine SJ.nil ?_
        exact PJ.joined (r15.2.at_, r15.2.seed, w64 ((w64 (r7.1 * 256)) + r15.1)) [0] hm ⟨rfl, rfl, trivial⟩ ⟨by decide, rfl⟩
      · replace hm := ifF hm hb14
        refine WJ.skip ?_
        exact PJ.joined (r7.2.at_, r7.2.seed, r7.1) [0] hm ⟨rfl, rfl, trivial⟩ ⟨by decide, rfl⟩
    · rintro ⟨x9, x10, x11⟩ hm
      subst hk13
      refine WJ.seq ?_
      refine WJ.quiet ?_
      refine QJ.step (YldS.yld (y_move rfl)) rfl ?_
      refine QJ.step (YldS.yld (y_move rfl)) rfl ?_
      obtain ⟨q17, h18, hm⟩ := bindS hm
      refine QJ.step (YldS.yld (y_rem' h18 rfl rfl)) rfl ?_
      refine QJ.step (YldS.yld (y_assign rfl)) rfl ?_
      refine QJ.done ?_
      refine PJ.next ?_
      refine WJ.ret ?_
      obtain rfl := Option.some.inj hm
      refine PJ.sel (L' := [box g2 87 [v3, .int .i64 x9, .int .u64 x10]]) [0] ⟨by decide, rfl⟩ ?_
      exact PJ.retn (vs := [.int .i64 q17]) Try.results50 ⟨rfl, trivial⟩ ⟨rfl, rfl⟩

set_option maxRecDepth 100000 in
set_option maxHeartbeats 1000000 in
theorem ok_s_l00Src_text {s1 : L00Src} {list5 : List Str} {g2 : Nat} {r : Str × L00Src} (hm : s_l00Src_text s1 list5 = some r) (w : World) (S : Nat → Prop) (v3 : Value) (hr4 : RdS w (Cx.Fz ⟨w, S⟩) v3 fByte.rp s1.code) (v6 : Value) (hr7 : RdS w (Cx.Fz ⟨w, S⟩) v6 fStr.rp list5) (hA : (box g2 87 [v3, .int .i64 s1.at_, .int .u64 s1.seed]).holds w S) :
    Calls Try.prog 37 #[pt g2 0, v6] w (RetG ⟨w, S⟩ fun u L => (u = str r.1 ∧ L = [box g2 87 [v3, .int .i64 r.2.at_, .int .u64 r.2.seed]])) := by
  unfold s_l00Src_text at hm
  refine Calls.enter1 hA [pt g2 0, v6] Try.func37 rfl Try.ntmps37 rfl ?_
  refine WJ.seq ?_
  refine WJ.quiet ?_
  refine QJ.step (YldS.yld (y_assign rfl)) rfl ?_
  refine QJ.done ?_
  refine PJ.next ?_
  refine WJ.seq ?_
  refine WJ.reg ?_
  refine SJ.q (YldS.yld (y_move rfl)) rfl ?_
  refine SJ.q (YldS.yld (y_move rfl)) rfl ?_
  refine SJ.q (YldS.yld (y_move rfl)) rfl ?_
  refine SJ.q (YldS.yld (y_lenS Try.runUnderlying38 hr7 rfl)) rfl ?_
  obtain ⟨r8, h9, hm⟩ := bindS hm
  refine SJ.call1 (k := 0) rfl Try.call50 rfl (fun w S hw hA hO => ok_s_l00Src_pick h9 w S _ (hr4.st1 hw hO) hA) rfl ?_
  rintro _ _ ⟨rfl, rfl⟩
  obtain ⟨e10, h11, hm⟩ := bindS hm
  obtain ⟨ad12, _, rfl, ha13, hy14⟩ := hr7.elem h11
  refine SJ.q (YldS.yld (hy14 Try.runUnderlying38 Try.sizeOf9 rfl rfl)) rfl ?_
  refine SJ.q (YldS.yld (y_load1 (v := str e10) Try.isAgg9 ha13 St.frozenC rfl)) rfl ?_
  refine SJ.q (YldS.yld (y_assign rfl)) rfl ?_
  refine SJ.nil ?_
  refine PJ.next ?_
  refine WJ.ret ?_
  obtain rfl := Option.some.inj hm
  refine PJ.sel (L' := [box g2 87 [v3, .int .i64 r8.2.at_, .int .u64 r8.2.seed]]) [0] ⟨by decide, rfl⟩ ?_
  exact PJ.retn (vs := [str e10]) Try.results37 ⟨rfl, trivial⟩ ⟨rfl, rfl⟩

set_option maxRecDepth 100000 in
set_option maxHeartbeats 1000000 in
theorem ok_s_l02Letter {s1 : Str} {r : Bool} (hm : s_l02Letter s1 = some r) (w : World)  :
    Calls Try.prog 73 #[str s1] w (Ret (cx w) (.bool r)) := by
  unfold s_l02Letter at hm
  refine Calls.enter [str s1] Try.func73 rfl Try.ntmps73 rfl ?_
  refine WJ.seq ?_
  refine WJ.quiet ?_
  refine QJ.step (YldS.yld (y_assign rfl)) rfl ?_
  refine QJ.done ?_
  refine PJ.next ?_
  refine WJ.seq ?_
  refine WJ.quiet ?_
  refine QJ.step (YldS.yld (y_move rfl)) rfl ?_
  refine QJ.step (YldS.yld (y_lenStr Try.runUnderlying9 rfl)) rfl ?_
  refine QJ.step (YldS.yld (y_bin rfl rfl rfl)) rfl ?_
  refine QJ.step (YldS.yld (y_move rfl)) rfl ?_
  obtain ⟨t2, h3, hm⟩ := bindS hm
  refine QJ.cut 4 [(0, str s1), (10, .bool t2)] ?_ ?_
  · rcases Bool.eq_false_or_eq_true ((List.length s1 : Int) == 1) with hb4 | hb4
    · replace h3 := andT h3 hb4
      refine QJ.on rfl rfl (cB hb4) (YldS.yld (y_move rfl)) rfl ?_
      obtain ⟨c5, h6, h3⟩ := bindS h3
      refine QJ.on rfl rfl (cB hb4) (YldS.yld (y_idxStr Try.runUnderlying9 rfl rfl h6)) rfl ?_
      refine QJ.on rfl rfl (cB hb4) (YldS.yld (y_bin8 c5 (32 : UInt8) rfl rfl rfl)) rfl ?_
      refine QJ.step (YldS.yld (y_pick_t (cB hb4) rfl)) rfl ?_
      obtain rfl := Option.some.inj h3
      exact QJ.cut_end ⟨rfl, rfl, trivial⟩
    · obtain rfl := andF h3 hb4
      refine QJ.off rfl rfl (cB hb4) rfl rfl ?_
      refine QJ.off rfl rfl (cB hb4) rfl rfl ?_
      refine QJ.off rfl rfl (cB hb4) rfl rfl ?_
      refine QJ.step (YldS.yld (y_pick_f (cB hb4) rfl)) rfl ?_
      exact QJ.cut_end ⟨rfl, rfl, trivial⟩
  refine QJ.step (YldS.yld (y_move rfl)) rfl ?_
  obtain ⟨t7, h8, hm⟩ := bindS hm
  refine QJ.cut 4 [(15, .bool t7)] ?_ ?_
  · rcases Bool.eq_false_or_eq_true t2 with hb9 | hb9
    · replace h8 := andT h8 hb9
      refine QJ.on rfl rfl (cB hb9) (YldS.yld (y_move rfl)) rfl ?_
      obtain ⟨c10, h11, h8⟩ := bindS h8
      refine QJ.on rfl rfl (cB hb9) (YldS.yld (y_idxStr Try.runUnderlying9 rfl rfl h11)) rfl ?_
      refine QJ.on rfl rfl (cB hb9) (YldS.yld (y_bin8 c10 (127 : UInt8) rfl rfl rfl)) rfl ?_
      refine QJ.step (YldS.yld (y_pick_t (cB hb9) rfl)) rfl ?_
      obtain rfl := Option.some.inj h8
      exact QJ.cut_end ⟨rfl, trivial⟩
    · obtain rfl := andF h8 hb9
      refine QJ.off rfl rfl (cB hb9) rfl rfl ?_
      refine QJ.off rfl rfl (cB hb9) rfl rfl ?_
      refine QJ.off rfl rfl (cB hb9) rfl rfl ?_
      refine QJ.step (YldS.yld (y_pick_f (cB hb9) rfl)) rfl ?_
      exact QJ.cut_end ⟨rfl, trivial⟩
  refine QJ.step (YldS.yld (y_assign rfl)) rfl ?_
  refine QJ.done ?_
  refine PJ.next ?_
  refine WJ.ret ?_
  obtain rfl := Option.some.inj hm
  refine PJ.sel (L' := []) [] ⟨List.nodup_nil, rfl⟩ ?_
  exact PJ.retn (vs := [.bool t7]) Try.results73 ⟨rfl, trivial⟩ ⟨rfl, rfl⟩

set_option maxRecDepth 100000 in
set_option maxHeartbeats 1000000 in
theorem ok_s_l12One {x1 : Over} {r : Bool} (hm : s_l12One x1 = some r) (w : World) (ad2 : Addr) (ha3 : At w (cx w).Fz ad2 (fOver.enc x1)) :
    Calls Try.prog 60 #[.pointer (some ad2)] w (Ret (cx w) (.bool r)) := by
  unfold s_l12One at hm
  refine Calls.enter [.pointer (some ad2)] Try.func60 rfl Try.ntmps60 rfl ?_
  refine WJ.seq ?_
  refine WJ.quiet ?_
  refine QJ.step (YldS.yld (y_assign rfl)) rfl ?_
  refine QJ.done ?_
  refine PJ.next ?_
  refine WJ.seq ?_
  refine WJ.quiet_draw follows (by kernel_rfl) ?_
  refine QJ.step (YldS.yld (y_move rfl)) rfl ?_
  refine QJ.step (YldS.yld (y_nil rfl)) rfl ?_
  refine QJ.step (YldS.yld (y_fld (ad := ad2) fld42_0 rfl)) rfl ?_
  refine QJ.step (YldS.yld (y_load1 (v := str x1.under) Try.isAgg9 (ha3.sub 0 1) St.frozenC rfl)) rfl ?_
  obtain ⟨r4, h5, hm⟩ := bindS hm
  refine QJ.step (y_call Try.call73 rfl (RetG.quiet fun w hw => ok_s_l02Letter h5 w )) rfl ?_
  refine QJ.step (YldS.yld (y_move rfl)) rfl ?_
  obtain ⟨t6, h7, hm⟩ := bindS hm
  refine QJ.cut 6 [(0, .pointer (some ad2)), (14, .bool t6)] ?_ ?_
  · rcases Bool.eq_false_or_eq_true r4 with hb8 | hb8
    · replace h7 := andT h7 hb8
      refine QJ.on rfl rfl (cB hb8) (YldS.yld (y_move rfl)) rfl ?_
      refine QJ.on rfl rfl (cB hb8) (YldS.yld (y_nil rfl)) rfl ?_
      refine QJ.on rfl rfl (cB hb8) (YldS.yld (y_fld (ad := ad2) fld42_1 rfl)) rfl ?_
      refine QJ.on rfl rfl (cB hb8) (YldS.yld (y_load1 (v := str x1.top) Try.isAgg9 (ha3.sub 1 1) St.frozenC rfl)) rfl ?_
      obtain ⟨r9, h10, h7⟩ := bindS h7
      refine QJ.on rfl rfl (cB hb8) (y_call Try.call73 rfl (RetG.quiet fun w hw => ok_s_l02Letter h10 w )) rfl ?_
      refine QJ.step (YldS.yld (y_pick_t (cB hb8) rfl)) rfl ?_
      obtain rfl := Option.some.inj h7
      exact QJ.cut_end ⟨rfl, rfl, trivial⟩
    · obtain rfl := andF h7 hb8
      refine QJ.off rfl rfl (cB hb8) rfl rfl ?_
      refine QJ.off rfl rfl (cB hb8) rfl rfl ?_
      refine QJ.off rfl rfl (cB hb8) rfl rfl ?_
      refine QJ.off rfl rfl (cB hb8) rfl rfl ?_
      refine QJ.off rfl rfl (cB hb8) rfl rfl ?_
      refine QJ.step (YldS.yld (y_pick_f (cB hb8) rfl)) rfl ?_
      exact QJ.cut_end ⟨rfl, rfl, trivial⟩
  refine QJ.step (YldS.yld (y_move rfl)) rfl ?_
  obtain ⟨t11, h12, hm⟩ := bindS hm
  refine QJ.cut 6 [(0, .pointer (some ad2)), (21, .bool t11)] ?_ ?_
  · rcases Bool.eq_false_or_eq_true t6 with hb13 | hb13
    · replace h12 := andT h12 hb13
      refine QJ.on rfl rfl (cB hb13) (YldS.yld (y_move rfl)) rfl ?_
      refine QJ.on rfl rfl (cB hb13) (YldS.yld (y_nil rfl)) rfl ?_
      refine QJ.on rfl rfl (cB hb13) (YldS.yld (y_fld (ad := ad2) fld42_2 rfl)) rfl ?_
      refine QJ.on rfl rfl (cB hb13) (YldS.yld (y_load1 (v := str x1.seen) Try.isAgg9 (ha3.sub 2 1) St.frozenC rfl)) rfl ?_
      obtain ⟨r14, h15, h12⟩ := bindS h12
      refine QJ.on rfl rfl (cB hb13) (y_call Try.call73 rfl (RetG.quiet fun w hw => ok_s_l02Letter h15 w )) rfl ?_
      refine QJ.step (YldS.yld (y_pick_t (cB hb13) rfl)) rfl ?_
      obtain rfl := Option.some.inj h12
      exact QJ.cut_end ⟨rfl, rfl, trivial⟩
    · obtain rfl := andF h12 hb13
      refine QJ.off rfl rfl (cB hb13) rfl rfl ?_
      refine QJ.off rfl rfl (cB hb13) rfl rfl ?_
      refine QJ.off rfl rfl (cB hb13) rfl rfl ?_
      refine QJ.off rfl rfl (cB hb13) rfl rfl ?_
      refine QJ.off rfl rfl (cB hb13) rfl rfl ?_
      refine QJ.step (YldS.yld (y_pick_f (cB hb13) rfl)) rfl ?_
      exact QJ.cut_end ⟨rfl, rfl, trivial⟩
  refine QJ.step (YldS.yld (y_move rfl)) rfl ?_
  obtain ⟨t16, h17, hm⟩ := bindS hm
  refine QJ.cut 10 [(0, .pointer (some ad2)), (32, .bool t16)] ?_ ?_
  · rcases Bool.eq_false_or_eq_true t11 with hb18 | hb18
    · replace h17 := andT h17 hb18
      refine QJ.on rfl rfl (cB hb18) (YldS.yld (y_move rfl)) rfl ?_
      refine QJ.on rfl rfl (cB hb18) (YldS.yld (y_nil rfl)) rfl ?_
      refine QJ.on rfl rfl (cB hb18) (YldS.yld (y_fld (ad := ad2) fld42_0 rfl)) rfl ?_
      refine QJ.on rfl rfl (cB hb18) (YldS.yld (y_load1 (v := str x1.under) Try.isAgg9 (ha3.sub 0 1) St.frozenC rfl)) rfl ?_
      refine QJ.on rfl rfl (cB hb18) (YldS.yld (y_move rfl)) rfl ?_
      refine QJ.on rfl rfl (cB hb18) (YldS.yld (y_nil rfl)) rfl ?_
      refine QJ.on rfl rfl (cB hb18) (YldS.yld (y_fld (ad := ad2) fld42_2 rfl)) rfl ?_
      refine QJ.on rfl rfl (cB hb18) (YldS.yld (y_load1 (v := str x1.seen) Try.isAgg9 (ha3.sub 2 1) St.frozenC rfl)) rfl ?_
      refine QJ.on rfl rfl (cB hb18) (YldS.yld (y_binS rfl rfl rfl)) rfl ?_
      refine QJ.step (YldS.yld (y_pick_t (cB hb18) rfl)) rfl ?_
      obtain rfl := Option.some.inj h17
      exact QJ.cut_end ⟨rfl, rfl, trivial⟩
    · obtain rfl := andF h17 hb18
      refine QJ.off rfl rfl (cB hb18) rfl rfl ?_
      refine QJ.off rfl rfl (cB hb18) rfl rfl ?_
      refine QJ.off rfl rfl (cB hb18) rfl rfl ?_
      refine QJ.off rfl rfl (cB hb18) rfl rfl ?_
      refine QJ.off rfl rfl (cB hb18) rfl rfl ?_
      refine QJ.off rfl rfl (cB hb18) rfl rfl ?_
      refine QJ.off rfl rfl (cB hb18) rfl rfl ?_
      refine QJ.off rfl rfl (cB hb18) rfl rfl ?_
      refine QJ.off rfl rfl (cB hb18) rfl rfl ?_
      refine QJ.step (YldS.yld (y_pick_f (cB hb18) rfl)) rfl ?_
      exact QJ.cut_end ⟨rfl, rfl, trivial⟩
  refine QJ.step (YldS.yld (y_move rfl)) rfl ?_
  obtain ⟨t19, h20, hm⟩ := bindS hm
  refine QJ.cut 10 [(0, .pointer (some ad2)), (43, .bool t19)] ?_ ?_
  · rcases Bool.eq_false_or_eq_true t16 with hb21 | hb21
    · replace h20 := andT h20 hb21
      refine QJ.on rfl rfl (cB hb21) (YldS.yld (y_move rfl)) rfl ?_
      refine QJ.on rfl rfl (cB hb21) (YldS.yld (y_nil rfl)) rfl ?_
      refine QJ.on rfl rfl (cB hb21) (YldS.yld (y_fld (ad := ad2) fld42_1 rfl)) rfl ?_
      refine QJ.on rfl rfl (cB hb21) (YldS.yld (y_load1 (v := str x1.top) Try.isAgg9 (ha3.sub 1 1) St.frozenC rfl)) rfl ?_
      refine QJ.on rfl rfl (cB hb21) (YldS.yld (y_move rfl)) rfl ?_
      refine QJ.on rfl rfl (cB hb21) (YldS.yld (y_nil rfl)) rfl ?_
      refine QJ.on rfl rfl (cB hb21) (YldS.yld (y_fld (ad := ad2) fld42_2 rfl)) rfl ?_
      refine QJ.on rfl rfl (cB hb21) (YldS.yld (y_load1 (v := str x1.seen) Try.isAgg9 (ha3.sub 2 1) St.frozenC rfl)) rfl ?_
      refine QJ.on rfl rfl (cB hb21) (YldS.yld (y_binS rfl rfl rfl)) rfl ?_
      refine QJ.step (YldS.yld (y_pick_t (cB hb21) rfl)) rfl ?_
      obtain rfl := Option.some.inj h20
      exact QJ.cut_end ⟨rfl, rfl, trivial⟩
    · obtain rfl := andF h20 hb21
      refine QJ.off rfl rfl (cB hb21) rfl rfl ?_
      refine QJ.off rfl rfl (cB hb21) rfl rfl ?_
      refine QJ.off rfl rfl (cB hb21) rfl rfl ?_
      refine QJ.off rfl rfl (cB hb21) rfl rfl ?_
      refine QJ.off rfl rfl (cB hb21) rfl rfl ?_
      refine QJ.off rfl rfl (cB hb21) rfl rfl ?_
      refine QJ.off rfl rfl (cB hb21) rfl rfl ?_
      refine QJ.off rfl rfl (cB hb21) rfl rfl ?_
      refine QJ.off rfl rfl (cB hb21) rfl rfl ?_
      refine QJ.step (YldS.yld (y_pick_f (cB hb21) rfl)) rfl ?_
      exact QJ.cut_end ⟨rfl, rfl, trivial⟩
  refine QJ.step (YldS.yld (y_move rfl)) rfl ?_
  obtain ⟨t22, h23, hm⟩ := bindS hm
  refine QJ.cut 10 [(54, .bool t22)] ?_ ?_
  · rcases Bool.eq_false_or_eq_true t19 with hb24 | hb24
    · replace h23 := andT h23 hb24
      refine QJ.on rfl rfl (cB hb24) (YldS.yld (y_move rfl)) rfl ?_
      refine QJ.on rfl rfl (cB hb24) (YldS.yld (y_nil rfl)) rfl ?_
      refine QJ.on rfl rfl (cB hb24) (YldS.yld (y_fld (ad := ad2) fld42_0 rfl)) rfl ?_
      refine QJ.on rfl rfl (cB hb24) (YldS.yld (y_load1 (v := str x1.under) Try.isAgg9 (ha3.sub 0 1) St.frozenC rfl)) rfl ?_
      refine QJ.on rfl rfl (cB hb24) (YldS.yld (y_move rfl)) rfl ?_
      refine QJ.on rfl rfl (cB hb24) (YldS.yld (y_nil rfl)) rfl ?_
      refine QJ.on rfl rfl (cB hb24) (YldS.yld (y_fld (ad := ad2) fld42_1 rfl)) rfl ?_
      refine QJ.on rfl rfl (cB hb24) (YldS.yld (y_load1 (v := str x1.top) Try.isAgg9 (ha3.sub 1 1) St.frozenC rfl)) rfl ?_
      refine QJ.on rfl rfl (cB hb24) (YldS.yld (y_binS rfl rfl rfl)) rfl ?_
      refine QJ.step (YldS.yld (y_pick_t (cB hb24) rfl)) rfl ?_
      obtain rfl := Option.some.inj h23
      exact QJ.cut_end ⟨rfl, trivial⟩
    · obtain rfl := andF h23 hb24
      refine QJ.off rfl rfl (cB hb24) rfl rfl ?_
      refine QJ.off rfl rfl (cB hb24) rfl rfl ?_
      refine QJ.off rfl rfl (cB hb24) rfl rfl ?_
      refine QJ.off rfl rfl (cB hb24) rfl rfl ?_
      refine QJ.off rfl rfl (cB hb24) rfl rfl ?_
      refine QJ.off rfl rfl (cB hb24) rfl rfl ?_
      refine QJ.off rfl rfl (cB hb24) rfl rfl ?_
      refine QJ.off rfl rfl (cB hb24) rfl rfl ?_
      refine QJ.off rfl rfl (cB hb24) rfl rfl ?_
      refine QJ.step (YldS.yld (y_pick_f (cB hb24) rfl)) rfl ?_
      exact QJ.cut_end ⟨rfl, trivial⟩
  refine QJ.step (YldS.yld (y_assign rfl)) rfl ?_
  refine QJ.done ?_
  refine PJ.next ?_
  refine WJ.ret ?_
  obtain rfl := Option.some.inj hm
  refine PJ.sel (L' := []) [] ⟨List.nodup_nil, rfl⟩ ?_
  exact PJ.retn (vs := [.bool t22]) Try.results60 ⟨rfl, trivial⟩ ⟨rfl, rfl⟩

set_option maxRecDepth 100000 in
set_option maxHeartbeats 1000000 in
theorem ok_s_l12Ok {N : Nat} {rules1 : List Over} {r : Bool} (hm : s_l12Ok N rules1 = some r) (w : World) (v2 : Value) (hr3 : RdS w (cx w).Fz v2 fOver.rp rules1) :
    Calls Try.prog 41 #[v2] w (Ret (cx w) (.bool r)) := by
  unfold s_l12Ok at hm
  refine Calls.enter [v2] Try.func41 rfl Try.ntmps41 rfl ?_
  refine WJ.seq ?_
  refine WJ.quiet ?_
  refine QJ.step (YldS.yld (y_assign rfl)) rfl ?_
  refine QJ.done ?_
  refine PJ.next ?_
  obtain ⟨k4, hk5, hm⟩ := withK_open hm
  refine WJ.join (X := Unit) (fun (_ : Unit) => k4  = some r) (fun (_ : Unit) => [(0, v2)]) (fun (_ : Unit) => []) ?_ ?_
  · clear hk5
    refine WJ.seq ?_
    refine WJ.quiet ?_
    refine QJ.step (YldS.yld (y_assign rfl)) rfl ?_
    refine QJ.done ?_
    refine PJ.next ?_
    refine WJ.block ?_
    refine WJ.sel (L' := (fun (x : Int) => []) 0) [] ⟨List.nodup_nil, rfl⟩ ?_
    refine WJ.sub (m' := (fun (x : Int) => [(0, v2), (3, .int .i64 x)]) 0) ⟨rfl, rfl, trivial⟩ ?_
    refine WJ.loop (X := Int) (fun N (x : Int) => s_l12Ok_l1 k4 rules1 N x = some r) (fun (x : Int) => [(0, v2), (3, .int .i64 x)]) (fun (x : Int) => []) ?_ N 0 hm
    · rintro N i6 hI
      have hm := hI; clear hI
      cases N with
      | zero => cases hm
      | succ N =>
      unfold s_l12Ok_l1 at hm
      refine WJ.seq ?_
      refine WJ.seq ?_
      refine WJ.quiet ?_
      refine QJ.step (YldS.yld (y_move rfl)) rfl ?_
      refine QJ.step (YldS.yld (y_move rfl)) rfl ?_
      refine QJ.step (YldS.yld (y_lenS Try.runUnderlying24 hr3 rfl)) rfl ?_
      refine QJ.step (YldS.yld (y_bin rfl rfl rfl)) rfl ?_
      refine QJ.done ?_
      refine PJ.next ?_
      refine WJ.cond (t := decide (i6 < (List.length rules1 : Int))) rfl (fun hb7 => ?_) (fun hb7 => ?_)
      · replace hm := ifT hm hb7
        refine WJ.skip ?_
        refine PJ.next ?_
        obtain ⟨k9, hk9, hm⟩ := withK_open hm
        refine WJ.join (X := Unit) (fun (_ : Unit) => k9  = some r) (fun (_ : Unit) => [(0, v2), (3, .int .i64 i6)]) (fun (_ : Unit) => []) ?_ ?_
        · clear hk9
          refine WJ.block ?_
          refine WJ.seq ?_
          refine WJ.seq ?_
          refine WJ.quiet ?_
          refine QJ.step (YldS.yld (y_move rfl)) rfl ?_
          refine QJ.step (YldS.yld (y_move rfl)) rfl ?_
          obtain ⟨e10, h11, hm⟩ := bindS hm
          obtain ⟨ad12, _, rfl, ha13, hy14⟩ := hr3.elem h11
          refine QJ.step (YldS.yld (hy14 Try.runUnderlying24 Try.sizeOf42 rfl rfl)) rfl ?_
          obtain ⟨r15, h16, hm⟩ := bindS hm
          refine QJ.step (y_call Try.call60 rfl (RetG.quiet fun w hw => ok_s_l12One h16 w _ (ha13.st hw))) rfl ?_
          refine QJ.step (YldS.yld (y_not rfl)) rfl ?_
          refine QJ.done ?_
          refine PJ.next ?_
          refine WJ.cond (t := !r15) rfl (fun hb17 => ?_) (fun hb17 => ?_)
          · replace hm := ifT hm hb17
            refine WJ.seq ?_
            refine WJ.quiet ?_
            refine QJ.step (YldS.yld (y_assign rfl)) rfl ?_
            refine QJ.done ?_
            refine PJ.next ?_
            refine WJ.ret ?_
            refine PJ.then_ret (PJ.block_ret (PJ.then_ret (PJ.then_ret (PJ.block_ret (PJ.then_ret ?_)))))
            obtain rfl := Option.some.inj hm
            refine PJ.sel (L' := []) [] ⟨List.nodup_nil, rfl⟩ ?_
            exact PJ.retn (vs := [.bool false]) Try.results41 ⟨rfl, trivial⟩ ⟨rfl, rfl⟩
          · replace hm := ifF hm hb17
            refine WJ.skip ?_
            refine PJ.next ?_
            refine WJ.seq ?_
            refine WJ.quiet ?_
            refine QJ.step (YldS.yld (y_assign rfl)) rfl ?_
            refine QJ.done ?_
            refine PJ.next ?_
            refine WJ.block ?_
            refine WJ.sel (L' := (fun (x : Int) => []) 0) [] ⟨List.nodup_nil, rfl⟩ ?_
            refine WJ.sub (m' := (fun (x : Int) => [(0, v2), (3, .int .i64 i6), (4, .int .i64 x)]) 0) ⟨rfl, rfl, rfl, trivial⟩ ?_
            refine WJ.loop (X := Int) (fun N (x : Int) => s_l12Ok_l2 k9 rules1 i6 N x = some r) (fun (x : Int) => [(0, v2), (3, .int .i64 i6), (4, .int .i64 x)]) (fun (x : Int) => []) ?_ N 0 hm
            · rintro N k18 hI
              have hm := hI; clear hI
              cases N with
              | zero => cases hm
              | succ N =>
              unfold s_l12Ok_l2 at hm
              refine WJ.seq ?_
              refine WJ.seq ?_
              refine WJ.quiet ?_
              refine QJ.step (YldS.yld (y_move rfl)) rfl ?_
              refine QJ.step (YldS.yld (y_move rfl)) rfl ?_
              refine QJ.step (YldS.yld (y_bin rfl rfl rfl)) rfl ?_
              refine QJ.done ?_
              refine PJ.next ?_
              refine WJ.cond (t := decide (k18 < i6)) rfl (fun hb19 => ?_) (fun hb19 => ?_)
              · replace hm := ifT hm hb19
                refine WJ.skip ?_
                refine PJ.next ?_
                refine WJ.seq ?_
                refine WJ.block ?_
                refine WJ.seq ?_
                refine WJ.quiet_draw follows (by kernel_rfl) ?_
                refine QJ.step (YldS.yld (y_move rfl)) rfl ?_
                refine QJ.step (YldS.yld (y_move rfl)) rfl ?_
                obtain ⟨e20, h21, hm⟩ := bindS hm
                obtain ⟨ad22, _, rfl, ha23, hy24⟩ := hr3.elem h21
                refine QJ.step (YldS.yld (hy24 Try.runUnderlying24 Try.sizeOf42 rfl rfl)) rfl ?_
                refine QJ.step (YldS.yld (y_fld (ad := ad22) fld42_0 rfl)) rfl ?_
                refine QJ.step (YldS.yld (y_load1 (v := str e20.under) Try.isAgg9 (ha23.sub 0 1) St.frozenC rfl)) rfl ?_
                refine QJ.step (YldS.yld (y_move rfl)) rfl ?_
                refine QJ.step (YldS.yld (y_move rfl)) rfl ?_
                obtain ⟨e25, h26, hm⟩ := bindS hm
                obtain ⟨ad27, _, rfl, ha28, hy29⟩ := hr3.elem h26
                refine QJ.step (YldS.yld (hy29 Try.runUnderlying24 Try.sizeOf42 rfl rfl)) rfl ?_
                refine QJ.step (YldS.yld (y_fld (ad := ad27) fld42_0 rfl)) rfl ?_
                refine QJ.step (YldS.yld (y_load1 (v := str e25.under) Try.isAgg9 (ha28.sub 0 1) St.frozenC rfl)) rfl ?_
                refine QJ.step (YldS.yld (y_binS rfl rfl rfl)) rfl ?_
                refine QJ.step (YldS.yld (y_move rfl)) rfl ?_
                obtain ⟨t30, h31, hm⟩ := bindS hm
                refine QJ.cut 12 [(0, v2), (3, .int .i64 i6), (4, .int .i64 k18), (44, .bool t30)] ?_ ?_
                · rcases Bool.eq_false_or_eq_true (e20.under == e25.under) with hb32 | hb32
                  · replace h31 := andT h31 hb32
                    refine QJ.on rfl rfl (cB hb32) (YldS.yld (y_move rfl)) rfl ?_
                    refine QJ.on rfl rfl (cB hb32) (YldS.yld (y_move rfl)) rfl ?_
                    obtain ⟨e33, h34, h31⟩ := bindS h31
                    obtain ⟨ad35, _, rfl, ha36, hy37⟩ := hr3.elem h34
                    refine QJ.on rfl rfl (cB hb32) (YldS.yld (hy37 Try.runUnderlying24 Try.sizeOf42 rfl rfl)) rfl ?_
                    refine QJ.on rfl rfl (cB hb32) (YldS.yld (y_fld (ad := ad35) fld42_1 rfl)) rfl ?_
                    refine QJ.on rfl rfl (cB hb32) (YldS.yld (y_load1 (v := str e33.top) Try.isAgg9 (ha36.sub 1 1) St.frozenC rfl)) rfl ?_
                    refine QJ.on rfl rfl (cB hb32) (YldS.yld (y_move rfl)) rfl ?_
                    refine QJ.on rfl rfl (cB hb32) (YldS.yld (y_move rfl)) rfl ?_
                    obtain ⟨e38, h39, h31⟩ := bindS h31
                    obtain ⟨ad40, _, rfl, ha41, hy42⟩ := hr3.elem h39
                    refine QJ.on rfl rfl (cB hb32) (YldS.yld (hy42 Try.runUnderlying24 Try.sizeOf42 rfl rfl)) rfl ?_
                    refine QJ.on rfl rfl (cB hb32) (YldS.yld (y_fld (ad := ad40) fld42_1 rfl)) rfl ?_
                    refine QJ.on rfl rfl (cB hb32) (YldS.yld (y_load1 (v := str e38.top) Try.isAgg9 (ha41.sub 1 1) St.frozenC rfl)) rfl ?_
                    refine QJ.on rfl rfl (cB hb32) (YldS.yld (y_binS rfl rfl rfl)) rfl ?_
                    refine QJ.step (YldS.yld (y_pick_t (cB hb32) rfl)) rfl ?_
                    obtain rfl := Option.some.inj h31
                    exact QJ.cut_end ⟨rfl, rfl, rfl, rfl, trivial⟩
                  · obtain rfl := andF h31 hb32
                    refine QJ.off rfl rfl (cB hb32) rfl rfl ?_
                    refine QJ.off rfl rfl (cB hb32) rfl rfl ?_
                    refine QJ.off rfl rfl (cB hb32) rfl rfl ?_
                    refine QJ.off rfl rfl (cB hb32) rfl rfl ?_
                    refine QJ.off rfl rfl (cB hb32) rfl rfl ?_
                    refine QJ.off rfl rfl (cB hb32) rfl rfl ?_
                    refine QJ.off rfl rfl (cB hb32) rfl rfl ?_
                    refine QJ.off rfl rfl (cB hb32) rfl rfl ?_
                    refine QJ.off rfl rfl (cB hb32) rfl rfl ?_
                    refine QJ.off rfl rfl (cB hb32) rfl rfl ?_
                    refine QJ.off rfl rfl (cB hb32) rfl rfl ?_
                    refine QJ.step (YldS.yld (y_pick_f (cB hb32) rfl)) rfl ?_
                    exact QJ.cut_end ⟨rfl, rfl, rfl, rfl, trivial⟩
                refine QJ.done ?_
                refine PJ.next ?_
                refine WJ.cond (t := t30) rfl (fun hb43 => ?_) (fun hb43 => ?_)
                · replace hm := ifT hm hb43
                  refine WJ.seq ?_
                  refine WJ.quiet ?_
                  refine QJ.step (YldS.yld (y_assign rfl)) rfl ?_
                  refine QJ.done ?_
                  refine PJ.next ?_
                  refine WJ.ret ?_
                  refine PJ.block_ret (PJ.then_ret (PJ.then_ret (PJ.block_ret (PJ.block_ret (PJ.then_ret (PJ.then_ret (PJ.block_ret (PJ.then_ret ?_))))))))
                  obtain rfl := Option.some.inj hm
                  refine PJ.sel (L' := []) [] ⟨List.nodup_nil, rfl⟩ ?_
                  exact PJ.retn (vs := [.bool false]) Try.results41 ⟨rfl, trivial⟩ ⟨rfl, rfl⟩
                · replace hm := ifF hm hb43
                  refine WJ.skip ?_
                  refine PJ.block_normal (PJ.next ?_)
                  refine WJ.quiet ?_
                  refine QJ.step (YldS.yld (y_move rfl)) rfl ?_
                  refine QJ.step (YldS.yld (y_bin rfl rfl rfl)) rfl ?_
                  refine QJ.step (YldS.yld (y_assign rfl)) rfl ?_
                  refine QJ.done ?_
                  exact PJ.round (w64 (k18 + 1)) [] hm ⟨rfl, rfl, rfl, trivial⟩ ⟨List.nodup_nil, rfl⟩
              · replace hm := ifF hm hb19
                refine WJ.exit ?_
                refine PJ.then_exit (PJ.then_exit (PJ.block_exit (PJ.block_normal ?_)))
                exact PJ.joined () [] hm ⟨rfl, rfl, trivial⟩ ⟨List.nodup_nil, rfl⟩
        · rintro _ hm
          subst hk9
          refine WJ.quiet ?_
          refine QJ.step (YldS.yld (y_move rfl)) rfl ?_
          refine QJ.step (YldS.yld (y_bin rfl rfl rfl)) rfl ?_
          refine QJ.step (YldS.yld (y_assign rfl)) rfl ?_
          refine QJ.done ?_
          exact PJ.round (w64 (i6 + 1)) [] hm ⟨rfl, rfl, trivial⟩ ⟨List.nodup_nil, rfl⟩
      · replace hm := ifF hm hb7
        refine WJ.exit ?_
        refine PJ.then_exit (PJ.then_exit (PJ.block_exit ?_))
        exact PJ.joined () [] hm ⟨rfl, trivial⟩ ⟨List.nodup_nil, rfl⟩
  · rintro _ hm
    subst hk5
    refine WJ.seq ?_
    refine WJ.quiet ?_
    refine QJ.step (YldS.yld (y_move rfl)) rfl ?_
    refine QJ.step (YldS.yld (y_lenS Try.runUnderlying24 hr3 rfl)) rfl ?_
    refine QJ.step (YldS.yld (y_bin rfl rfl rfl)) rfl ?_
    refine QJ.step (YldS.yld (y_assign rfl)) rfl ?_
    refine QJ.done ?_
    refine PJ.next ?_
    refine WJ.ret ?_
    obtain rfl := Option.some.inj hm
    refine PJ.sel (L' := []) [] ⟨List.nodup_nil, rfl⟩ ?_
    exact PJ.retn (vs := [.bool (decide ((List.length rules1 : Int) ≤ 20))]) Try.results41 ⟨rfl, trivial⟩ ⟨rfl, rfl⟩

set_option maxRecDepth 100000 in
set_option maxHeartbeats 1000000 in
theorem ok_s_l12Draw {N : Nat} {s1 : L00Src} {g2 : Nat} {r : (List Over) × L00Src} (hm : s_l12Draw N s1 = some r) (w : World) (S : Nat → Prop) (v3 : Value) (hr4 : RdS w (Cx.Fz ⟨w, S⟩) v3 fByte.rp s1.code) (hA : (box g2 87 [v3, .int .i64 s1.at_, .int .u64 s1.seed]).holds w S) :
    Calls Try.prog 68 #[pt g2 0] w (RetG ⟨w, S⟩ fun u L => ∃ (u1 : Value), (u = u1 ∧ L = [box g2 87 [v3, .int .i64 r.2.at_, .int .u64 r.2.seed], row u1 42 fOver r.1])) := by
  unfold s_l12Draw at hm
  refine Calls.enter1 hA [pt g2 0] Try.func68 rfl Try.ntmps68 rfl ?_
  refine WJ.seq ?_
  refine WJ.quiet ?_
  refine QJ.step (YldS.yld (y_assign rfl)) rfl ?_
  refine QJ.done ?_
  refine PJ.next ?_
  refine WJ.seq ?_
  refine WJ.reg ?_
  refine SJ.buildSlice (R := fOver) (os := []) [] Try.runUnderlying24 Try.sizeOf42 Try.zeroValue42 rfl rfl rfl rfl rfl rfl fun v5 => ?_
  refine SJ.q (YldS.yld (y_assign rfl)) rfl ?_
  refine SJ.nil ?_
  refine PJ.next ?_
  obtain ⟨k10, hk11, hm⟩ := withK_open hm
  refine WJ.join (X := Int × Int × (List Over) × Value) (fun (x : Int × Int × (List Over) × Value) => k10 x.1 x.2.1 x.2.2.1 = some r) (fun (x : Int × Int × (List Over) × Value) => [(3, x.2.2.2)]) (fun (x : Int × Int × (List Over) × Value) => [box g2 87 [v3, .int .i64 x.1, .int .u64 x.2.1], row x.2.2.2 42 fOver x.2.2.1]) ?_ ?_
  · clear hk11
    refine WJ.seq ?_
    refine WJ.reg ?_
    refine SJ.q (YldS.yld (y_move rfl)) rfl ?_
    obtain ⟨r12, h13, hm⟩ := bindS hm
    refine SJ.call1 (k := 1) rfl Try.call50 rfl (fun w S hw hA hO => ok_s_l00Src_pick h13 w S _ (hr4.st1 hw hO) hA) rfl ?_
    rintro _ _ ⟨rfl, rfl⟩
    refine SJ.q (YldS.yld (y_assign rfl)) rfl ?_
    refine SJ.nil ?_
    refine PJ.next ?_
    refine WJ.block ?_
    refine WJ.sel (L' := (fun (x : Int × Int × (List Over) × Value × Int) => [box g2 87 [v3, .int .i64 x.1, .int .u64 x.2.1], row x.2.2.2.1 42 fOver x.2.2.1]) (r12.2.at_, r12.2.seed, [], v5, r12.1)) [0, 1] ⟨by decide, rfl⟩ ?_
    refine WJ.sub (m' := (fun (x : Int × Int × (List Over) × Value × Int) => [(0, pt g2 0), (3, x.2.2.2.1), (4, .int .i64 x.2.2.2.2)]) (r12.2.at_, r12.2.seed, [], v5, r12.1)) ⟨rfl, rfl, rfl, trivial⟩ ?_
    refine WJ.loop (X := Int × Int × (List Over) × Value × Int) (fun N (x : Int × Int × (List Over) × Value × Int) => s_l12Draw_l1 k10 s1 N x.1 x.2.1 x.2.2.1 x.2.2.2.2 = some r) (fun (x : Int × Int × (List Over) × Value × Int) => [(0, pt g2 0), (3, x.2.2.2.1), (4, .int .i64 x.2.2.2.2)]) (fun (x : Int × Int × (List Over) × Value × Int) => [box g2 87 [v3, .int .i64 x.1, .int .u64 x.2.1], row x.2.2.2.1 42 fOver x.2.2.1]) ?_ N (r12.2.at_, r12.2.seed, [], v5, r12.1) hm
    · rintro N ⟨x14, x15, l16, v17, k18⟩ hI
      have hm := hI; clear hI
      cases N with
      | zero => cases hm
      | succ N =>
      unfold s_l12Draw_l1 at hm
      refine WJ.seq ?_
      refine WJ.seq ?_
      refine WJ.quiet ?_
      refine QJ.step (YldS.yld (y_move rfl)) rfl ?_
      refine QJ.step (YldS.yld (y_bin rfl rfl rfl)) rfl ?_
      refine QJ.done ?_
      refine PJ.next ?_
      refine WJ.cond (t := decide (k18 > 0)) rfl (fun hb19 => ?_) (fun hb19 => ?_)
      · replace hm := ifT hm hb19
        refine WJ.skip ?_
        refine PJ.next ?_
        obtain ⟨k25, hk25, hm⟩ := withK_open hm
        refine WJ.join (X := Int × Int × (List Over) × Value) (fun (x : Int × Int × (List Over) × Value) => k25 x.1 x.2.1 x.2.2.1 = some r) (fun (x : Int × Int × (List Over) × Value) => [(0, pt g2 0), (3, x.2.2.2), (4, .int .i64 k18)]) (fun (x : Int × Int × (List Over) × Value) => [box g2 87 [v3, .int .i64 x.1, .int .u64 x.2.1], row x.2.2.2 42 fOver x.2.2.1]) ?_ ?_
        · clear hk25
          refine WJ.block ?_
          refine WJ.seq ?_
          refine WJ.reg ?_
          refine SJ.q (YldS.yld (y_move rfl)) rfl ?_
          refine SJ.buildSlice (R := fStr) (os := [.const (str [99]), .const (str [111]), .const (str [73]), .const (str [108]), .const (str [45])]) [[99], [111], [73], [108], [45]] Try.runUnderlying38 Try.sizeOf9 Try.zeroValue9 rfl rfl rfl rfl rfl rfl fun v26 => ?_
          obtain ⟨r27, h28, hm⟩ := bindS hm
          refine SJ.call2 (k := 1) rfl Try.call37 rfl (fun w S hw hA hO hB => ok_s_l00Src_text h28 w S _ (hr4.st1 hw hO) _ (hB.row_rd (j := 0) (k := 1) rfl rfl) hA) rfl ?_
          rintro _ _ ⟨rfl, rfl⟩
          refine SJ.q (YldS.yld (y_build (parts := [(0, .tmp 15)]) (places := [(0, 1), (1, 1), (2, 1)]) (r := [str ((Over.mk r27.1 [] []).under), str ((Over.mk r27.1 [] []).top), str ((Over.mk r27.1 [] []).seen)]) pl42 Try.zeroValue42 rfl rfl rfl rfl)) rfl ?_
          refine SJ.alloc (cs := [str [], str [], str []]) Try.zeroValue42 rfl rfl fun g29 => ?_
          refine SJ.storeL (k := 0) (off := 0) (us := [str ((Over.mk r27.1 [] []).under), str ((Over.mk r27.1 [] []).top), str ((Over.mk r27.1 [] []).seen)]) rfl rfl rfl rfl Try.sizeOf42 rfl rfl ?_
          refine SJ.nil ?_
          refine PJ.next ?_
          refine WJ.seq ?_
          refine WJ.reg ?_
          refine SJ.q (YldS.yld (y_move rfl)) rfl ?_
          refine SJ.buildSlice (R := fStr) (os := [.const (str [47]), .const (str [45]), .const (str [39]), .const (str [124])]) [[47], [45], [39], [124]] Try.runUnderlying38 Try.sizeOf9 Try.zeroValue9 rfl rfl rfl rfl rfl rfl fun v30 => ?_
          obtain ⟨r31, h32, hm⟩ := bindS hm
          refine SJ.call2 (k := 2) rfl Try.call37 rfl (fun w S hw hA hO hB => ok_s_l00Src_text h32 w S _ (hr4.st1 hw hO) _ (hB.row_rd (j := 0) (k := 2) rfl rfl) hA) rfl ?_
          rintro _ _ ⟨rfl, rfl⟩
          refine SJ.q (YldS.yld (y_fldB (o := 0) fld42_1 rfl)) rfl ?_
          refine SJ.storeL (k := 2) (off := 1) (us := [str r31.1]) rfl rfl rfl rfl Try.sizeOf9 rfl rfl ?_
          refine SJ.nil ?_
          refine PJ.next ?_
          refine WJ.seq ?_
          refine WJ.reg ?_
          refine SJ.q (YldS.yld (y_move rfl)) rfl ?_
          refine SJ.buildSlice (R := fStr) (os := [.const (str [48]), .const (str [116]), .const (str [33]), .const (str [43]), .const (str [113])]) [[48], [116], [33], [43], [113]] Try.runUnderlying38 Try.sizeOf9 Try.zeroValue9 rfl rfl rfl rfl rfl rfl fun v33 => ?_
          obtain ⟨r34, h35, hm⟩ := bindS hm
          refine SJ.call2 (k := 1) rfl Try.call37 rfl (fun w S hw hA hO hB => ok_s_l00Src_text h35 w S _ (hr4.st1 hw hO) _ (hB.row_rd (j := 0) (k := 1) rfl rfl) hA) rfl ?_
          rintro _ _ ⟨rfl, rfl⟩
          refine SJ.q (YldS.yld (y_fldB (o := 0) fld42_2 rfl)) rfl ?_
          refine SJ.storeL (k := 3) (off := 2) (us := [str r34.1]) rfl rfl rfl rfl Try.sizeOf9 rfl rfl ?_
          refine SJ.nil ?_
          refine PJ.next ?_
          refine WJ.seq ?_
          obtain ⟨l37, h38, hm⟩ := bindS hm
          obtain ⟨l41, h42, hm⟩ := bindS hm
          obtain ⟨r44, h45, hm⟩ := bindS hm
          refine WJ.draws (N := 7) (listed0 := #[false, false, false, false, false, false, false]) [box g2 87 [v3, .int .i64 r34.2.at_, .int .u64 r34.2.seed], row v33 9 fStr [[48], [116], [33], [43], [113]], row v30 9 fStr [[47], [45], [39], [124]], box g29 42 [str ((Over.mk r27.1 [] []).under), str r31.1, str r34.1], row v26 9 fStr [[99], [111], [73], [108], [45]], row v17 42 fOver l16] follows rfl rfl ?_
          refine RJ.first 1 (listed' := #[false, true, false, false, false, false, false]) [0, 1, 2, 3, 4, 5] rfl (by kernel_rfl) rfl ⟨by decide, rfl⟩ (y_move rfl) rfl ?_
          refine RJ.first 3 (listed' := #[false, true, false, true, false, false, false]) [0, 1, 2, 3, 4, 5] rfl (by kernel_rfl) rfl ⟨by decide, rfl⟩ (y_loadBN (k := 3) (off := 0) (us := [str ((Over.mk r27.1 [] []).under), str r31.1, str r34.1]) rfl Try.isAgg42 Try.sizeOf42 rfl rfl) rfl ?_
          refine RJ.hold (X := Value × Value) 2 #[true, true, true, true, true, false, false] (fun (x : Value × Value) => [(0, pt g2 0), (3, v17), (4, .int .i64 k18), (5, pt g29 0), (27, x.2), (29, x.1)]) (fun (x : Value × Value) => [row x.1 42 fOver [(Over.mk ((Over.mk r27.1 [] []).under) r31.1 r34.1)], row x.2 42 fOver l37, box g2 87 [v3, .int .i64 r34.2.at_, .int .u64 r34.2.seed], row v33 9 fStr [[48], [116], [33], [43], [113]], row v30 9 fStr [[47], [45], [39], [124]], box g29 42 [str ((Over.mk r27.1 [] []).under), str r31.1, str r34.1], row v26 9 fStr [[99], [111], [73], [108], [45]], row v17 42 fOver l16]) ?_ ?_
          · rintro ⟨v40, v39⟩
            refine RJ.step1 5 [2, 3, 4, 5, 6, 7] (by kernel_rfl) ⟨by decide, rfl⟩ ?_
            refine RO.of (listed' := #[true, true, true, true, true, true, false]) rfl rfl ?_
            refine SJ.append (k := 1) (R := fOver) h42 rfl Try.underlying24 el42 rfl rfl rfl (fun w hw => (hw.row_rd (k := 0) rfl)) rfl fun v43 => ?_
            refine SJ.nil ?_
            refine PJ.draw ?_
            refine RJ.step1 6 [2, 3, 4, 5, 6, 7] (by kernel_rfl) ⟨by decide, rfl⟩ ?_
            refine RO.of (listed' := #[true, true, true, true, true, true, true]) rfl rfl ?_
            refine SJ.q (y_call Try.call41 rfl (RetG.quiet fun w hw => ok_s_l12Ok h45 w _ (hw.row_rd (k := 1) rfl))) rfl ?_
            refine SJ.nil ?_
            refine PJ.draw ?_
            refine RJ.fin [2, 3, 4, 5, 6, 7] (by kernel_rfl) ⟨by decide, rfl⟩ ?_
            refine PJ.next ?_
            refine WJ.cond (t := r44) rfl (fun hb47 => ?_) (fun hb47 => ?_)
            · replace hm := ifT hm hb47
              refine WJ.reg ?_
              refine SJ.q (YldS.yld (y_move rfl)) rfl ?_
              refine SJ.q (YldS.yld (y_loadBN (k := 5) (off := 0) (us := [str ((Over.mk r27.1 [] []).under), str r31.1, str r34.1]) rfl Try.isAgg42 Try.sizeOf42 rfl rfl)) rfl ?_
              refine SJ.buildSlice (R := fOver) (os := [.tmp 33]) [(Over.mk ((Over.mk r27.1 [] []).under) r31.1 r34.1)] Try.runUnderlying24 Try.sizeOf42 Try.zeroValue42 rfl rfl rfl rfl rfl rfl fun v48 => ?_
              obtain ⟨l49, h50, hm⟩ := bindS hm
              refine SJ.append (k := 8) (R := fOver) h50 rfl Try.underlying24 el42 rfl rfl rfl (fun w hw => (hw.row_rd (k := 0) rfl)) rfl fun v51 => ?_
              refine SJ.q (YldS.yld (y_assign rfl)) rfl ?_
              refine SJ.nil ?_
              refine PJ.block_normal ?_
              exact PJ.joined (r34.2.at_, r34.2.seed, l49, v51) [3, 8] hm ⟨rfl, rfl, rfl, trivial⟩ ⟨by decide, rfl⟩
            · replace hm := ifF hm hb47
              refine WJ.skip ?_
              refine PJ.block_normal ?_
              exact PJ.joined (r34.2.at_, r34.2.seed, l16, v17) [2, 7] hm ⟨rfl, rfl, rfl, trivial⟩ ⟨by decide, rfl⟩
          · intro hD46
            refine RJ.step2 0 4 [0, 1, 2, 3, 4, 5] (by kernel_rfl) ⟨by decide, rfl⟩ ?_ ?_
            · refine RO.of (listed' := #[true, true, false, true, false, false, false]) rfl rfl ?_
              refine SJ.buildSlice (R := fOver) (os := []) [] Try.runUnderlying24 Try.sizeOf42 Try.zeroValue42 rfl rfl rfl rfl rfl rfl fun v36 => ?_
              refine SJ.nil ?_
              refine PJ.draw ?_
              refine RJ.step2 2 4 [1, 2, 3, 4, 5, 6] (by kernel_rfl) ⟨by decide, rfl⟩ ?_ ?_
              · refine RO.of (listed' := #[true, true, true, true, false, false, false]) rfl rfl ?_
                refine SJ.append (k := 0) (R := fOver) h38 rfl Try.underlying24 el42 rfl rfl rfl (fun w hw => (hw.row_rd (k := 6) rfl)) rfl fun v39 => ?_
                refine SJ.nil ?_
                refine PJ.draw ?_
                refine RJ.step1 4 [1, 2, 3, 4, 5, 6] (by kernel_rfl) ⟨by decide, rfl⟩ ?_
                refine RO.of (listed' := #[true, true, true, true, true, false, false]) rfl rfl ?_
                refine SJ.buildSlice (R := fOver) (os := [.tmp 28]) [(Over.mk ((Over.mk r27.1 [] []).under) r31.1 r34.1)] Try.runUnderlying24 Try.sizeOf42 Try.zeroValue42 rfl rfl rfl rfl rfl rfl fun v40 => ?_
                refine SJ.nil ?_
                refine PJ.draw ?_
                exact RJ.weak (hD46 (v40, v39)) [0, 1, 2, 3, 4, 5, 6, 7] ⟨rfl, rfl, rfl, rfl, rfl, rfl, trivial⟩ ⟨by decide, rfl⟩
              · refine RO.of (listed' := #[true, true, false, true, true, false, false]) rfl rfl ?_
                refine SJ.buildSlice (R := fOver) (os := [.tmp 28]) [(Over.mk ((Over.mk r27.1 [] []).under) r31.1 r34.1)] Try.runUnderlying24 Try.sizeOf42 Try.zeroValue42 rfl rfl rfl rfl rfl rfl fun v40 => ?_
                refine SJ.nil ?_
                refine PJ.draw ?_
                refine RJ.step1 2 [2, 3, 4, 5, 6, 7] (by kernel_rfl) ⟨by decide, rfl⟩ ?_
                refine RO.of (listed' := #[true, true, true, true, true, false, false]) rfl rfl ?_
                refine SJ.append (k := 1) (R := fOver) h38 rfl Try.underlying24 el42 rfl rfl rfl (fun w hw => (hw.row_rd (k := 7) rfl)) rfl fun v39 => ?_
                refine SJ.nil ?_
                refine PJ.draw ?_
                exact RJ.weak (hD46 (v40, v39)) [0, 1, 2, 3, 4, 5, 6, 7] ⟨rfl, rfl, rfl, rfl, rfl, rfl, trivial⟩ ⟨by decide, rfl⟩
            · refine RO.of (listed' := #[false, true, false, true, true, false, false]) rfl rfl ?_
              refine SJ.buildSlice (R := fOver) (os := [.tmp 28]) [(Over.mk ((Over.mk r27.1 [] []).under) r31.1 r34.1)] Try.runUnderlying24 Try.sizeOf42 Try.zeroValue42 rfl rfl rfl rfl rfl rfl fun v40 => ?_
              refine SJ.nil ?_
              refine PJ.draw ?_
              refine RJ.step1 0 [1, 2, 3, 4, 5, 6] (by kernel_rfl) ⟨by decide, rfl⟩ ?_
              refine RO.of (listed' := #[true, true, false, true, true, false, false]) rfl rfl ?_
              refine SJ.buildSlice (R := fOver) (os := []) [] Try.runUnderlying24 Try.sizeOf42 Try.zeroValue42 rfl rfl rfl rfl rfl rfl fun v36 => ?_
              refine SJ.nil ?_
              refine PJ.draw ?_
              refine RJ.step1 2 [2, 3, 4, 5, 6, 7] (by kernel_rfl) ⟨by decide, rfl⟩ ?_
              refine RO.of (listed' := #[true, true, true, true, true, false, false]) rfl rfl ?_
              refine SJ.append (k := 0) (R := fOver) h38 rfl Try.underlying24 el42 rfl rfl rfl (fun w hw => (hw.row_rd (k := 7) rfl)) rfl fun v39 => ?_
              refine SJ.nil ?_
              refine PJ.draw ?_
              exact RJ.weak (hD46 (v40, v39)) [1, 0, 2, 3, 4, 5, 6, 7] ⟨rfl, rfl, rfl, rfl, rfl, rfl, trivial⟩ ⟨by decide, rfl⟩
        · rintro ⟨x20, x21, l22, v23⟩ hm
          subst hk25
          refine WJ.quiet ?_
          refine QJ.step (YldS.yld (y_move rfl)) rfl ?_
          refine QJ.step (YldS.yld (y_bin rfl rfl rfl)) rfl ?_
          refine QJ.step (YldS.yld (y_assign rfl)) rfl ?_
          refine QJ.done ?_
          exact PJ.round (x20, x21, l22, v23, w64 (k18 - 1)) [0, 1] hm ⟨rfl, rfl, rfl, trivial⟩ ⟨by decide, rfl⟩
      · replace hm := ifF hm hb19
        refine WJ.exit ?_
        refine PJ.then_exit (PJ.then_exit (PJ.block_exit ?_))
        exact PJ.joined (x14, x15, l16, v17) [0, 1] hm ⟨rfl, trivial⟩ ⟨by decide, rfl⟩
  · rintro ⟨x6, x7, l8, v9⟩ hm
    subst hk11
    refine WJ.seq ?_
    refine WJ.quiet ?_
    refine QJ.step (YldS.yld (y_move rfl)) rfl ?_
    refine QJ.step (YldS.yld (y_assign rfl)) rfl ?_
    refine QJ.done ?_
    refine PJ.next ?_
    refine WJ.ret ?_
    obtain rfl := Option.some.inj hm
    refine PJ.sel (L' := [box g2 87 [v3, .int .i64 x6, .int .u64 x7], row v9 42 fOver l8]) [0, 1] ⟨by decide, rfl⟩ ?_
    exact PJ.retn (vs := [v9]) Try.results68 ⟨rfl, trivial⟩ ⟨_, rfl, rfl⟩

set_option maxRecDepth 100000 in
set_option maxHeartbeats 1000000 in
theorem ok_s_l12Bent {N : Nat} {s1 : L00Src} {g2 : Nat} {r : (List Over) × L00Src} (hm : s_l12Bent N s1 = some r) (w : World) (S : Nat → Prop) (v3 : Value) (hr4 : RdS w (Cx.Fz ⟨w, S⟩) v3 fByte.rp s1.code) (hA : (box g2 87 [v3, .int .i64 s1.at_, .int .u64 s1.seed]).holds w S) :
    Calls Try.prog 36 #[pt g2 0] w (RetG ⟨w, S⟩ fun u L => ∃ (u1 : Value), (u = u1 ∧ L = [box g2 87 [v3, .int .i64 r.2.at_, .int .u64 r.2.seed], row u1 42 fOver r.1])) := by
  unfold s_l12Bent at hm
  refine Calls.enter1 hA [pt g2 0] Try.func36 rfl Try.ntmps36 rfl ?_
  refine WJ.seq ?_
  refine WJ.quiet ?_
  refine QJ.step (YldS.yld (y_assign rfl)) rfl ?_
  refine QJ.done ?_
  refine PJ.next ?_
  refine WJ.seq ?_
  refine WJ.reg ?_
  refine SJ.q (YldS.yld (y_move rfl)) rfl ?_
  obtain ⟨r5, h6, hm⟩ := bindS hm
  refine SJ.call1 (k := 0) rfl Try.call68 rfl (fun w S hw hA hO => ok_s_l12Draw h6 w S _ (hr4.st1 hw hO) hA) rfl ?_
  rintro v7 _ ⟨_, rfl, rfl⟩
  refine SJ.q (YldS.yld (y_assign rfl)) rfl ?_
  refine SJ.nil ?_
  refine PJ.next ?_
  obtain ⟨k12, hk13, hm⟩ := withK_open hm
  refine WJ.join (X := Int × Int × (List Over) × Value) (fun (x : Int × Int × (List Over) × Value) => k12 x.1 x.2.1 x.2.2.1 = some r) (fun (x : Int × Int × (List Over) × Value) => [(3, x.2.2.2)]) (fun (x : Int × Int × (List Over) × Value) => [box g2 87 [v3, .int .i64 x.1, .int .u64 x.2.1], row x.2.2.2 42 fOver x.2.2.1]) ?_ ?_
  · clear hk13
    refine WJ.seq ?_
    refine WJ.reg ?_
    refine SJ.q (YldS.yld (y_move rfl)) rfl ?_
    obtain ⟨r14, h15, hm⟩ := bindS hm
    refine SJ.call1 (k := 0) rfl Try.call50 rfl (fun w S hw hA hO => ok_s_l00Src_pick h15 w S _ (hr4.st1 hw hO) hA) rfl ?_
    rintro _ _ ⟨rfl, rfl⟩
    refine SJ.nil ?_
    refine PJ.next ?_
    refine WJ.block ?_
    refine WJ.seq ?_
    refine WJ.quiet ?_
    refine QJ.step (YldS.yld (y_bin rfl rfl rfl)) rfl ?_
    refine QJ.step (YldS.yld (y_assign rfl)) rfl ?_
    refine QJ.done ?_
    refine PJ.next ?_
    refine WJ.cond (t := (r14.1 == 0)) rfl (fun hb16 => ?_) (fun hb16 => ?_)
    · replace hm := ifT hm hb16
      refine WJ.reg ?_
      refine SJ.q (YldS.yld (y_move rfl)) rfl ?_
      refine SJ.q (YldS.yld (y_move rfl)) rfl ?_
      refine SJ.buildSlice (R := fStr) (os := [.const (str []), .const (str [97]), .const (str [32])]) [[], [97], [32]] Try.runUnderlying38 Try.sizeOf9 Try.zeroValue9 rfl rfl rfl rfl rfl rfl fun v17 => ?_
      obtain ⟨r18, h19, hm⟩ := bindS hm
      refine SJ.call2 (k := 1) rfl Try.call37 rfl (fun w S hw hA hO hB => ok_s_l00Src_text h19 w S _ (hr4.st1 hw hO) _ (hB.row_rd (j := 0) (k := 1) rfl rfl) hA) rfl ?_
      rintro _ _ ⟨rfl, rfl⟩
      refine SJ.q (YldS.yld (y_move rfl)) rfl ?_
      refine SJ.buildSlice (R := fStr) (os := [.const (str [98]), .const (str [98, 98])]) [[98], [98, 98]] Try.runUnderlying38 Try.sizeOf9 Try.zeroValue9 rfl rfl rfl rfl rfl rfl fun v20 => ?_
      obtain ⟨r21, h22, hm⟩ := bindS hm
      refine SJ.call2 (k := 1) rfl Try.call37 rfl (fun w S hw hA hO hB => ok_s_l00Src_text h22 w S _ (hr4.st1 hw hO) _ (hB.row_rd (j := 0) (k := 1) rfl rfl) hA) rfl ?_
      rintro _ _ ⟨rfl, rfl⟩
      refine SJ.q (YldS.yld (y_move rfl)) rfl ?_
      refine SJ.buildSlice (R := fStr) (os := [.const (str [97]), .const (str [98]), .const (str [99])]) [[97], [98], [99]] Try.runUnderlying38 Try.sizeOf9 Try.zeroValue9 rfl rfl rfl rfl rfl rfl fun v23 => ?_
      obtain ⟨r24, h25, hm⟩ := bindS hm
      refine SJ.call2 (k := 1) rfl Try.call37 rfl (fun w S hw hA hO hB => ok_s_l00Src_text h25 w S _ (hr4.st1 hw hO) _ (hB.row_rd (j := 0) (k := 1) rfl rfl) hA) rfl ?_
      rintro _ _ ⟨rfl, rfl⟩
      refine SJ.q (YldS.yld (y_build (parts := [(0, .tmp 14), (1, .tmp 17), (2, .tmp 20)]) (places := [(0, 1), (1, 1), (2, 1)]) (r := [str ((Over.mk r18.1 r21.1 r24.1).under), str ((Over.mk r18.1 r21.1 r24.1).top), str ((Over.mk r18.1 r21.1 r24.1).seen)]) pl42 Try.zeroValue42 rfl rfl rfl rfl)) rfl ?_
      refine SJ.buildSlice (R := fOver) (os := [.tmp 21]) [(Over.mk r18.1 r21.1 r24.1)] Try.runUnderlying24 Try.sizeOf42 Try.zeroValue42 rfl rfl rfl rfl rfl rfl fun v26 => ?_
      obtain ⟨l27, h28, hm⟩ := bindS hm
      refine SJ.append (k := 5) (R := fOver) h28 rfl Try.underlying24 el42 rfl rfl rfl (fun w hw => (hw.row_rd (k := 0) rfl)) rfl fun v29 => ?_
      refine SJ.q (YldS.yld (y_assign rfl)) rfl ?_
      refine SJ.nil ?_
      refine PJ.block_normal ?_
      exact PJ.joined (r24.2.at_, r24.2.seed, l27, v29) [1, 5] hm ⟨rfl, trivial⟩ ⟨by decide, rfl⟩
    · replace hm := ifF hm hb16
      refine WJ.seq ?_
      refine WJ.quiet ?_
      refine QJ.step (YldS.yld (y_bin rfl rfl rfl)) rfl ?_
      refine QJ.step (YldS.yld (y_assign rfl)) rfl ?_
      refine QJ.done ?_
      refine PJ.next ?_
      refine WJ.cond (t := (r14.1 == 1)) rfl (fun hb30 => ?_) (fun hb30 => ?_)
      · replace hm := ifT hm hb30
        refine WJ.seq ?_
        refine WJ.quiet ?_
        refine QJ.step (YldS.yld (y_move rfl)) rfl ?_
        refine QJ.step (YldS.yld (y_lenRow (k := 1) rfl Try.runUnderlying24 rfl)) rfl ?_
        refine QJ.step (YldS.yld (y_bin rfl rfl rfl)) rfl ?_
        refine QJ.done ?_
        refine PJ.next ?_
        refine WJ.cond (t := decide ((List.length r5.1 : Int) > 0)) rfl (fun hb31 => ?_) (fun hb31 => ?_)
        · replace hm := ifT hm hb31
          refine WJ.reg ?_
          refine SJ.q (YldS.yld (y_move rfl)) rfl ?_
          refine SJ.q (YldS.yld (y_move rfl)) rfl ?_
          obtain ⟨e32, h33, hm⟩ := bindS hm
          refine SJ.q (YldS.yld (y_ixRow (k := 1) (R := fOver) rfl Try.runUnderlying24 Try.sizeOf42 rfl rfl h33)) rfl ?_
          refine SJ.q (YldS.yld (y_loadRN (k := 1) (i := (Int.toNat 0)) (off := 0) (us := [str e32.under, str e32.top, str e32.seen]) rfl Try.isAgg42 Try.sizeOf42 rfl (idx_get h33) rfl)) rfl ?_
          refine SJ.buildSlice (R := fOver) (os := [.tmp 32]) [e32] Try.runUnderlying24 Try.sizeOf42 Try.zeroValue42 rfl rfl rfl rfl rfl rfl fun v34 => ?_
          obtain ⟨l35, h36, hm⟩ := bindS hm
          refine SJ.append (k := 2) (R := fOver) h36 rfl Try.underlying24 el42 rfl rfl rfl (fun w hw => (hw.row_rd (k := 0) rfl)) rfl fun v37 => ?_
          refine SJ.q (YldS.yld (y_assign rfl)) rfl ?_
          refine SJ.nil ?_
          refine PJ.block_normal ?_
          exact PJ.joined (r14.2.at_, r14.2.seed, l35, v37) [1, 2] hm ⟨rfl, trivial⟩ ⟨by decide, rfl⟩
        · replace hm := ifF hm hb31
          refine WJ.skip ?_
          refine PJ.block_normal ?_
          exact PJ.joined (r14.2.at_, r14.2.seed, r5.1, v7) [0, 1] hm ⟨rfl, trivial⟩ ⟨by decide, rfl⟩
      · replace hm := ifF hm hb30
        refine WJ.seq ?_
        refine WJ.quiet ?_
        refine QJ.step (YldS.yld (y_bin rfl rfl rfl)) rfl ?_
        refine QJ.step (YldS.yld (y_assign rfl)) rfl ?_
        refine QJ.done ?_
        refine PJ.next ?_
        refine WJ.cond (t := (r14.1 == 2)) rfl (fun hb38 => ?_) (fun hb38 => ?_)
        · replace hm := ifT hm hb38
          refine WJ.seq ?_
          refine WJ.reg ?_
          refine SJ.buildSlice (R := fOver) (os := []) [] Try.runUnderlying24 Try.sizeOf42 Try.zeroValue42 rfl rfl rfl rfl rfl rfl fun v39 => ?_
          refine SJ.q (YldS.yld (y_assign rfl)) rfl ?_
          refine SJ.nil ?_
          refine PJ.next ?_
          refine WJ.seq ?_
          refine WJ.reg ?_
          refine SJ.q (YldS.yld (y_move rfl)) rfl ?_
          obtain ⟨r40, h41, hm⟩ := bindS hm
          refine SJ.call1 (k := 1) rfl Try.call50 rfl (fun w S hw hA hO => ok_s_l00Src_pick h41 w S _ (hr4.st1 hw hO) hA) rfl ?_
          rintro _ _ ⟨rfl, rfl⟩
          refine SJ.q (YldS.yld (y_bin rfl rfl rfl)) rfl ?_
          refine SJ.q (YldS.yld (y_assign rfl)) rfl ?_
          refine SJ.nil ?_
          refine PJ.next ?_
          refine WJ.block ?_
          refine WJ.sel (L' := (fun (x : (List Over) × Value × Int) => [box g2 87 [v3, .int .i64 r40.2.at_, .int .u64 r40.2.seed], row x.2.1 42 fOver x.1]) ([], v39, w64 (20 + r40.1))) [0, 1] ⟨by decide, rfl⟩ ?_
          refine WJ.sub (m' := (fun (x : (List Over) × Value × Int) => [(3, x.2.1), (4, .int .i64 x.2.2)]) ([], v39, w64 (20 + r40.1))) ⟨rfl, rfl, trivial⟩ ?_
          refine WJ.loop (X := (List Over) × Value × Int) (fun N (x : (List Over) × Value × Int) => s_l12Bent_l1 k12 r40 N x.1 x.2.2 = some r) (fun (x : (List Over) × Value × Int) => [(3, x.2.1), (4, .int .i64 x.2.2)]) (fun (x : (List Over) × Value × Int) => [box g2 87 [v3, .int .i64 r40.2.at_, .int .u64 r40.2.seed], row x.2.1 42 fOver x.1]) ?_ N ([], v39, w64 (20 + r40.1)) hm
          · rintro N ⟨l42, v43, k44⟩ hI
            have hm := hI; clear hI
            cases N with
            | zero => cases hm
            | succ N =>
            unfold s_l12Bent_l1 at hm
            refine WJ.seq ?_
            refine WJ.seq ?_
            refine WJ.quiet ?_
            refine QJ.step (YldS.yld (y_move rfl)) rfl ?_
            refine QJ.step (YldS.yld (y_bin rfl rfl rfl)) rfl ?_
            refine QJ.done ?_
            refine PJ.next ?_
            refine WJ.cond (t := decide (k44 > 0)) rfl (fun hb45 => ?_) (fun hb45 => ?_)
            · replace hm := ifT hm hb45
              refine WJ.skip ?_
              refine PJ.next ?_
              refine WJ.seq ?_
              refine WJ.block ?_
              refine WJ.reg ?_
              refine SJ.q (YldS.yld (y_move rfl)) rfl ?_
              refine SJ.q (YldS.yld (y_move rfl)) rfl ?_
              refine SJ.q (YldS.yld (y_lenRow (k := 1) rfl Try.runUnderlying24 rfl)) rfl ?_
              refine SJ.q (YldS.yld (y_convTo8 Try.runUnderlying3 Try.runUnderlying5 rfl)) rfl ?_
              refine SJ.q (YldS.yld (y_bin8 (65 : UInt8) (UInt8.ofInt (List.length l42 : Int)) rfl rfl rfl)) rfl ?_
              refine SJ.buildSlice (R := fByte) (os := [.tmp 49]) [(65 : UInt8) + (UInt8.ofInt (List.length l42 : Int))] Try.runUnderlying22 Try.sizeOf5 Try.zeroValue5 rfl rfl rfl rfl rfl rfl fun v46 => ?_
              refine SJ.q (YldS.yld (y_b2s Try.underlying22 Try.underlying9 Try.underlying5 (fun w hw => ⟨_, (hw.row_rd (k := 0) rfl)⟩) rfl)) rfl ?_
              refine SJ.q (YldS.yld (y_build (parts := [(0, .tmp 51), (1, .const (str [47])), (2, .const (str [35]))]) (places := [(0, 1), (1, 1), (2, 1)]) (r := [str ((Over.mk [(65 : UInt8) + (UInt8.ofInt (List.length l42 : Int))] [47] [35]).under), str ((Over.mk [(65 : UInt8) + (UInt8.ofInt (List.length l42 : Int))] [47] [35]).top), str ((Over.mk [(65 : UInt8) + (UInt8.ofInt (List.length l42 : Int))] [47] [35]).seen)]) pl42 Try.zeroValue42 rfl rfl rfl rfl)) rfl ?_
              refine SJ.buildSlice (R := fOver) (os := [.tmp 52]) [(Over.mk [(65 : UInt8) + (UInt8.ofInt (List.length l42 : Int))] [47] [35])] Try.runUnderlying24 Try.sizeOf42 Try.zeroValue42 rfl rfl rfl rfl rfl rfl fun v47 => ?_
              obtain ⟨l48, h49, hm⟩ := bindS hm
              refine SJ.append (k := 3) (R := fOver) h49 rfl Try.underlying24 el42 rfl rfl rfl (fun w hw => (hw.row_rd (k := 0) rfl)) rfl fun v50 => ?_
              refine SJ.q (YldS.yld (y_assign rfl)) rfl ?_
              refine SJ.nil ?_
              refine PJ.block_normal (PJ.next ?_)
              refine WJ.quiet ?_
              refine QJ.step (YldS.yld (y_move rfl)) rfl ?_
              refine QJ.step (YldS.yld (y_bin rfl rfl rfl)) rfl ?_
              refine QJ.step (YldS.yld (y_assign rfl)) rfl ?_
              refine QJ.done ?_
              exact PJ.round (l48, v50, w64 (k44 - 1)) [2, 3] hm ⟨rfl, rfl, trivial⟩ ⟨by decide, rfl⟩
            · replace hm := ifF hm hb45
              refine WJ.exit ?_
              refine PJ.then_exit (PJ.then_exit (PJ.block_exit (PJ.block_normal ?_)))
              exact PJ.joined (r40.2.at_, r40.2.seed, l42, v43) [0, 1] hm ⟨rfl, trivial⟩ ⟨by decide, rfl⟩
        · replace hm := ifF hm hb38
          refine WJ.skip ?_
          refine PJ.block_normal ?_
          exact PJ.joined (r14.2.at_, r14.2.seed, r5.1, v7) [0, 1] hm ⟨rfl, trivial⟩ ⟨by decide, rfl⟩
  · rintro ⟨x8, x9, l10, v11⟩ hm
    subst hk13
    refine WJ.seq ?_
    refine WJ.quiet ?_
    refine QJ.step (YldS.yld (y_move rfl)) rfl ?_
    refine QJ.step (YldS.yld (y_assign rfl)) rfl ?_
    refine QJ.done ?_
    refine PJ.next ?_
    refine WJ.ret ?_
    obtain rfl := Option.some.inj hm
    refine PJ.sel (L' := [box g2 87 [v3, .int .i64 x8, .int .u64 x9], row v11 42 fOver l10]) [0, 1] ⟨by decide, rfl⟩ ?_
    exact PJ.retn (vs := [v11]) Try.results36 ⟨rfl, trivial⟩ ⟨_, rfl, rfl⟩

set_option maxRecDepth 100000 in
set_option maxHeartbeats 1000000 in
theorem ok_s_DrawSeenOver {N : Nat} {code1 : List UInt8} {r : (List Over) × Str × Str} (hm : s_DrawSeenOver N code1 = some r) (w : World) (v2 : Value) (hr3 : RdS w (cx w).Fz v2 fByte.rp code1) :
    Calls Try.prog 6 #[v2] w (RetG (cx w) fun u L => ∃ (u1 : Value), (u = tup [u1, str r.2.1, str r.2.2] ∧ L = [row u1 42 fOver r.1])) := by
  unfold s_DrawSeenOver at hm
  refine Calls.enter [v2] Try.func6 rfl Try.ntmps6 rfl ?_
  refine WJ.seq ?_
  refine WJ.quiet ?_
  refine QJ.step (YldS.yld (y_assign rfl)) rfl ?_
  refine QJ.step (YldS.yld (y_assign rfl)) rfl ?_
  refine QJ.step (YldS.yld (y_assign rfl)) rfl ?_
  refine QJ.done ?_
  refine PJ.next ?_
  refine WJ.seq ?_
  refine WJ.reg ?_
  refine SJ.q (YldS.yld (y_move rfl)) rfl ?_
  obtain ⟨r4, h5, hm⟩ := bindS hm
  refine SJ.call Try.call35 rfl (fun w hw => ok_s_l00From h5 w _ (hr3.st hw)) rfl ?_
  rintro _ _ ⟨g6, rfl, rfl⟩
  refine SJ.q (YldS.yld (y_assign rfl)) rfl ?_
  refine SJ.nil ?_
  refine PJ.next ?_
  refine WJ.seq ?_
  refine WJ.reg ?_
  refine SJ.q (YldS.yld (y_move rfl)) rfl ?_
  obtain ⟨r7, h8, hm⟩ := bindS hm
  refine SJ.call1 (k := 0) rfl Try.call36 rfl (fun w S hw hA hO => ok_s_l12Bent h8 w S _ (hr3.st1 hw hO) hA) rfl ?_
  rintro v9 _ ⟨_, rfl, rfl⟩
  refine SJ.q (YldS.yld (y_assign rfl)) rfl ?_
  refine SJ.nil ?_
  refine PJ.next ?_
  refine WJ.seq ?_
  refine WJ.reg ?_
  refine SJ.q (YldS.yld (y_move rfl)) rfl ?_
  refine SJ.buildSlice (R := fStr) (os := [.const (str [99]), .const (str [111]), .const (str [73]), .const (str [108]), .const (str [45]), .const (str [32]), .const (str [])]) [[99], [111], [73], [108], [45], [32], []] Try.runUnderlying38 Try.sizeOf9 Try.zeroValue9 rfl rfl rfl rfl rfl rfl fun v10 => ?_
  obtain ⟨r11, h12, hm⟩ := bindS hm
  refine SJ.call2 (k := 1) rfl Try.call37 rfl (fun w S hw hA hO hB => ok_s_l00Src_text h12 w S _ (hr3.st1 hw hO) _ (hB.row_rd (j := 0) (k := 1) rfl rfl) hA) rfl ?_
  rintro _ _ ⟨rfl, rfl⟩
  refine SJ.q (YldS.yld (y_assign rfl)) rfl ?_
  refine SJ.nil ?_
  refine PJ.next ?_
  refine WJ.seq ?_
  refine WJ.reg ?_
  refine SJ.q (YldS.yld (y_move rfl)) rfl ?_
  refine SJ.q (YldS.yld (y_move rfl)) rfl ?_
  refine SJ.q (YldS.yld (y_move rfl)) rfl ?_
  refine SJ.buildSlice (R := fStr) (os := [.const (str [47]), .const (str [45]), .const (str [39]), .const (str [124]), .const (str [32]), .const (str [127])]) [[47], [45], [39], [124], [32], [127]] Try.runUnderlying38 Try.sizeOf9 Try.zeroValue9 rfl rfl rfl rfl rfl rfl fun v13 => ?_
  obtain ⟨r14, h15, hm⟩ := bindS hm
  refine SJ.call2 (k := 1) rfl Try.call37 rfl (fun w S hw hA hO hB => ok_s_l00Src_text h15 w S _ (hr3.st1 hw hO) _ (hB.row_rd (j := 0) (k := 1) rfl rfl) hA) rfl ?_
  rintro _ _ ⟨rfl, rfl⟩
  refine SJ.q (YldS.yld (y_assign rfl)) rfl ?_
  refine SJ.q (YldS.yld (y_assign rfl)) rfl ?_
  refine SJ.q (YldS.yld (y_assign rfl)) rfl ?_
  refine SJ.nil ?_
  refine PJ.next ?_
  refine WJ.ret ?_
  obtain rfl := Option.some.inj hm
  refine PJ.sel (L' := [row v9 42 fOver r7.1]) [3] ⟨by decide, rfl⟩ ?_
  exact PJ.retn (vs := [v9, str r11.1, str r14.1]) Try.results6 ⟨rfl, rfl, rfl, trivial⟩ ⟨_, rfl, rfl⟩

set_option maxRecDepth 100000 in
set_option maxHeartbeats 1000000 in
theorem ok_i_isText {N : Nat} {s1 : Str} {low2 : UInt8} {most3 : Int} {r : Bool} (hm : i_isText N s1 low2 most3 = some r) (w : World)  :
    Calls Try.prog 39 #[str s1, .int .u8 (UInt8.toNat low2 : Int), .int .i64 most3] w (Ret (cx w) (.bool r)) := by
  unfold i_isText at hm
  refine Calls.enter [str s1, .int .u8 (UInt8.toNat low2 : Int), .int .i64 most3] Try.func39 rfl Try.ntmps39 rfl ?_
  refine WJ.seq ?_
  refine WJ.quiet ?_
  refine QJ.step (YldS.yld (y_assign rfl)) rfl ?_
  refine QJ.done ?_
  refine PJ.next ?_
  refine WJ.seq ?_
  refine WJ.seq ?_
  refine WJ.quiet ?_
  refine QJ.step (YldS.yld (y_move rfl)) rfl ?_
  refine QJ.step (YldS.yld (y_lenStr Try.runUnderlying9 rfl)) rfl ?_
  refine QJ.step (YldS.yld (y_move rfl)) rfl ?_
  refine QJ.step (YldS.yld (y_bin rfl rfl rfl)) rfl ?_
  refine QJ.done ?_
  refine PJ.next ?_
  refine WJ.cond (t := decide ((List.length s1 : Int) > most3)) rfl (fun hb4 => ?_) (fun hb4 => ?_)
  · replace hm := ifT hm hb4
    refine WJ.seq ?_
    refine WJ.quiet ?_
    refine QJ.step (YldS.yld (y_assign rfl)) rfl ?_
    refine QJ.done ?_
    refine PJ.next ?_
    refine WJ.ret ?_
    refine PJ.then_ret ?_
    obtain rfl := Option.some.inj hm
    refine PJ.sel (L' := []) [] ⟨List.nodup_nil, rfl⟩ ?_
    exact PJ.retn (vs := [.bool false]) Try.results39 ⟨rfl, trivial⟩ ⟨rfl, rfl⟩
  · replace hm := ifF hm hb4
    refine WJ.skip ?_
    refine PJ.next ?_
    obtain ⟨k5, hk6, hm⟩ := withK_open hm
    refine WJ.join (X := Unit) (fun (_ : Unit) => k5  = some r) (fun (_ : Unit) => []) (fun (_ : Unit) => []) ?_ ?_
    · clear hk6
      refine WJ.seq ?_
      refine WJ.quiet ?_
      refine QJ.step (YldS.yld (y_move rfl)) rfl ?_
      refine QJ.step (YldS.yld (y_lenStr Try.runUnderlying9 rfl)) rfl ?_
      refine QJ.step (YldS.yld (y_move rfl)) rfl ?_
      refine QJ.done ?_
      refine PJ.next ?_
      refine WJ.block ?_
      refine WJ.sel (L' := (fun (x : Int) => []) 0) [] ⟨List.nodup_nil, rfl⟩ ?_
      refine WJ.sub (m' := (fun (x : Int) => [(0, str s1), (1, .int .u8 (UInt8.toNat low2 : Int)), (13, .int .i64 (List.length s1 : Int)), (14, .int .i64 x)]) 0) ⟨rfl, rfl, rfl, rfl, trivial⟩ ?_
      refine WJ.loop (X := Int) (fun N (x : Int) => i_isText_l1 k5 s1 low2 N x = some r) (fun (x : Int) => [(0, str s1), (1, .int .u8 (UInt8.toNat low2 : Int)), (13, .int .i64 (List.length s1 : Int)), (14, .int .i64 x)]) (fun (x : Int) => []) ?_ N 0 hm
      · rintro N x7 hI
        have hm := hI; clear hI
        cases N with
        | zero => cases hm
        | succ N =>
        unfold i_isText_l1 at hm
        refine WJ.seq ?_
        refine WJ.quiet ?_
        refine QJ.step (YldS.yld (y_bin rfl rfl rfl)) rfl ?_
        refine QJ.done ?_
        refine PJ.next ?_
        refine WJ.seq ?_
        refine WJ.cond (t := decide (x7 < (List.length s1 : Int))) rfl (fun hb8 => ?_) (fun hb8 => ?_)
        · replace hm := ifT hm hb8
          refine WJ.skip ?_
          refine PJ.next ?_
          refine WJ.seq ?_
          refine WJ.block ?_
          refine WJ.seq ?_
          refine WJ.quiet ?_
          refine QJ.step (YldS.yld (y_move rfl)) rfl ?_
          refine QJ.step (YldS.yld (y_assign rfl)) rfl ?_
          refine QJ.done ?_
          refine PJ.next ?_
          refine WJ.seq ?_
          refine WJ.quiet ?_
          refine QJ.step (YldS.yld (y_move rfl)) rfl ?_
          refine QJ.step (YldS.yld (y_move rfl)) rfl ?_
          obtain ⟨c9, h10, hm⟩ := bindS hm
          refine QJ.step (YldS.yld (y_idxStr Try.runUnderlying9 rfl rfl h10)) rfl ?_
          refine QJ.step (YldS.yld (y_move rfl)) rfl ?_
          refine QJ.step (YldS.yld (y_bin8 c9 low2 rfl rfl rfl)) rfl ?_
          refine QJ.step (YldS.yld (y_move rfl)) rfl ?_
          obtain ⟨t11, h12, hm⟩ := bindS hm
          refine QJ.cut 5 [(0, str s1), (1, .int .u8 (UInt8.toNat low2 : Int)), (13, .int .i64 (List.length s1 : Int)), (14, .int .i64 x7), (27, .bool t11)] ?_ ?_
          · rcases Bool.eq_false_or_eq_true (decide (c9 < low2)) with hb13 | hb13
            · obtain rfl := orT h12 hb13
              refine QJ.off rfl rfl (cB hb13) rfl rfl ?_
              refine QJ.off rfl rfl (cB hb13) rfl rfl ?_
              refine QJ.off rfl rfl (cB hb13) rfl rfl ?_
              refine QJ.off rfl rfl (cB hb13) rfl rfl ?_
              refine QJ.step (YldS.yld (y_pick_t (cB hb13) rfl)) rfl ?_
              exact QJ.cut_end ⟨rfl, rfl, rfl, rfl, rfl, trivial⟩
            · replace h12 := orF h12 hb13
              refine QJ.on rfl rfl (cB hb13) (YldS.yld (y_move rfl)) rfl ?_
              refine QJ.on rfl rfl (cB hb13) (YldS.yld (y_move rfl)) rfl ?_
              obtain ⟨c14, h15, h12⟩ := bindS h12
              refine QJ.on rfl rfl (cB hb13) (YldS.yld (y_idxStr Try.runUnderlying9 rfl rfl h15)) rfl ?_
              refine QJ.on rfl rfl (cB hb13) (YldS.yld (y_bin8 c14 (126 : UInt8) rfl rfl rfl)) rfl ?_
              refine QJ.step (YldS.yld (y_pick_f (cB hb13) rfl)) rfl ?_
              obtain rfl := Option.some.inj h12
              exact QJ.cut_end ⟨rfl, rfl, rfl, rfl, rfl, trivial⟩
          refine QJ.done ?_
          refine PJ.next ?_
          refine WJ.cond (t := t11) rfl (fun hb16 => ?_) (fun hb16 => ?_)
          · replace hm := ifT hm hb16
            refine WJ.seq ?_
            refine WJ.quiet ?_
            refine QJ.step (YldS.yld (y_assign rfl)) rfl ?_
            refine QJ.done ?_
            refine PJ.next ?_
            refine WJ.ret ?_
            refine PJ.block_ret (PJ.then_ret (PJ.then_ret (PJ.block_ret (PJ.then_ret ?_))))
            obtain rfl := Option.some.inj hm
            refine PJ.sel (L' := []) [] ⟨List.nodup_nil, rfl⟩ ?_
            exact PJ.retn (vs := [.bool false]) Try.results39 ⟨rfl, trivial⟩ ⟨rfl, rfl⟩
          · replace hm := ifF hm hb16
            refine WJ.skip ?_
            refine PJ.block_normal (PJ.next ?_)
            refine WJ.quiet ?_
            refine QJ.step (YldS.yld (y_bin rfl rfl rfl)) rfl ?_
            refine QJ.step (YldS.yld (y_move rfl)) rfl ?_
            refine QJ.done ?_
            exact PJ.round (w64 (x7 + 1)) [] hm ⟨rfl, rfl, rfl, rfl, trivial⟩ ⟨List.nodup_nil, rfl⟩
        · replace hm := ifF hm hb8
          refine WJ.exit ?_
          refine PJ.then_exit (PJ.then_exit (PJ.block_exit ?_))
          exact PJ.joined () [] hm trivial ⟨List.nodup_nil, rfl⟩
    · rintro _ hm
      subst hk6
      refine WJ.seq ?_
      refine WJ.quiet ?_
      refine QJ.step (YldS.yld (y_assign rfl)) rfl ?_
      refine QJ.done ?_
      refine PJ.next ?_
      refine WJ.ret ?_
      obtain rfl := Option.some.inj hm
      refine PJ.sel (L' := []) [] ⟨List.nodup_nil, rfl⟩ ?_
      exact PJ.retn (vs := [.bool true]) Try.results39 ⟨rfl, trivial⟩ ⟨rfl, rfl⟩

set_option maxRecDepth 100000 in
set_option maxHeartbeats 1000000 in
theorem ok_i_isLetter {N : Nat} {s1 : Str} {r : Bool} (hm : i_isLetter N s1 = some r) (w : World)  :
    Calls Try.prog 65 #[str s1] w (Ret (cx w) (.bool r)) := by
  unfold i_isLetter at hm
  refine Calls.enter [str s1] Try.func65 rfl Try.ntmps65 rfl ?_
  refine WJ.seq ?_
  refine WJ.quiet ?_
  refine QJ.step (YldS.yld (y_assign rfl)) rfl ?_
  refine QJ.done ?_
  refine PJ.next ?_
  refine WJ.seq ?_
  refine WJ.quiet ?_
  refine QJ.step (YldS.yld (y_move rfl)) rfl ?_
  refine QJ.step (YldS.yld (y_lenStr Try.runUnderlying9 rfl)) rfl ?_
  refine QJ.step (YldS.yld (y_bin rfl rfl rfl)) rfl ?_
  refine QJ.step (YldS.yld (y_move rfl)) rfl ?_
  obtain ⟨t2, h3, hm⟩ := bindS hm
  refine QJ.cut 3 [(9, .bool t2)] ?_ ?_
  · rcases Bool.eq_false_or_eq_true ((List.length s1 : Int) == 1) with hb4 | hb4
    · replace h3 := andT h3 hb4
      refine QJ.on rfl rfl (cB hb4) (YldS.yld (y_move rfl)) rfl ?_
      obtain ⟨r5, h6, h3⟩ := bindS h3
      refine QJ.on rfl rfl (cB hb4) (y_call Try.call39 rfl (RetG.quiet fun w hw => ok_i_isText h6 w )) rfl ?_
      refine QJ.step (YldS.yld (y_pick_t (cB hb4) rfl)) rfl ?_
      obtain rfl := Option.some.inj h3
      exact QJ.cut_end ⟨rfl, trivial⟩
    · obtain rfl := andF h3 hb4
      refine QJ.off rfl rfl (cB hb4) rfl rfl ?_
      refine QJ.off rfl rfl (cB hb4) rfl rfl ?_
      refine QJ.step (YldS.yld (y_pick_f (cB hb4) rfl)) rfl ?_
      exact QJ.cut_end ⟨rfl, trivial⟩
  refine QJ.step (YldS.yld (y_assign rfl)) rfl ?_
  refine QJ.done ?_
  refine PJ.next ?_
  refine WJ.ret ?_
  obtain rfl := Option.some.inj hm
  refine PJ.sel (L' := []) [] ⟨List.nodup_nil, rfl⟩ ?_
  exact PJ.retn (vs := [.bool t2]) Try.results65 ⟨rfl, trivial⟩ ⟨rfl, rfl⟩

set_option maxRecDepth 100000 in
set_option maxHeartbeats 1000000 in
theorem ok_i_validOver {N : Nat} {x1 : Over} {r : Bool} (hm : i_validOver N x1 = some r) (w : World)  :
    Calls Try.prog 58 #[.agg (Over.enc x1).toArray] w (Ret (cx w) (.bool r)) := by
  unfold i_validOver at hm
  refine Calls.enter [.agg (Over.enc x1).toArray] Try.func58 rfl Try.ntmps58 rfl ?_
  refine WJ.seq ?_
  refine WJ.reg ?_
  refine SJ.box (cs := [str x1.under, str x1.top, str x1.seen]) rfl rfl rfl fun g2 => ?_
  refine SJ.q (YldS.yld (y_assign rfl)) rfl ?_
  refine SJ.nil ?_
  refine PJ.next ?_
  refine WJ.seq ?_
  refine WJ.quiet ?_
  refine QJ.step (YldS.yld (y_fldB (o := 0) fld42_0 rfl)) rfl ?_
  refine QJ.step (YldS.yld (y_loadB (k := 0) (off := 0) (v := str x1.under) rfl Try.isAgg9 rfl rfl)) rfl ?_
  obtain ⟨r3, h4, hm⟩ := bindS hm
  refine QJ.step (y_call Try.call65 rfl (RetG.quiet fun w hw => ok_i_isLetter h4 w )) rfl ?_
  refine QJ.step (YldS.yld (y_move rfl)) rfl ?_
  obtain ⟨t5, h6, hm⟩ := bindS hm
  refine QJ.cut 4 [(1, pt g2 0), (10, .bool t5)] ?_ ?_
  · rcases Bool.eq_false_or_eq_true r3 with hb7 | hb7
    · replace h6 := andT h6 hb7
      refine QJ.on rfl rfl (cB hb7) (YldS.yld (y_fldB (o := 0) fld42_1 rfl)) rfl ?_
      refine QJ.on rfl rfl (cB hb7) (YldS.yld (y_loadB (k := 0) (off := 1) (v := str x1.top) rfl Try.isAgg9 rfl rfl)) rfl ?_
      obtain ⟨r8, h9, h6⟩ := bindS h6
      refine QJ.on rfl rfl (cB hb7) (y_call Try.call65 rfl (RetG.quiet fun w hw => ok_i_isLetter h9 w )) rfl ?_
      refine QJ.step (YldS.yld (y_pick_t (cB hb7) rfl)) rfl ?_
      obtain rfl := Option.some.inj h6
      exact QJ.cut_end ⟨rfl, rfl, trivial⟩
    · obtain rfl := andF h6 hb7
      refine QJ.off rfl rfl (cB hb7) rfl rfl ?_
      refine QJ.off rfl rfl (cB hb7) rfl rfl ?_
      refine QJ.off rfl rfl (cB hb7) rfl rfl ?_
      refine QJ.step (YldS.yld (y_pick_f (cB hb7) rfl)) rfl ?_
      exact QJ.cut_end ⟨rfl, rfl, trivial⟩
  refine QJ.step (YldS.yld (y_move rfl)) rfl ?_
  obtain ⟨t10, h11, hm⟩ := bindS hm
  refine QJ.cut 4 [(1, pt g2 0), (15, .bool t10)] ?_ ?_
  · rcases Bool.eq_false_or_eq_true t5 with hb12 | hb12
    · replace h11 := andT h11 hb12
      refine QJ.on rfl rfl (cB hb12) (YldS.yld (y_fldB (o := 0) fld42_2 rfl)) rfl ?_
      refine QJ.on rfl rfl (cB hb12) (YldS.yld (y_loadB (k := 0) (off := 2) (v := str x1.seen) rfl Try.isAgg9 rfl rfl)) rfl ?_
      obtain ⟨r13, h14, h11⟩ := bindS h11
      refine QJ.on rfl rfl (cB hb12) (y_call Try.call65 rfl (RetG.quiet fun w hw => ok_i_isLetter h14 w )) rfl ?_
      refine QJ.step (YldS.yld (y_pick_t (cB hb12) rfl)) rfl ?_
      obtain rfl := Option.some.inj h11
      exact QJ.cut_end ⟨rfl, rfl, trivial⟩
    · obtain rfl := andF h11 hb12
      refine QJ.off rfl rfl (cB hb12) rfl rfl ?_
      refine QJ.off rfl rfl (cB hb12) rfl rfl ?_
      refine QJ.off rfl rfl (cB hb12) rfl rfl ?_
      refine QJ.step (YldS.yld (y_pick_f (cB hb12) rfl)) rfl ?_
      exact QJ.cut_end ⟨rfl, rfl, trivial⟩
  refine QJ.step (YldS.yld (y_move rfl)) rfl ?_
  obtain ⟨t15, h16, hm⟩ := bindS hm
  refine QJ.cut 6 [(1, pt g2 0), (22, .bool t15)] ?_ ?_
  · rcases Bool.eq_false_or_eq_true t10 with hb17 | hb17
    · replace h16 := andT h16 hb17
      refine QJ.on rfl rfl (cB hb17) (YldS.yld (y_fldB (o := 0) fld42_0 rfl)) rfl ?_
      refine QJ.on rfl rfl (cB hb17) (YldS.yld (y_loadB (k := 0) (off := 0) (v := str x1.under) rfl Try.isAgg9 rfl rfl)) rfl ?_
      refine QJ.on rfl rfl (cB hb17) (YldS.yld (y_fldB (o := 0) fld42_1 rfl)) rfl ?_
      refine QJ.on rfl rfl (cB hb17) (YldS.yld (y_loadB (k := 0) (off := 1) (v := str x1.top) rfl Try.isAgg9 rfl rfl)) rfl ?_
      refine QJ.on rfl rfl (cB hb17) (YldS.yld (y_binS rfl rfl rfl)) rfl ?_
      refine QJ.step (YldS.yld (y_pick_t (cB hb17) rfl)) rfl ?_
      obtain rfl := Option.some.inj h16
      exact QJ.cut_end ⟨rfl, rfl, trivial⟩
    · obtain rfl := andF h16 hb17
      refine QJ.off rfl rfl (cB hb17) rfl rfl ?_
      refine QJ.off rfl rfl (cB hb17) rfl rfl ?_
      refine QJ.off rfl rfl (cB hb17) rfl rfl ?_
      refine QJ.off rfl rfl (cB hb17) rfl rfl ?_
      refine QJ.off rfl rfl (cB hb17) rfl rfl ?_
      refine QJ.step (YldS.yld (y_pick_f (cB hb17) rfl)) rfl ?_
      exact QJ.cut_end ⟨rfl, rfl, trivial⟩
  refine QJ.step (YldS.yld (y_move rfl)) rfl ?_
  obtain ⟨t18, h19, hm⟩ := bindS hm
  refine QJ.cut 6 [(1, pt g2 0), (29, .bool t18)] ?_ ?_
  · rcases Bool.eq_false_or_eq_true t15 with hb20 | hb20
    · replace h19 := andT h19 hb20
      refine QJ.on rfl rfl (cB hb20) (YldS.yld (y_fldB (o := 0) fld42_0 rfl)) rfl ?_
      refine QJ.on rfl rfl (cB hb20) (YldS.yld (y_loadB (k := 0) (off := 0) (v := str x1.under) rfl Try.isAgg9 rfl rfl)) rfl ?_
      refine QJ.on rfl rfl (cB hb20) (YldS.yld (y_fldB (o := 0) fld42_2 rfl)) rfl ?_
      refine QJ.on rfl rfl (cB hb20) (YldS.yld (y_loadB (k := 0) (off := 2) (v := str x1.seen) rfl Try.isAgg9 rfl rfl)) rfl ?_
      refine QJ.on rfl rfl (cB hb20) (YldS.yld (y_binS rfl rfl rfl)) rfl ?_
      refine QJ.step (YldS.yld (y_pick_t (cB hb20) rfl)) rfl ?_
      obtain rfl := Option.some.inj h19
      exact QJ.cut_end ⟨rfl, rfl, trivial⟩
    · obtain rfl := andF h19 hb20
      refine QJ.off rfl rfl (cB hb20) rfl rfl ?_
      refine QJ.off rfl rfl (cB hb20) rfl rfl ?_
      refine QJ.off rfl rfl (cB hb20) rfl rfl ?_
      refine QJ.off rfl rfl (cB hb20) rfl rfl ?_
      refine QJ.off rfl rfl (cB hb20) rfl rfl ?_
      refine QJ.step (YldS.yld (y_pick_f (cB hb20) rfl)) rfl ?_
      exact QJ.cut_end ⟨rfl, rfl, trivial⟩
  refine QJ.step (YldS.yld (y_move rfl)) rfl ?_
  obtain ⟨t21, h22, hm⟩ := bindS hm
  refine QJ.cut 6 [(36, .bool t21)] ?_ ?_
  · rcases Bool.eq_false_or_eq_true t18 with hb23 | hb23
    · replace h22 := andT h22 hb23
      refine QJ.on rfl rfl (cB hb23) (YldS.yld (y_fldB (o := 0) fld42_1 rfl)) rfl ?_
      refine QJ.on rfl rfl (cB hb23) (YldS.yld (y_loadB (k := 0) (off := 1) (v := str x1.top) rfl Try.isAgg9 rfl rfl)) rfl ?_
      refine QJ.on rfl rfl (cB hb23) (YldS.yld (y_fldB (o := 0) fld42_2 rfl)) rfl ?_
      refine QJ.on rfl rfl (cB hb23) (YldS.yld (y_loadB (k := 0) (off := 2) (v := str x1.seen) rfl Try.isAgg9 rfl rfl)) rfl ?_
      refine QJ.on rfl rfl (cB hb23) (YldS.yld (y_binS rfl rfl rfl)) rfl ?_
      refine QJ.step (YldS.yld (y_pick_t (cB hb23) rfl)) rfl ?_
      obtain rfl := Option.some.inj h22
      exact QJ.cut_end ⟨rfl, trivial⟩
    · obtain rfl := andF h22 hb23
      refine QJ.off rfl rfl (cB hb23) rfl rfl ?_
      refine QJ.off rfl rfl (cB hb23) rfl rfl ?_
      refine QJ.off rfl rfl (cB hb23) rfl rfl ?_
      refine QJ.off rfl rfl (cB hb23) rfl rfl ?_
      refine QJ.off rfl rfl (cB hb23) rfl rfl ?_
      refine QJ.step (YldS.yld (y_pick_f (cB hb23) rfl)) rfl ?_
      exact QJ.cut_end ⟨rfl, trivial⟩
  refine QJ.step (YldS.yld (y_assign rfl)) rfl ?_
  refine QJ.done ?_
  refine PJ.next ?_
  refine WJ.ret ?_
  obtain rfl := Option.some.inj hm
  refine PJ.sel (L' := []) [] ⟨List.nodup_nil, rfl⟩ ?_
  exact PJ.retn (vs := [.bool t21]) Try.results58 ⟨rfl, trivial⟩ ⟨rfl, rfl⟩

set_option maxRecDepth 100000 in
set_option maxHeartbeats 1000000 in
theorem ok_i_ValidOvers {N : Nat} {rules1 : List Over} {r : Bool} (hm : i_ValidOvers N rules1 = some r) (w : World) (v2 : Value) (hr3 : RdS w (cx w).Fz v2 fOver.rp rules1) :
    Calls Try.prog 38 #[v2] w (Ret (cx w) (.bool r)) := by
  unfold i_ValidOvers at hm
  refine Calls.enter [v2] Try.func38 rfl Try.ntmps38 rfl ?_
  refine WJ.seq ?_
  refine WJ.quiet ?_
  refine QJ.step (YldS.yld (y_assign rfl)) rfl ?_
  refine QJ.done ?_
  refine PJ.next ?_
  refine WJ.seq ?_
  refine WJ.seq ?_
  refine WJ.quiet ?_
  refine QJ.step (YldS.yld (y_move rfl)) rfl ?_
  refine QJ.step (YldS.yld (y_lenS Try.runUnderlying24 hr3 rfl)) rfl ?_
  refine QJ.step (YldS.yld (y_bin rfl rfl rfl)) rfl ?_
  refine QJ.done ?_
  refine PJ.next ?_
  refine WJ.cond (t := decide ((List.length rules1 : Int) > 20)) rfl (fun hb4 => ?_) (fun hb4 => ?_)
  · replace hm := ifT hm hb4
    refine WJ.seq ?_
    refine WJ.quiet ?_
    refine QJ.step (YldS.yld (y_assign rfl)) rfl ?_
    refine QJ.done ?_
    refine PJ.next ?_
    refine WJ.ret ?_
    refine PJ.then_ret ?_
    obtain rfl := Option.some.inj hm
    refine PJ.sel (L' := []) [] ⟨List.nodup_nil, rfl⟩ ?_
    exact PJ.retn (vs := [.bool false]) Try.results38 ⟨rfl, trivial⟩ ⟨rfl, rfl⟩
  · replace hm := ifF hm hb4
    refine WJ.skip ?_
    refine PJ.next ?_
    obtain ⟨k5, hk6, hm⟩ := withK_open hm
    refine WJ.join (X := Unit) (fun (_ : Unit) => k5  = some r) (fun (_ : Unit) => []) (fun (_ : Unit) => []) ?_ ?_
    · clear hk6
      refine WJ.seq ?_
      refine WJ.quiet ?_
      refine QJ.step (YldS.yld (y_move rfl)) rfl ?_
      refine QJ.step (YldS.yld (y_lenS Try.runUnderlying24 hr3 rfl)) rfl ?_
      refine QJ.step (YldS.yld (y_move rfl)) rfl ?_
      refine QJ.done ?_
      refine PJ.next ?_
      refine WJ.block ?_
      refine WJ.sel (L' := (fun (x : Int) => []) 0) [] ⟨List.nodup_nil, rfl⟩ ?_
      refine WJ.sub (m' := (fun (x : Int) => [(0, v2), (10, v2), (11, .int .i64 (List.length rules1 : Int)), (12, .int .i64 x)]) 0) ⟨rfl, rfl, rfl, rfl, trivial⟩ ?_
      refine WJ.loop (X := Int) (fun N (x : Int) => i_ValidOvers_l1 k5 rules1 N x = some r) (fun (x : Int) => [(0, v2), (10, v2), (11, .int .i64 (List.length rules1 : Int)), (12, .int .i64 x)]) (fun (x : Int) => []) ?_ N 0 hm
      · rintro N x7 hI
        have hm := hI; clear hI
        cases N with
        | zero => cases hm
        | succ N =>
        unfold i_ValidOvers_l1 at hm
        refine WJ.seq ?_
        refine WJ.quiet ?_
        refine QJ.step (YldS.yld (y_bin rfl rfl rfl)) rfl ?_
        refine QJ.done ?_
        refine PJ.next ?_
        refine WJ.seq ?_
        refine WJ.cond (t := decide (x7 < (List.length rules1 : Int))) rfl (fun hb8 => ?_) (fun hb8 => ?_)
        · replace hm := ifT hm hb8
          refine WJ.skip ?_
          refine PJ.next ?_
          obtain ⟨k10, hk10, hm⟩ := withK_open hm
          refine WJ.join (X := Unit) (fun (_ : Unit) => k10  = some r) (fun (_ : Unit) => [(0, v2), (10, v2), (11, .int .i64 (List.length rules1 : Int)), (12, .int .i64 x7)]) (fun (_ : Unit) => []) ?_ ?_
          · clear hk10
            refine WJ.block ?_
            refine WJ.seq ?_
            refine WJ.reg ?_
            refine SJ.q (YldS.yld (y_move rfl)) rfl ?_
            obtain ⟨e11, h12, hm⟩ := bindS hm
            obtain ⟨ad13, _, rfl, ha14, hy15⟩ := hr3.elem h12
            refine SJ.q (YldS.yld (hy15 Try.runUnderlying24 Try.sizeOf42 rfl rfl)) rfl ?_
            refine SJ.q (YldS.yld (y_loadN Try.isAgg42 Try.sizeOf42 rfl ha14 St.frozenC rfl)) rfl ?_
            refine SJ.alloc (cs := [str [], str [], str []]) Try.zeroValue42 rfl rfl fun g16 => ?_
            refine SJ.q (YldS.yld (y_assign rfl)) rfl ?_
            refine SJ.storeL (k := 0) (off := 0) (us := [str e11.under, str e11.top, str e11.seen]) rfl rfl rfl rfl Try.sizeOf42 rfl rfl ?_
            refine SJ.nil ?_
            refine PJ.next ?_
            refine WJ.seq ?_
            refine WJ.seq ?_
            refine WJ.quiet ?_
            refine QJ.step (YldS.yld (y_loadBN (k := 0) (off := 0) (us := [str e11.under, str e11.top, str e11.seen]) rfl Try.isAgg42 Try.sizeOf42 rfl rfl)) rfl ?_
            obtain ⟨r17, h18, hm⟩ := bindS hm
            refine QJ.step (y_call Try.call58 rfl (RetG.quiet fun w hw => ok_i_validOver h18 w )) rfl ?_
            refine QJ.step (YldS.yld (y_not rfl)) rfl ?_
            refine QJ.done ?_
            refine PJ.next ?_
            refine WJ.cond (t := !r17) rfl (fun hb19 => ?_) (fun hb19 => ?_)
            · replace hm := ifT hm hb19
              refine WJ.seq ?_
              refine WJ.quiet ?_
              refine QJ.step (YldS.yld (y_assign rfl)) rfl ?_
              refine QJ.done ?_
              refine PJ.next ?_
              refine WJ.ret ?_
              refine PJ.then_ret (PJ.block_ret (PJ.then_ret (PJ.then_ret (PJ.block_ret (PJ.then_ret ?_)))))
              obtain rfl := Option.some.inj hm
              refine PJ.sel (L' := []) [] ⟨List.nodup_nil, rfl⟩ ?_
              exact PJ.retn (vs := [.bool false]) Try.results38 ⟨rfl, trivial⟩ ⟨rfl, rfl⟩
            · replace hm := ifF hm hb19
              refine WJ.skip ?_
              refine PJ.next ?_
              refine WJ.seq ?_
              refine WJ.quiet ?_
              refine QJ.step (YldS.yld (y_move rfl)) rfl ?_
              refine QJ.step (YldS.yld (y_move rfl)) rfl ?_
              obtain ⟨l20, h21, hm⟩ := bindS hm
              obtain ⟨v22, hr23, hy24⟩ := RdS.part (i := none) (j := some x7) hr3 h21
              refine QJ.step (YldS.yld (hy24 Try.runUnderlying24 Try.sizeOf42 rfl trivial ⟨_, rfl⟩)) rfl ?_
              refine QJ.step (YldS.yld (y_lenS Try.runUnderlying24 hr23 rfl)) rfl ?_
              refine QJ.step (YldS.yld (y_move rfl)) rfl ?_
              refine QJ.done ?_
              refine PJ.next ?_
              refine WJ.block ?_
              refine WJ.sel (L' := (fun (x : Int) => [box g16 42 [str e11.under, str e11.top, str e11.seen]]) 0) [0] ⟨by decide, rfl⟩ ?_
              refine WJ.sub (m' := (fun (x : Int) => [(0, v2), (4, pt g16 0), (10, v2), (11, .int .i64 (List.length rules1 : Int)), (12, .int .i64 x7), (22, v22), (23, .int .i64 (List.length l20 : Int)), (24, .int .i64 x)]) 0) ⟨rfl, rfl, rfl, rfl, rfl, rfl, rfl, rfl, trivial⟩ ?_
              refine WJ.loop (X := Int) (fun N (x : Int) => i_ValidOvers_l2 k10 e11 l20 N x = some r) (fun (x : Int) => [(0, v2), (4, pt g16 0), (10, v2), (11, .int .i64 (List.length rules1 : Int)), (12, .int .i64 x7), (22, v22), (23, .int .i64 (List.length l20 : Int)), (24, .int .i64 x)]) (fun (x : Int) => [box g16 42 [str e11.under, str e11.top, str e11.seen]]) ?_ N 0 hm
              · rintro N x25 hI
                have hm := hI; clear hI
                cases N with
                | zero => cases hm
                | succ N =>
                unfold i_ValidOvers_l2 at hm
                refine WJ.seq ?_
                refine WJ.quiet ?_
                refine QJ.step (YldS.yld (y_bin rfl rfl rfl)) rfl ?_
                refine QJ.done ?_
                refine PJ.next ?_
                refine WJ.seq ?_
                refine WJ.cond (t := decide (x25 < (List.length l20 : Int))) rfl (fun hb26 => ?_) (fun hb26 => ?_)
                · replace hm := ifT hm hb26
                  refine WJ.skip ?_
                  refine PJ.next ?_
                  refine WJ.seq ?_
                  refine WJ.block ?_
                  refine WJ.seq ?_
                  refine WJ.reg ?_
                  obtain ⟨e27, h28, hm⟩ := bindS hm
                  obtain ⟨ad29, _, rfl, ha30, hy31⟩ := hr23.elem h28
                  refine SJ.q (YldS.yld (hy31 Try.runUnderlying24 Try.sizeOf42 rfl rfl)) rfl ?_
                  refine SJ.q (YldS.yld (y_loadN Try.isAgg42 Try.sizeOf42 rfl ha30 St.frozenC rfl)) rfl ?_
                  refine SJ.alloc (cs := [str [], str [], str []]) Try.zeroValue42 rfl rfl fun g32 => ?_
                  refine SJ.storeL (k := 0) (off := 0) (us := [str e27.under, str e27.top, str e27.seen]) rfl rfl rfl rfl Try.sizeOf42 rfl rfl ?_
                  refine SJ.nil ?_
                  refine PJ.next ?_
                  refine WJ.seq ?_
                  refine WJ.quiet ?_
                  refine QJ.step (YldS.yld (y_fldB (o := 0) fld42_0 rfl)) rfl ?_
                  refine QJ.step (YldS.yld (y_loadB (k := 1) (off := 0) (v := str e11.under) rfl Try.isAgg9 rfl rfl)) rfl ?_
                  refine QJ.step (YldS.yld (y_fldB (o := 0) fld42_0 rfl)) rfl ?_
                  refine QJ.step (YldS.yld (y_loadB (k := 0) (off := 0) (v := str e27.under) rfl Try.isAgg9 rfl rfl)) rfl ?_
                  refine QJ.step (YldS.yld (y_binS rfl rfl rfl)) rfl ?_
                  refine QJ.step (YldS.yld (y_move rfl)) rfl ?_
                  obtain ⟨t33, h34, hm⟩ := bindS hm
                  refine QJ.cut 6 [(0, v2), (4, pt g16 0), (10, v2), (11, .int .i64 (List.length rules1 : Int)), (12, .int .i64 x7), (22, v22), (23, .int .i64 (List.length l20 : Int)), (24, .int .i64 x25), (39, .bool t33)] ?_ ?_
                  · rcases Bool.eq_false_or_eq_true (e11.under == e27.under) with hb35 | hb35
                    · replace h34 := andT h34 hb35
                      refine QJ.on rfl rfl (cB hb35) (YldS.yld (y_fldB (o := 0) fld42_1 rfl)) rfl ?_
                      refine QJ.on rfl rfl (cB hb35) (YldS.yld (y_loadB (k := 1) (off := 1) (v := str e11.top) rfl Try.isAgg9 rfl rfl)) rfl ?_
                      refine QJ.on rfl rfl (cB hb35) (YldS.yld (y_fldB (o := 0) fld42_1 rfl)) rfl ?_
                      refine QJ.on rfl rfl (cB hb35) (YldS.yld (y_loadB (k := 0) (off := 1) (v := str e27.top) rfl Try.isAgg9 rfl rfl)) rfl ?_
                      refine QJ.on rfl rfl (cB hb35) (YldS.yld (y_binS rfl rfl rfl)) rfl ?_
                      refine QJ.step (YldS.yld (y_pick_t (cB hb35) rfl)) rfl ?_
                      obtain rfl := Option.some.inj h34
                      exact QJ.cut_end ⟨rfl, rfl, rfl, rfl, rfl, rfl, rfl, rfl, rfl, trivial⟩
                    · obtain rfl := andF h34 hb35
                      refine QJ.off rfl rfl (cB hb35) rfl rfl ?_
                      refine QJ.off rfl rfl (cB hb35) rfl rfl ?_
                      refine QJ.off rfl rfl (cB hb35) rfl rfl ?_
                      refine QJ.off rfl rfl (cB hb35) rfl rfl ?_
                      refine QJ.off rfl rfl (cB hb35) rfl rfl ?_
                      refine QJ.step (YldS.yld (y_pick_f (cB hb35) rfl)) rfl ?_
                      exact QJ.cut_end ⟨rfl, rfl, rfl, rfl, rfl, rfl, rfl, rfl, rfl, trivial⟩
                  refine QJ.done ?_
                  refine PJ.next ?_
                  refine WJ.cond (t := t33) rfl (fun hb36 => ?_) (fun hb36 => ?_)
                  · replace hm := ifT hm hb36
                    refine WJ.seq ?_
                    refine WJ.quiet ?_
                    refine QJ.step (YldS.yld (y_assign rfl)) rfl ?_
                    refine QJ.done ?_
                    refine PJ.next ?_
                    refine WJ.ret ?_
                    refine PJ.block_ret (PJ.then_ret (PJ.then_ret (PJ.block_ret (PJ.block_ret (PJ.then_ret (PJ.then_ret (PJ.block_ret (PJ.then_ret ?_))))))))
                    obtain rfl := Option.some.inj hm
                    refine PJ.sel (L' := []) [] ⟨List.nodup_nil, rfl⟩ ?_
                    exact PJ.retn (vs := [.bool false]) Try.results38 ⟨rfl, trivial⟩ ⟨rfl, rfl⟩
                  · replace hm := ifF hm hb36
                    refine WJ.skip ?_
                    refine PJ.block_normal (PJ.next ?_)
                    refine WJ.quiet ?_
                    refine QJ.step (YldS.yld (y_bin rfl rfl rfl)) rfl ?_
                    refine QJ.step (YldS.yld (y_move rfl)) rfl ?_
                    refine QJ.done ?_
                    exact PJ.round (w64 (x25 + 1)) [1] hm ⟨rfl, rfl, rfl, rfl, rfl, rfl, rfl, rfl, trivial⟩ ⟨by decide, rfl⟩
                · replace hm := ifF hm hb26
                  refine WJ.exit ?_
                  refine PJ.then_exit (PJ.then_exit (PJ.block_exit (PJ.block_normal ?_)))
                  exact PJ.joined () [] hm ⟨rfl, rfl, rfl, rfl, trivial⟩ ⟨List.nodup_nil, rfl⟩
          · rintro _ hm
            subst hk10
            refine WJ.quiet ?_
            refine QJ.step (YldS.yld (y_bin rfl rfl rfl)) rfl ?_
            refine QJ.step (YldS.yld (y_move rfl)) rfl ?_
            refine QJ.done ?_
            exact PJ.round (w64 (x7 + 1)) [] hm ⟨rfl, rfl, rfl, rfl, trivial⟩ ⟨List.nodup_nil, rfl⟩
        · replace hm := ifF hm hb8
          refine WJ.exit ?_
          refine PJ.then_exit (PJ.then_exit (PJ.block_exit ?_))
          exact PJ.joined () [] hm trivial ⟨List.nodup_nil, rfl⟩
    · rintro _ hm
      subst hk6
      refine WJ.seq ?_
      refine WJ.quiet ?_
      refine QJ.step (YldS.yld (y_assign rfl)) rfl ?_
      refine QJ.done ?_
      refine PJ.next ?_
      refine WJ.ret ?_
      obtain rfl := Option.some.inj hm
      refine PJ.sel (L' := []) [] ⟨List.nodup_nil, rfl⟩ ?_
      exact PJ.retn (vs := [.bool true]) Try.results38 ⟨rfl, trivial⟩ ⟨rfl, rfl⟩

set_option maxRecDepth 100000 in
set_option maxHeartbeats 1000000 in
theorem ok_i_seen {N : Nat} {rules1 : List Over} {under4 : UInt8} {top5 : UInt8} {r : UInt8 × Bool} (hm : i_seen N rules1 under4 top5 = some r) (w : World) (v2 : Value) (hr3 : RdS w (cx w).Fz v2 fOver.rp rules1) :
    Calls Try.prog 40 #[v2, .int .u8 (UInt8.toNat under4 : Int), .int .u8 (UInt8.toNat top5 : Int)] w (Ret (cx w) (tup [.int .u8 (UInt8.toNat r.1 : Int), .bool r.2])) := by
  unfold i_seen at hm
  refine Calls.enter [v2, .int .u8 (UInt8.toNat under4 : Int), .int .u8 (UInt8.toNat top5 : Int)] Try.func40 rfl Try.ntmps40 rfl ?_
  refine WJ.seq ?_
  refine WJ.quiet ?_
  refine QJ.step (YldS.yld (y_assign rfl)) rfl ?_
  refine QJ.step (YldS.yld (y_assign rfl)) rfl ?_
  refine QJ.done ?_
  refine PJ.next ?_
  refine WJ.seq ?_
  refine WJ.block ?_
  refine WJ.seq ?_
  refine WJ.quiet ?_
  refine QJ.step (YldS.yld (y_move rfl)) rfl ?_
  refine QJ.step (YldS.yld (y_move rfl)) rfl ?_
  refine QJ.step (YldS.yld (y_bin8 under4 top5 rfl rfl rfl)) rfl ?_
  refine QJ.step (YldS.yld (y_move rfl)) rfl ?_
  obtain ⟨t6, h7, hm⟩ := bindS hm
  refine QJ.cut 3 [(0, v2), (1, .int .u8 (UInt8.toNat under4 : Int)), (2, .int .u8 (UInt8.toNat top5 : Int)), (17, .bool t6)] ?_ ?_
  · rcases Bool.eq_false_or_eq_true (under4 == top5) with hb8 | hb8
    · obtain rfl := orT h7 hb8
      refine QJ.off rfl rfl (cB hb8) rfl rfl ?_
      refine QJ.off rfl rfl (cB hb8) rfl rfl ?_
      refine QJ.step (YldS.yld (y_pick_t (cB hb8) rfl)) rfl ?_
      exact QJ.cut_end ⟨rfl, rfl, rfl, rfl, trivial⟩
    · replace h7 := orF h7 hb8
      refine QJ.on rfl rfl (cB hb8) (YldS.yld (y_move rfl)) rfl ?_
      refine QJ.on rfl rfl (cB hb8) (YldS.yld (y_bin8 top5 (32 : UInt8) rfl rfl rfl)) rfl ?_
      refine QJ.step (YldS.yld (y_pick_f (cB hb8) rfl)) rfl ?_
      obtain rfl := Option.some.inj h7
      exact QJ.cut_end ⟨rfl, rfl, rfl, rfl, trivial⟩
  refine QJ.step (YldS.yld (y_assign rfl)) rfl ?_
  refine QJ.done ?_
  refine PJ.next ?_
  refine WJ.cond (t := t6) rfl (fun hb9 => ?_) (fun hb9 => ?_)
  · replace hm := ifT hm hb9
    refine WJ.seq ?_
    refine WJ.quiet ?_
    refine QJ.step (YldS.yld (y_move rfl)) rfl ?_
    refine QJ.step (YldS.yld (y_assign rfl)) rfl ?_
    refine QJ.step (YldS.yld (y_assign rfl)) rfl ?_
    refine QJ.done ?_
    refine PJ.next ?_
    refine WJ.ret ?_
    refine PJ.block_ret (PJ.then_ret ?_)
    obtain rfl := Option.some.inj hm
    refine PJ.sel (L' := []) [] ⟨List.nodup_nil, rfl⟩ ?_
    exact PJ.retn (vs := [.int .u8 (UInt8.toNat under4 : Int), .bool true]) Try.results40 ⟨rfl, rfl, trivial⟩ ⟨rfl, rfl⟩
  · replace hm := ifF hm hb9
    refine WJ.seq ?_
    refine WJ.quiet ?_
    refine QJ.step (YldS.yld (y_move rfl)) rfl ?_
    refine QJ.step (YldS.yld (y_bin8 under4 (32 : UInt8) rfl rfl rfl)) rfl ?_
    refine QJ.step (YldS.yld (y_assign rfl)) rfl ?_
    refine QJ.done ?_
    refine PJ.next ?_
    refine WJ.cond (t := (under4 == (32 : UInt8))) rfl (fun hb10 => ?_) (fun hb10 => ?_)
    · replace hm := ifT hm hb10
      refine WJ.seq ?_
      refine WJ.quiet ?_
      refine QJ.step (YldS.yld (y_move rfl)) rfl ?_
      refine QJ.step (YldS.yld (y_assign rfl)) rfl ?_
      refine QJ.step (YldS.yld (y_assign rfl)) rfl ?_
      refine QJ.done ?_
      refine PJ.next ?_
      refine WJ.ret ?_
      refine PJ.block_ret (PJ.then_ret ?_)
      obtain rfl := Option.some.inj hm
      refine PJ.sel (L' := []) [] ⟨List.nodup_nil, rfl⟩ ?_
      exact PJ.retn (vs := [.int .u8 (UInt8.toNat top5 : Int), .bool true]) Try.results40 ⟨rfl, rfl, trivial⟩ ⟨rfl, rfl⟩
    · replace hm := ifF hm hb10
      refine WJ.skip ?_
      refine PJ.block_normal (PJ.next ?_)
      obtain ⟨k11, hk12, hm⟩ := withK_open hm
      refine WJ.join (X := Unit) (fun (_ : Unit) => k11  = some r) (fun (_ : Unit) => []) (fun (_ : Unit) => []) ?_ ?_
      · clear hk12
        refine WJ.seq ?_
        refine WJ.quiet ?_
        refine QJ.step (YldS.yld (y_move rfl)) rfl ?_
        refine QJ.step (YldS.yld (y_lenS Try.runUnderlying24 hr3 rfl)) rfl ?_
        refine QJ.step (YldS.yld (y_move rfl)) rfl ?_
        refine QJ.done ?_
        refine PJ.next ?_
        refine WJ.block ?_
        refine WJ.sel (L' := (fun (x : Int) => []) 0) [] ⟨List.nodup_nil, rfl⟩ ?_
        refine WJ.sub (m' := (fun (x : Int) => [(1, .int .u8 (UInt8.toNat under4 : Int)), (2, .int .u8 (UInt8.toNat top5 : Int)), (23, v2), (24, .int .i64 (List.length rules1 : Int)), (25, .int .i64 x)]) 0) ⟨rfl, rfl, rfl, rfl, rfl, trivial⟩ ?_
        refine WJ.loop (X := Int) (fun N (x : Int) => i_seen_l1 k11 rules1 under4 top5 N x = some r) (fun (x : Int) => [(1, .int .u8 (UInt8.toNat under4 : Int)), (2, .int .u8 (UInt8.toNat top5 : Int)), (23, v2), (24, .int .i64 (List.length rules1 : Int)), (25, .int .i64 x)]) (fun (x : Int) => []) ?_ N 0 hm
        · rintro N x13 hI
          have hm := hI; clear hI
          cases N with
          | zero => cases hm
          | succ N =>
          unfold i_seen_l1 at hm
          refine WJ.seq ?_
          refine WJ.quiet ?_
          refine QJ.step (YldS.yld (y_bin rfl rfl rfl)) rfl ?_
          refine QJ.done ?_
          refine PJ.next ?_
          refine WJ.seq ?_
          refine WJ.cond (t := decide (x13 < (List.length rules1 : Int))) rfl (fun hb14 => ?_) (fun hb14 => ?_)
          · replace hm := ifT hm hb14
            refine WJ.skip ?_
            refine PJ.next ?_
            refine WJ.seq ?_
            refine WJ.block ?_
            refine WJ.seq ?_
            refine WJ.reg ?_
            obtain ⟨e15, h16, hm⟩ := bindS hm
            obtain ⟨ad17, _, rfl, ha18, hy19⟩ := hr3.elem h16
            refine SJ.q (YldS.yld (hy19 Try.runUnderlying24 Try.sizeOf42 rfl rfl)) rfl ?_
            refine SJ.q (YldS.yld (y_loadN Try.isAgg42 Try.sizeOf42 rfl ha18 St.frozenC rfl)) rfl ?_
            refine SJ.alloc (cs := [str [], str [], str []]) Try.zeroValue42 rfl rfl fun g20 => ?_
            refine SJ.storeL (k := 0) (off := 0) (us := [str e15.under, str e15.top, str e15.seen]) rfl rfl rfl rfl Try.sizeOf42 rfl rfl ?_
            refine SJ.nil ?_
            refine PJ.next ?_
            refine WJ.seq ?_
            refine WJ.quiet ?_
            refine QJ.step (YldS.yld (y_fldB (o := 0) fld42_0 rfl)) rfl ?_
            refine QJ.step (YldS.yld (y_loadB (k := 0) (off := 0) (v := str e15.under) rfl Try.isAgg9 rfl rfl)) rfl ?_
            obtain ⟨c21, h22, hm⟩ := bindS hm
            refine QJ.step (YldS.yld (y_idxStr Try.runUnderlying9 rfl rfl h22)) rfl ?_
            refine QJ.step (YldS.yld (y_move rfl)) rfl ?_
            refine QJ.step (YldS.yld (y_bin8 c21 under4 rfl rfl rfl)) rfl ?_
            refine QJ.step (YldS.yld (y_move rfl)) rfl ?_
            obtain ⟨t23, h24, hm⟩ := bindS hm
            refine QJ.cut 6 [(1, .int .u8 (UInt8.toNat under4 : Int)), (2, .int .u8 (UInt8.toNat top5 : Int)), (9, pt g20 0), (23, v2), (24, .int .i64 (List.length rules1 : Int)), (25, .int .i64 x13), (40, .bool t23)] ?_ ?_
            · rcases Bool.eq_false_or_eq_true (c21 == under4) with hb25 | hb25
              · replace h24 := andT h24 hb25
                refine QJ.on rfl rfl (cB hb25) (YldS.yld (y_fldB (o := 0) fld42_1 rfl)) rfl ?_
                refine QJ.on rfl rfl (cB hb25) (YldS.yld (y_loadB (k := 0) (off := 1) (v := str e15.top) rfl Try.isAgg9 rfl rfl)) rfl ?_
                obtain ⟨c26, h27, h24⟩ := bindS h24
                refine QJ.on rfl rfl (cB hb25) (YldS.yld (y_idxStr Try.runUnderlying9 rfl rfl h27)) rfl ?_
                refine QJ.on rfl rfl (cB hb25) (YldS.yld (y_move rfl)) rfl ?_
                refine QJ.on rfl rfl (cB hb25) (YldS.yld (y_bin8 c26 top5 rfl rfl rfl)) rfl ?_
                refine QJ.step (YldS.yld (y_pick_t (cB hb25) rfl)) rfl ?_
                obtain rfl := Option.some.inj h24
                exact QJ.cut_end ⟨rfl, rfl, rfl, rfl, rfl, rfl, rfl, trivial⟩
              · obtain rfl := andF h24 hb25
                refine QJ.off rfl rfl (cB hb25) rfl rfl ?_
                refine QJ.off rfl rfl (cB hb25) rfl rfl ?_
                refine QJ.off rfl rfl (cB hb25) rfl rfl ?_
                refine QJ.off rfl rfl (cB hb25) rfl rfl ?_
                refine QJ.off rfl rfl (cB hb25) rfl rfl ?_
                refine QJ.step (YldS.yld (y_pick_f (cB hb25) rfl)) rfl ?_
                exact QJ.cut_end ⟨rfl, rfl, rfl, rfl, rfl, rfl, rfl, trivial⟩
            refine QJ.done ?_
            refine PJ.next ?_
            refine WJ.cond (t := t23) rfl (fun hb28 => ?_) (fun hb28 => ?_)
            · replace hm := ifT hm hb28
              refine WJ.seq ?_
              refine WJ.quiet ?_
              refine QJ.step (YldS.yld (y_fldB (o := 0) fld42_2 rfl)) rfl ?_
              refine QJ.step (YldS.yld (y_loadB (k := 0) (off := 2) (v := str e15.seen) rfl Try.isAgg9 rfl rfl)) rfl ?_
              obtain ⟨c29, h30, hm⟩ := bindS hm
              refine QJ.step (YldS.yld (y_idxStr Try.runUnderlying9 rfl rfl h30)) rfl ?_
              refine QJ.step (YldS.yld (y_assign rfl)) rfl ?_
              refine QJ.step (YldS.yld (y_assign rfl)) rfl ?_
              refine QJ.done ?_
              refine PJ.next ?_
              refine WJ.ret ?_
              refine PJ.block_ret (PJ.then_ret (PJ.then_ret (PJ.block_ret (PJ.then_ret ?_))))
              obtain rfl := Option.some.inj hm
              refine PJ.sel (L' := []) [] ⟨List.nodup_nil, rfl⟩ ?_
              exact PJ.retn (vs := [.int .u8 (UInt8.toNat c29 : Int), .bool true]) Try.results40 ⟨rfl, rfl, trivial⟩ ⟨rfl, rfl⟩
            · replace hm := ifF hm hb28
              refine WJ.skip ?_
              refine PJ.block_normal (PJ.next ?_)
              refine WJ.quiet ?_
              refine QJ.step (YldS.yld (y_bin rfl rfl rfl)) rfl ?_
              refine QJ.step (YldS.yld (y_move rfl)) rfl ?_
              refine QJ.done ?_
              exact PJ.round (w64 (x13 + 1)) [] hm ⟨rfl, rfl, rfl, rfl, rfl, trivial⟩ ⟨List.nodup_nil, rfl⟩
          · replace hm := ifF hm hb14
            refine WJ.exit ?_
            refine PJ.then_exit (PJ.then_exit (PJ.block_exit ?_))
            exact PJ.joined () [] hm trivial ⟨List.nodup_nil, rfl⟩
      · rintro _ hm
        subst hk12
        refine WJ.seq ?_
        refine WJ.quiet ?_
        refine QJ.step (YldS.yld (y_assign rfl)) rfl ?_
        refine QJ.step (YldS.yld (y_assign rfl)) rfl ?_
        refine QJ.done ?_
        refine PJ.next ?_
        refine WJ.ret ?_
        obtain rfl := Option.some.inj hm
        refine PJ.sel (L' := []) [] ⟨List.nodup_nil, rfl⟩ ?_
        exact PJ.retn (vs := [.int .u8 (UInt8.toNat 0 : Int), .bool false]) Try.results40 ⟨rfl, rfl, trivial⟩ ⟨rfl, rfl⟩

set_option maxRecDepth 100000 in
set_option maxHeartbeats 1000000 in
theorem ok_i_SeenOver {N : Nat} {rules1 : List Over} {under4 : Str} {top5 : Str} {r : Str × Int} (hm : i_SeenOver N rules1 under4 top5 = some r) (w : World) (v2 : Value) (hr3 : RdS w (cx w).Fz v2 fOver.rp rules1) :
    Calls Try.prog 7 #[v2, str under4, str top5] w (Ret (cx w) (tup [str r.1, .int .i64 r.2])) := by
  unfold i_SeenOver at hm
  refine Calls.enter [v2, str under4, str top5] Try.func7 rfl Try.ntmps7 rfl ?_
  refine WJ.seq ?_
  refine WJ.quiet ?_
  refine QJ.step (YldS.yld (y_assign rfl)) rfl ?_
  refine QJ.step (YldS.yld (y_assign rfl)) rfl ?_
  refine QJ.done ?_
  refine PJ.next ?_
  refine WJ.seq ?_
  refine WJ.seq ?_
  refine WJ.quiet ?_
  refine QJ.step (YldS.yld (y_move rfl)) rfl ?_
  obtain ⟨r6, h7, hm⟩ := bindS hm
  refine QJ.step (y_call Try.call38 rfl (RetG.quiet fun w hw => ok_i_ValidOvers h7 w _ (hr3.st hw))) rfl ?_
  refine QJ.step (YldS.yld (y_not rfl)) rfl ?_
  refine QJ.done ?_
  refine PJ.next ?_
  refine WJ.cond (t := !r6) rfl (fun hb8 => ?_) (fun hb8 => ?_)
  · replace hm := ifT hm hb8
    refine WJ.seq ?_
    refine WJ.quiet ?_
    refine QJ.step (YldS.yld (y_assign rfl)) rfl ?_
    refine QJ.step (YldS.yld (y_assign rfl)) rfl ?_
    refine QJ.done ?_
    refine PJ.next ?_
    refine WJ.ret ?_
    refine PJ.then_ret ?_
    obtain rfl := Option.some.inj hm
    refine PJ.sel (L' := []) [] ⟨List.nodup_nil, rfl⟩ ?_
    exact PJ.retn (vs := [str [], .int .i64 1]) Try.results7 ⟨rfl, rfl, trivial⟩ ⟨rfl, rfl⟩
  · replace hm := ifF hm hb8
    refine WJ.skip ?_
    refine PJ.next ?_
    refine WJ.seq ?_
    refine WJ.seq ?_
    refine WJ.quiet ?_
    refine QJ.step (YldS.yld (y_move rfl)) rfl ?_
    refine QJ.step (YldS.yld (y_lenStr Try.runUnderlying9 rfl)) rfl ?_
    refine QJ.step (YldS.yld (y_bin rfl rfl rfl)) rfl ?_
    refine QJ.step (YldS.yld (y_move rfl)) rfl ?_
    obtain ⟨t9, h10, hm⟩ := bindS hm
    refine QJ.cut 4 [(0, v2), (1, str under4), (2, str top5), (20, .bool t9)] ?_ ?_
    · rcases Bool.eq_false_or_eq_true ((List.length under4 : Int) != 1) with hb11 | hb11
      · obtain rfl := orT h10 hb11
        refine QJ.off rfl rfl (cB hb11) rfl rfl ?_
        refine QJ.off rfl rfl (cB hb11) rfl rfl ?_
        refine QJ.off rfl rfl (cB hb11) rfl rfl ?_
        refine QJ.step (YldS.yld (y_pick_t (cB hb11) rfl)) rfl ?_
        exact QJ.cut_end ⟨rfl, rfl, rfl, rfl, trivial⟩
      · replace h10 := orF h10 hb11
        refine QJ.on rfl rfl (cB hb11) (YldS.yld (y_move rfl)) rfl ?_
        refine QJ.on rfl rfl (cB hb11) (YldS.yld (y_lenStr Try.runUnderlying9 rfl)) rfl ?_
        refine QJ.on rfl rfl (cB hb11) (YldS.yld (y_bin rfl rfl rfl)) rfl ?_
        refine QJ.step (YldS.yld (y_pick_f (cB hb11) rfl)) rfl ?_
        obtain rfl := Option.some.inj h10
        exact QJ.cut_end ⟨rfl, rfl, rfl, rfl, trivial⟩
    refine QJ.step (YldS.yld (y_move rfl)) rfl ?_
    obtain ⟨t12, h13, hm⟩ := bindS hm
    refine QJ.cut 6 [(0, v2), (1, str under4), (2, str top5), (27, .bool t12)] ?_ ?_
    · rcases Bool.eq_false_or_eq_true t9 with hb14 | hb14
      · obtain rfl := orT h13 hb14
        refine QJ.off rfl rfl (cB hb14) rfl rfl ?_
        refine QJ.off rfl rfl (cB hb14) rfl rfl ?_
        refine QJ.off rfl rfl (cB hb14) rfl rfl ?_
        refine QJ.off rfl rfl (cB hb14) rfl rfl ?_
        refine QJ.off rfl rfl (cB hb14) rfl rfl ?_
        refine QJ.step (YldS.yld (y_pick_t (cB hb14) rfl)) rfl ?_
        exact QJ.cut_end ⟨rfl, rfl, rfl, rfl, trivial⟩
      · replace h13 := orF h13 hb14
        refine QJ.on rfl rfl (cB hb14) (YldS.yld (y_move rfl)) rfl ?_
        refine QJ.on rfl rfl (cB hb14) (YldS.yld (y_move rfl)) rfl ?_
        obtain ⟨s15, h16, h13⟩ := bindS h13
        refine QJ.on rfl rfl (cB hb14) (YldS.yld (y_cat h16 rfl rfl)) rfl ?_
        obtain ⟨r17, h18, h13⟩ := bindS h13
        refine QJ.on rfl rfl (cB hb14) (y_call Try.call39 rfl (RetG.quiet fun w hw => ok_i_isText h18 w )) rfl ?_
        refine QJ.on rfl rfl (cB hb14) (YldS.yld (y_not rfl)) rfl ?_
        refine QJ.step (YldS.yld (y_pick_f (cB hb14) rfl)) rfl ?_
        obtain rfl := Option.some.inj h13
        exact QJ.cut_end ⟨rfl, rfl, rfl, rfl, trivial⟩
    refine QJ.done ?_
    refine PJ.next ?_
    refine WJ.cond (t := t12) rfl (fun hb19 => ?_) (fun hb19 => ?_)
    · replace hm := ifT hm hb19
      refine WJ.seq ?_
      refine WJ.quiet ?_
      refine QJ.step (YldS.yld (y_assign rfl)) rfl ?_
      refine QJ.step (YldS.yld (y_assign rfl)) rfl ?_
      refine QJ.done ?_
      refine PJ.next ?_
      refine WJ.ret ?_
      refine PJ.then_ret ?_
      obtain rfl := Option.some.inj hm
      refine PJ.sel (L' := []) [] ⟨List.nodup_nil, rfl⟩ ?_
      exact PJ.retn (vs := [str [], .int .i64 2]) Try.results7 ⟨rfl, rfl, trivial⟩ ⟨rfl, rfl⟩
    · replace hm := ifF hm hb19
      refine WJ.skip ?_
      refine PJ.next ?_
      refine WJ.seq ?_
      refine WJ.quiet_draw follows (by kernel_rfl) ?_
      refine QJ.step (YldS.yld (y_move rfl)) rfl ?_
      refine QJ.step (YldS.yld (y_move rfl)) rfl ?_
      obtain ⟨c20, h21, hm⟩ := bindS hm
      refine QJ.step (YldS.yld (y_idxStr Try.runUnderlying9 rfl rfl h21)) rfl ?_
      refine QJ.step (YldS.yld (y_move rfl)) rfl ?_
      obtain ⟨c22, h23, hm⟩ := bindS hm
      refine QJ.step (YldS.yld (y_idxStr Try.runUnderlying9 rfl rfl h23)) rfl ?_
      obtain ⟨r24, h25, hm⟩ := bindS hm
      refine QJ.step (y_call Try.call40 rfl (RetG.quiet fun w hw => ok_i_seen h25 w _ (hr3.st hw))) rfl ?_
      refine QJ.step (YldS.yld (y_move rfl)) rfl ?_
      refine QJ.step (YldS.yld (y_extract rfl rfl)) rfl ?_
      refine QJ.step (YldS.yld (y_extract rfl rfl)) rfl ?_
      refine QJ.step (YldS.yld (y_assign rfl)) rfl ?_
      refine QJ.step (YldS.yld (y_assign rfl)) rfl ?_
      refine QJ.done ?_
      refine PJ.next ?_
      refine WJ.seq ?_
      refine WJ.seq ?_
      refine WJ.quiet ?_
      refine QJ.step (YldS.yld (y_move rfl)) rfl ?_
      refine QJ.step (YldS.yld (y_not rfl)) rfl ?_
      refine QJ.done ?_
      refine PJ.next ?_
      refine WJ.cond (t := !r24.2) rfl (fun hb26 => ?_) (fun hb26 => ?_)
      · replace hm := ifT hm hb26
        refine WJ.seq ?_
        refine WJ.quiet ?_
        refine QJ.step (YldS.yld (y_assign rfl)) rfl ?_
        refine QJ.step (YldS.yld (y_assign rfl)) rfl ?_
        refine QJ.done ?_
        refine PJ.next ?_
        refine WJ.ret ?_
        refine PJ.then_ret ?_
        obtain rfl := Option.some.inj hm
        refine PJ.sel (L' := []) [] ⟨List.nodup_nil, rfl⟩ ?_
        exact PJ.retn (vs := [str [], .int .i64 3]) Try.results7 ⟨rfl, rfl, trivial⟩ ⟨rfl, rfl⟩
      · replace hm := ifF hm hb26
        refine WJ.skip ?_
        refine PJ.next ?_
        refine WJ.seq ?_
        refine WJ.reg ?_
        refine SJ.q (YldS.yld (y_move rfl)) rfl ?_
        refine SJ.buildSlice (R := fByte) (os := [.tmp 39]) [r24.1] Try.runUnderlying22 Try.sizeOf5 Try.zeroValue5 rfl rfl rfl rfl rfl rfl fun v27 => ?_
        refine SJ.q (YldS.yld (y_b2s Try.underlying22 Try.underlying9 Try.underlying5 (fun w hw => ⟨_, (hw.row_rd (k := 0) rfl)⟩) rfl)) rfl ?_
        refine SJ.q (YldS.yld (y_assign rfl)) rfl ?_
        refine SJ.q (YldS.yld (y_assign rfl)) rfl ?_
        refine SJ.nil ?_
        refine PJ.next ?_
        refine WJ.ret ?_
        obtain rfl := Option.some.inj hm
        refine PJ.sel (L' := []) [] ⟨List.nodup_nil, rfl⟩ ?_
        exact PJ.retn (vs := [str [r24.1], .int .i64 0]) Try.results7 ⟨rfl, rfl, trivial⟩ ⟨rfl, rfl⟩

set_option maxRecDepth 100000 in
set_option maxHeartbeats 1000000 in
theorem ok_s_l12Byte {s1 : Str} {r : Bool} (hm : s_l12Byte s1 = some r) (w : World)  :
    Calls Try.prog 42 #[str s1] w (Ret (cx w) (.bool r)) := by
  unfold s_l12Byte at hm
  refine Calls.enter [str s1] Try.func42 rfl Try.ntmps42 rfl ?_
  refine WJ.seq ?_
  refine WJ.quiet ?_
  refine QJ.step (YldS.yld (y_assign rfl)) rfl ?_
  refine QJ.done ?_
  refine PJ.next ?_
  refine WJ.seq ?_
  refine WJ.quiet ?_
  refine QJ.step (YldS.yld (y_move rfl)) rfl ?_
  refine QJ.step (YldS.yld (y_lenStr Try.runUnderlying9 rfl)) rfl ?_
  refine QJ.step (YldS.yld (y_bin rfl rfl rfl)) rfl ?_
  refine QJ.step (YldS.yld (y_move rfl)) rfl ?_
  obtain ⟨t2, h3, hm⟩ := bindS hm
  refine QJ.cut 4 [(0, str s1), (10, .bool t2)] ?_ ?_
  · rcases Bool.eq_false_or_eq_true ((List.length s1 : Int) == 1) with hb4 | hb4
    · replace h3 := andT h3 hb4
      refine QJ.on rfl rfl (cB hb4) (YldS.yld (y_move rfl)) rfl ?_
      obtain ⟨c5, h6, h3⟩ := bindS h3
      refine QJ.on rfl rfl (cB hb4) (YldS.yld (y_idxStr Try.runUnderlying9 rfl rfl h6)) rfl ?_
      refine QJ.on rfl rfl (cB hb4) (YldS.yld (y_bin8 c5 (32 : UInt8) rfl rfl rfl)) rfl ?_
      refine QJ.step (YldS.yld (y_pick_t (cB hb4) rfl)) rfl ?_
      obtain rfl := Option.some.inj h3
      exact QJ.cut_end ⟨rfl, rfl, trivial⟩
    · obtain rfl := andF h3 hb4
      refine QJ.off rfl rfl (cB hb4) rfl rfl ?_
      refine QJ.off rfl rfl (cB hb4) rfl rfl ?_
      refine QJ.off rfl rfl (cB hb4) rfl rfl ?_
      refine QJ.step (YldS.yld (y_pick_f (cB hb4) rfl)) rfl ?_
      exact QJ.cut_end ⟨rfl, rfl, trivial⟩
  refine QJ.step (YldS.yld (y_move rfl)) rfl ?_
  obtain ⟨t7, h8, hm⟩ := bindS hm
  refine QJ.cut 4 [(15, .bool t7)] ?_ ?_
  · rcases Bool.eq_false_or_eq_true t2 with hb9 | hb9
    · replace h8 := andT h8 hb9
      refine QJ.on rfl rfl (cB hb9) (YldS.yld (y_move rfl)) rfl ?_
      obtain ⟨c10, h11, h8⟩ := bindS h8
      refine QJ.on rfl rfl (cB hb9) (YldS.yld (y_idxStr Try.runUnderlying9 rfl rfl h11)) rfl ?_
      refine QJ.on rfl rfl (cB hb9) (YldS.yld (y_bin8 c10 (127 : UInt8) rfl rfl rfl)) rfl ?_
      refine QJ.step (YldS.yld (y_pick_t (cB hb9) rfl)) rfl ?_
      obtain rfl := Option.some.inj h8
      exact QJ.cut_end ⟨rfl, trivial⟩
    · obtain rfl := andF h8 hb9
      refine QJ.off rfl rfl (cB hb9) rfl rfl ?_
      refine QJ.off rfl rfl (cB hb9) rfl rfl ?_
      refine QJ.off rfl rfl (cB hb9) rfl rfl ?_
      refine QJ.step (YldS.yld (y_pick_f (cB hb9) rfl)) rfl ?_
      exact QJ.cut_end ⟨rfl, trivial⟩
  refine QJ.step (YldS.yld (y_assign rfl)) rfl ?_
  refine QJ.done ?_
  refine PJ.next ?_
  refine WJ.ret ?_
  obtain rfl := Option.some.inj hm
  refine PJ.sel (L' := []) [] ⟨List.nodup_nil, rfl⟩ ?_
  exact PJ.retn (vs := [.bool t7]) Try.results42 ⟨rfl, trivial⟩ ⟨rfl, rfl⟩

set_option maxRecDepth 100000 in
set_option maxHeartbeats 1000000 in
theorem ok_s_l12Seen {N : Nat} {rules1 : List Over} {under4 : UInt8} {top5 : UInt8} {r : UInt8} (hm : s_l12Seen N rules1 under4 top5 = some r) (w : World) (v2 : Value) (hr3 : RdS w (cx w).Fz v2 fOver.rp rules1) :
    Calls Try.prog 43 #[v2, .int .u8 (UInt8.toNat under4 : Int), .int .u8 (UInt8.toNat top5 : Int)] w (Ret (cx w) (.int .u8 (UInt8.toNat r : Int))) := by
  unfold s_l12Seen at hm
  refine Calls.enter [v2, .int .u8 (UInt8.toNat under4 : Int), .int .u8 (UInt8.toNat top5 : Int)] Try.func43 rfl Try.ntmps43 rfl ?_
  refine WJ.seq ?_
  refine WJ.quiet ?_
  refine QJ.step (YldS.yld (y_assign rfl)) rfl ?_
  refine QJ.done ?_
  refine PJ.next ?_
  refine WJ.seq ?_
  refine WJ.seq ?_
  refine WJ.quiet ?_
  refine QJ.step (YldS.yld (y_move rfl)) rfl ?_
  refine QJ.step (YldS.yld (y_move rfl)) rfl ?_
  refine QJ.step (YldS.yld (y_bin8 under4 top5 rfl rfl rfl)) rfl ?_
  refine QJ.step (YldS.yld (y_move rfl)) rfl ?_
  obtain ⟨t6, h7, hm⟩ := bindS hm
  refine QJ.cut 3 [(0, v2), (1, .int .u8 (UInt8.toNat under4 : Int)), (2, .int .u8 (UInt8.toNat top5 : Int)), (14, .bool t6)] ?_ ?_
  · rcases Bool.eq_false_or_eq_true (under4 == top5) with hb8 | hb8
    · obtain rfl := orT h7 hb8
      refine QJ.off rfl rfl (cB hb8) rfl rfl ?_
      refine QJ.off rfl rfl (cB hb8) rfl rfl ?_
      refine QJ.step (YldS.yld (y_pick_t (cB hb8) rfl)) rfl ?_
      exact QJ.cut_end ⟨rfl, rfl, rfl, rfl, trivial⟩
    · replace h7 := orF h7 hb8
      refine QJ.on rfl rfl (cB hb8) (YldS.yld (y_move rfl)) rfl ?_
      refine QJ.on rfl rfl (cB hb8) (YldS.yld (y_bin8 top5 (32 : UInt8) rfl rfl rfl)) rfl ?_
      refine QJ.step (YldS.yld (y_pick_f (cB hb8) rfl)) rfl ?_
      obtain rfl := Option.some.inj h7
      exact QJ.cut_end ⟨rfl, rfl, rfl, rfl, trivial⟩
  refine QJ.done ?_
  refine PJ.next ?_
  refine WJ.cond (t := t6) rfl (fun hb9 => ?_) (fun hb9 => ?_)
  · replace hm := ifT hm hb9
    refine WJ.seq ?_
    refine WJ.quiet ?_
    refine QJ.step (YldS.yld (y_move rfl)) rfl ?_
    refine QJ.step (YldS.yld (y_assign rfl)) rfl ?_
    refine QJ.done ?_
    refine PJ.next ?_
    refine WJ.ret ?_
    refine PJ.then_ret ?_
    obtain rfl := Option.some.inj hm
    refine PJ.sel (L' := []) [] ⟨List.nodup_nil, rfl⟩ ?_
    exact PJ.retn (vs := [.int .u8 (UInt8.toNat under4 : Int)]) Try.results43 ⟨rfl, trivial⟩ ⟨rfl, rfl⟩
  · replace hm := ifF hm hb9
    refine WJ.skip ?_
    refine PJ.next ?_
    refine WJ.seq ?_
    refine WJ.seq ?_
    refine WJ.quiet ?_
    refine QJ.step (YldS.yld (y_move rfl)) rfl ?_
    refine QJ.step (YldS.yld (y_bin8 under4 (32 : UInt8) rfl rfl rfl)) rfl ?_
    refine QJ.done ?_
    refine PJ.next ?_
    refine WJ.cond (t := (under4 == (32 : UInt8))) rfl (fun hb10 => ?_) (fun hb10 => ?_)
    · replace hm := ifT hm hb10
      refine WJ.seq ?_
      refine WJ.quiet ?_
      refine QJ.step (YldS.yld (y_move rfl)) rfl ?_
      refine QJ.step (YldS.yld (y_assign rfl)) rfl ?_
      refine QJ.done ?_
      refine PJ.next ?_
      refine WJ.ret ?_
      refine PJ.then_ret ?_
      obtain rfl := Option.some.inj hm
      refine PJ.sel (L' := []) [] ⟨List.nodup_nil, rfl⟩ ?_
      exact PJ.retn (vs := [.int .u8 (UInt8.toNat top5 : Int)]) Try.results43 ⟨rfl, trivial⟩ ⟨rfl, rfl⟩
    · replace hm := ifF hm hb10
      refine WJ.skip ?_
      refine PJ.next ?_
      obtain ⟨k11, hk12, hm⟩ := withK_open hm
      refine WJ.join (X := Unit) (fun (_ : Unit) => k11  = some r) (fun (_ : Unit) => []) (fun (_ : Unit) => []) ?_ ?_
      · clear hk12
        refine WJ.seq ?_
        refine WJ.quiet ?_
        refine QJ.step (YldS.yld (y_assign rfl)) rfl ?_
        refine QJ.done ?_
        refine PJ.next ?_
        refine WJ.block ?_
        refine WJ.sel (L' := (fun (x : Int) => []) 0) [] ⟨List.nodup_nil, rfl⟩ ?_
        refine WJ.sub (m' := (fun (x : Int) => [(0, v2), (1, .int .u8 (UInt8.toNat under4 : Int)), (2, .int .u8 (UInt8.toNat top5 : Int)), (7, .int .i64 x)]) 0) ⟨rfl, rfl, rfl, rfl, trivial⟩ ?_
        refine WJ.loop (X := Int) (fun N (x : Int) => s_l12Seen_l1 k11 rules1 under4 top5 N x = some r) (fun (x : Int) => [(0, v2), (1, .int .u8 (UInt8.toNat under4 : Int)), (2, .int .u8 (UInt8.toNat top5 : Int)), (7, .int .i64 x)]) (fun (x : Int) => []) ?_ N 0 hm
        · rintro N i13 hI
          have hm := hI; clear hI
          cases N with
          | zero => cases hm
          | succ N =>
          unfold s_l12Seen_l1 at hm
          refine WJ.seq ?_
          refine WJ.seq ?_
          refine WJ.quiet ?_
          refine QJ.step (YldS.yld (y_move rfl)) rfl ?_
          refine QJ.step (YldS.yld (y_move rfl)) rfl ?_
          refine QJ.step (YldS.yld (y_lenS Try.runUnderlying24 hr3 rfl)) rfl ?_
          refine QJ.step (YldS.yld (y_bin rfl rfl rfl)) rfl ?_
          refine QJ.done ?_
          refine PJ.next ?_
          refine WJ.cond (t := decide (i13 < (List.length rules1 : Int))) rfl (fun hb14 => ?_) (fun hb14 => ?_)
          · replace hm := ifT hm hb14
            refine WJ.skip ?_
            refine PJ.next ?_
            refine WJ.seq ?_
            refine WJ.block ?_
            refine WJ.seq ?_
            refine WJ.quiet ?_
            refine QJ.step (YldS.yld (y_move rfl)) rfl ?_
            refine QJ.step (YldS.yld (y_move rfl)) rfl ?_
            obtain ⟨e15, h16, hm⟩ := bindS hm
            obtain ⟨ad17, _, rfl, ha18, hy19⟩ := hr3.elem h16
            refine QJ.step (YldS.yld (hy19 Try.runUnderlying24 Try.sizeOf42 rfl rfl)) rfl ?_
            refine QJ.step (YldS.yld (y_fld (ad := ad17) fld42_0 rfl)) rfl ?_
            refine QJ.step (YldS.yld (y_load1 (v := str e15.under) Try.isAgg9 (ha18.sub 0 1) St.frozenC rfl)) rfl ?_
            obtain ⟨c20, h21, hm⟩ := bindS hm
            refine QJ.step (YldS.yld (y_idxStr Try.runUnderlying9 rfl rfl h21)) rfl ?_
            refine QJ.step (YldS.yld (y_move rfl)) rfl ?_
            refine QJ.step (YldS.yld (y_bin8 c20 under4 rfl rfl rfl)) rfl ?_
            refine QJ.step (YldS.yld (y_move rfl)) rfl ?_
            obtain ⟨t22, h23, hm⟩ := bindS hm
            refine QJ.cut 9 [(0, v2), (1, .int .u8 (UInt8.toNat under4 : Int)), (2, .int .u8 (UInt8.toNat top5 : Int)), (7, .int .i64 i13), (42, .bool t22)] ?_ ?_
            · rcases Bool.eq_false_or_eq_true (c20 == under4) with hb24 | hb24
              · replace h23 := andT h23 hb24
                refine QJ.on rfl rfl (cB hb24) (YldS.yld (y_move rfl)) rfl ?_
                refine QJ.on rfl rfl (cB hb24) (YldS.yld (y_move rfl)) rfl ?_
                obtain ⟨e25, h26, h23⟩ := bindS h23
                obtain ⟨ad27, _, rfl, ha28, hy29⟩ := hr3.elem h26
                refine QJ.on rfl rfl (cB hb24) (YldS.yld (hy29 Try.runUnderlying24 Try.sizeOf42 rfl rfl)) rfl ?_
                refine QJ.on rfl rfl (cB hb24) (YldS.yld (y_fld (ad := ad27) fld42_1 rfl)) rfl ?_
                refine QJ.on rfl rfl (cB hb24) (YldS.yld (y_load1 (v := str e25.top) Try.isAgg9 (ha28.sub 1 1) St.frozenC rfl)) rfl ?_
                obtain ⟨c30, h31, h23⟩ := bindS h23
                refine QJ.on rfl rfl (cB hb24) (YldS.yld (y_idxStr Try.runUnderlying9 rfl rfl h31)) rfl ?_
                refine QJ.on rfl rfl (cB hb24) (YldS.yld (y_move rfl)) rfl ?_
                refine QJ.on rfl rfl (cB hb24) (YldS.yld (y_bin8 c30 top5 rfl rfl rfl)) rfl ?_
                refine QJ.step (YldS.yld (y_pick_t (cB hb24) rfl)) rfl ?_
                obtain rfl := Option.some.inj h23
                exact QJ.cut_end ⟨rfl, rfl, rfl, rfl, rfl, trivial⟩
              · obtain rfl := andF h23 hb24
                refine QJ.off rfl rfl (cB hb24) rfl rfl ?_
                refine QJ.off rfl rfl (cB hb24) rfl rfl ?_
                refine QJ.off rfl rfl (cB hb24) rfl rfl ?_
                refine QJ.off rfl rfl (cB hb24) rfl rfl ?_
                refine QJ.off rfl rfl (cB hb24) rfl rfl ?_
                refine QJ.off rfl rfl (cB hb24) rfl rfl ?_
                refine QJ.off rfl rfl (cB hb24) rfl rfl ?_
                refine QJ.off rfl rfl (cB hb24) rfl rfl ?_
                refine QJ.step (YldS.yld (y_pick_f (cB hb24) rfl)) rfl ?_
                exact QJ.cut_end ⟨rfl, rfl, rfl, rfl, rfl, trivial⟩
            refine QJ.done ?_
            refine PJ.next ?_
            refine WJ.cond (t := t22) rfl (fun hb32 => ?_) (fun hb32 => ?_)
            · replace hm := ifT hm hb32
              refine WJ.seq ?_
              refine WJ.quiet ?_
              refine QJ.step (YldS.yld (y_move rfl)) rfl ?_
              refine QJ.step (YldS.yld (y_move rfl)) rfl ?_
              obtain ⟨e33, h34, hm⟩ := bindS hm
              obtain ⟨ad35, _, rfl, ha36, hy37⟩ := hr3.elem h34
              refine QJ.step (YldS.yld (hy37 Try.runUnderlying24 Try.sizeOf42 rfl rfl)) rfl ?_
              refine QJ.step (YldS.yld (y_fld (ad := ad35) fld42_2 rfl)) rfl ?_
              refine QJ.step (YldS.yld (y_load1 (v := str e33.seen) Try.isAgg9 (ha36.sub 2 1) St.frozenC rfl)) rfl ?_
              obtain ⟨c38, h39, hm⟩ := bindS hm
              refine QJ.step (YldS.yld (y_idxStr Try.runUnderlying9 rfl rfl h39)) rfl ?_
              refine QJ.step (YldS.yld (y_assign rfl)) rfl ?_
              refine QJ.done ?_
              refine PJ.next ?_
              refine WJ.ret ?_
              refine PJ.block_ret (PJ.then_ret (PJ.then_ret (PJ.block_ret (PJ.then_ret ?_))))
              obtain rfl := Option.some.inj hm
              refine PJ.sel (L' := []) [] ⟨List.nodup_nil, rfl⟩ ?_
              exact PJ.retn (vs := [.int .u8 (UInt8.toNat c38 : Int)]) Try.results43 ⟨rfl, trivial⟩ ⟨rfl, rfl⟩
            · replace hm := ifF hm hb32
              refine WJ.skip ?_
              refine PJ.block_normal (PJ.next ?_)
              refine WJ.quiet ?_
              refine QJ.step (YldS.yld (y_move rfl)) rfl ?_
              refine QJ.step (YldS.yld (y_bin rfl rfl rfl)) rfl ?_
              refine QJ.step (YldS.yld (y_assign rfl)) rfl ?_
              refine QJ.done ?_
              exact PJ.round (w64 (i13 + 1)) [] hm ⟨rfl, rfl, rfl, rfl, trivial⟩ ⟨List.nodup_nil, rfl⟩
          · replace hm := ifF hm hb14
            refine WJ.exit ?_
            refine PJ.then_exit (PJ.then_exit (PJ.block_exit ?_))
            exact PJ.joined () [] hm trivial ⟨List.nodup_nil, rfl⟩
      · rintro _ hm
        subst hk12
        refine WJ.seq ?_
        refine WJ.quiet ?_
        refine QJ.step (YldS.yld (y_assign rfl)) rfl ?_
        refine QJ.done ?_
        refine PJ.next ?_
        refine WJ.ret ?_
        obtain rfl := Option.some.inj hm
        refine PJ.sel (L' := []) [] ⟨List.nodup_nil, rfl⟩ ?_
        exact PJ.retn (vs := [.int .u8 (UInt8.toNat 0 : Int)]) Try.results43 ⟨rfl, trivial⟩ ⟨rfl, rfl⟩

set_option maxRecDepth 100000 in
set_option maxHeartbeats 1000000 in
theorem ok_s_SeenOver {N : Nat} {rules1 : List Over} {under4 : Str} {top5 : Str} {r : Str × Int} (hm : s_SeenOver N rules1 under4 top5 = some r) (w : World) (v2 : Value) (hr3 : RdS w (cx w).Fz v2 fOver.rp rules1) :
    Calls Try.prog 8 #[v2, str under4, str top5] w (Ret (cx w) (tup [str r.1, .int .i64 r.2])) := by
  unfold s_SeenOver at hm
  refine Calls.enter [v2, str under4, str top5] Try.func8 rfl Try.ntmps8 rfl ?_
  refine WJ.seq ?_
  refine WJ.quiet ?_
  refine QJ.step (YldS.yld (y_assign rfl)) rfl ?_
  refine QJ.step (YldS.yld (y_assign rfl)) rfl ?_
  refine QJ.done ?_
  refine PJ.next ?_
  refine WJ.seq ?_
  refine WJ.seq ?_
  refine WJ.quiet ?_
  refine QJ.step (YldS.yld (y_move rfl)) rfl ?_
  obtain ⟨r6, h7, hm⟩ := bindS hm
  refine QJ.step (y_call Try.call41 rfl (RetG.quiet fun w hw => ok_s_l12Ok h7 w _ (hr3.st hw))) rfl ?_
  refine QJ.step (YldS.yld (y_not rfl)) rfl ?_
  refine QJ.done ?_
  refine PJ.next ?_
  refine WJ.cond (t := !r6) rfl (fun hb8 => ?_) (fun hb8 => ?_)
  · replace hm := ifT hm hb8
    refine WJ.seq ?_
    refine WJ.quiet ?_
    refine QJ.step (YldS.yld (y_assign rfl)) rfl ?_
    refine QJ.step (YldS.yld (y_assign rfl)) rfl ?_
    refine QJ.done ?_
    refine PJ.next ?_
    refine WJ.ret ?_
    refine PJ.then_ret ?_
    obtain rfl := Option.some.inj hm
    refine PJ.sel (L' := []) [] ⟨List.nodup_nil, rfl⟩ ?_
    exact PJ.retn (vs := [str [], .int .i64 1]) Try.results8 ⟨rfl, rfl, trivial⟩ ⟨rfl, rfl⟩
  · replace hm := ifF hm hb8
    refine WJ.skip ?_
    refine PJ.next ?_
    refine WJ.seq ?_
    refine WJ.seq ?_
    refine WJ.quiet ?_
    refine QJ.step (YldS.yld (y_move rfl)) rfl ?_
    obtain ⟨r9, h10, hm⟩ := bindS hm
    refine QJ.step (y_call Try.call42 rfl (RetG.quiet fun w hw => ok_s_l12Byte h10 w )) rfl ?_
    refine QJ.step (YldS.yld (y_not rfl)) rfl ?_
    refine QJ.step (YldS.yld (y_move rfl)) rfl ?_
    obtain ⟨t11, h12, hm⟩ := bindS hm
    refine QJ.cut 4 [(0, v2), (1, str under4), (2, str top5), (19, .bool t11)] ?_ ?_
    · rcases Bool.eq_false_or_eq_true (!r9) with hb13 | hb13
      · obtain rfl := orT h12 hb13
        refine QJ.off rfl rfl (cB hb13) rfl rfl ?_
        refine QJ.off rfl rfl (cB hb13) rfl rfl ?_
        refine QJ.off rfl rfl (cB hb13) rfl rfl ?_
        refine QJ.step (YldS.yld (y_pick_t (cB hb13) rfl)) rfl ?_
        exact QJ.cut_end ⟨rfl, rfl, rfl, rfl, trivial⟩
      · replace h12 := orF h12 hb13
        refine QJ.on rfl rfl (cB hb13) (YldS.yld (y_move rfl)) rfl ?_
        obtain ⟨r14, h15, h12⟩ := bindS h12
        refine QJ.on rfl rfl (cB hb13) (y_call Try.call42 rfl (RetG.quiet fun w hw => ok_s_l12Byte h15 w )) rfl ?_
        refine QJ.on rfl rfl (cB hb13) (YldS.yld (y_not rfl)) rfl ?_
        refine QJ.step (YldS.yld (y_pick_f (cB hb13) rfl)) rfl ?_
        obtain rfl := Option.some.inj h12
        exact QJ.cut_end ⟨rfl, rfl, rfl, rfl, trivial⟩
    refine QJ.done ?_
    refine PJ.next ?_
    refine WJ.cond (t := t11) rfl (fun hb16 => ?_) (fun hb16 => ?_)
    · replace hm := ifT hm hb16
      refine WJ.seq ?_
      refine WJ.quiet ?_
      refine QJ.step (YldS.yld (y_assign rfl)) rfl ?_
      refine QJ.step (YldS.yld (y_assign rfl)) rfl ?_
      refine QJ.done ?_
      refine PJ.next ?_
      refine WJ.ret ?_
      refine PJ.then_ret ?_
      obtain rfl := Option.some.inj hm
      refine PJ.sel (L' := []) [] ⟨List.nodup_nil, rfl⟩ ?_
      exact PJ.retn (vs := [str [], .int .i64 2]) Try.results8 ⟨rfl, rfl, trivial⟩ ⟨rfl, rfl⟩
    · replace hm := ifF hm hb16
      refine WJ.skip ?_
      refine PJ.next ?_
      refine WJ.seq ?_
      refine WJ.quiet_draw follows (by kernel_rfl) ?_
      refine QJ.step (YldS.yld (y_move rfl)) rfl ?_
      refine QJ.step (YldS.yld (y_move rfl)) rfl ?_
      obtain ⟨c17, h18, hm⟩ := bindS hm
      refine QJ.step (YldS.yld (y_idxStr Try.runUnderlying9 rfl rfl h18)) rfl ?_
      refine QJ.step (YldS.yld (y_move rfl)) rfl ?_
      obtain ⟨c19, h20, hm⟩ := bindS hm
      refine QJ.step (YldS.yld (y_idxStr Try.runUnderlying9 rfl rfl h20)) rfl ?_
      obtain ⟨r21, h22, hm⟩ := bindS hm
      refine QJ.step (y_call Try.call43 rfl (RetG.quiet fun w hw => ok_s_l12Seen h22 w _ (hr3.st hw))) rfl ?_
      refine QJ.step (YldS.yld (y_assign rfl)) rfl ?_
      refine QJ.done ?_
      refine PJ.next ?_
      refine WJ.seq ?_
      refine WJ.seq ?_
      refine WJ.quiet ?_
      refine QJ.step (YldS.yld (y_move rfl)) rfl ?_
      refine QJ.step (YldS.yld (y_bin8 r21 (0 : UInt8) rfl rfl rfl)) rfl ?_
      refine QJ.done ?_
      refine PJ.next ?_
      refine WJ.cond (t := (r21 == (0 : UInt8))) rfl (fun hb23 => ?_) (fun hb23 => ?_)
      · replace hm := ifT hm hb23
        refine WJ.seq ?_
        refine WJ.quiet ?_
        refine QJ.step (YldS.yld (y_assign rfl)) rfl ?_
        refine QJ.step (YldS.yld (y_assign rfl)) rfl ?_
        refine QJ.done ?_
        refine PJ.next ?_
        refine WJ.ret ?_
        refine PJ.then_ret ?_
        obtain rfl := Option.some.inj hm
        refine PJ.sel (L' := []) [] ⟨List.nodup_nil, rfl⟩ ?_
        exact PJ.retn (vs := [str [], .int .i64 3]) Try.results8 ⟨rfl, rfl, trivial⟩ ⟨rfl, rfl⟩
      · replace hm := ifF hm hb23
        refine WJ.skip ?_
        refine PJ.next ?_
        refine WJ.seq ?_
        refine WJ.reg ?_
        refine SJ.q (YldS.yld (y_move rfl)) rfl ?_
        refine SJ.buildSlice (R := fByte) (os := [.tmp 28]) [r21] Try.runUnderlying22 Try.sizeOf5 Try.zeroValue5 rfl rfl rfl rfl rfl rfl fun v24 => ?_
        refine SJ.q (YldS.yld (y_b2s Try.underlying22 Try.underlying9 Try.underlying5 (fun w hw => ⟨_, (hw.row_rd (k := 0) rfl)⟩) rfl)) rfl ?_
        refine SJ.q (YldS.yld (y_assign rfl)) rfl ?_
        refine SJ.q (YldS.yld (y_assign rfl)) rfl ?_
        refine SJ.nil ?_
        refine PJ.next ?_
        refine WJ.ret ?_
        obtain rfl := Option.some.inj hm
        refine PJ.sel (L' := []) [] ⟨List.nodup_nil, rfl⟩ ?_
        exact PJ.retn (vs := [str [r21], .int .i64 0]) Try.results8 ⟨rfl, rfl, trivial⟩ ⟨rfl, rfl⟩

set_option maxRecDepth 100000 in
set_option maxHeartbeats 1000000 in
theorem ok_s_l00Src_one {s1 : L00Src} {n5 : Int} {g2 : Nat} {r : Bool × L00Src} (hm : s_l00Src_one s1 n5 = some r) (w : World) (S : Nat → Prop) (v3 : Value) (hr4 : RdS w (Cx.Fz ⟨w, S⟩) v3 fByte.rp s1.code) (hA : (box g2 87 [v3, .int .i64 s1.at_, .int .u64 s1.seed]).holds w S) :
    Calls Try.prog 49 #[pt g2 0, .int .i64 n5] w (RetG ⟨w, S⟩ fun u L => (u = .bool r.1 ∧ L = [box g2 87 [v3, .int .i64 r.2.at_, .int .u64 r.2.seed]])) := by
  unfold s_l00Src_one at hm
  refine Calls.enter1 hA [pt g2 0, .int .i64 n5] Try.func49 rfl Try.ntmps49 rfl ?_
  refine WJ.seq ?_
  refine WJ.quiet ?_
  refine QJ.step (YldS.yld (y_assign rfl)) rfl ?_
  refine QJ.done ?_
  refine PJ.next ?_
  refine WJ.seq ?_
  refine WJ.reg ?_
  refine SJ.q (YldS.yld (y_move rfl)) rfl ?_
  refine SJ.q (YldS.yld (y_move rfl)) rfl ?_
  obtain ⟨r6, h7, hm⟩ := bindS hm
  refine SJ.call1 (k := 0) rfl Try.call50 rfl (fun w S hw hA hO => ok_s_l00Src_pick h7 w S _ (hr4.st1 hw hO) hA) rfl ?_
  rintro _ _ ⟨rfl, rfl⟩
  refine SJ.q (YldS.yld (y_bin rfl rfl rfl)) rfl ?_
  refine SJ.q (YldS.yld (y_assign rfl)) rfl ?_
  refine SJ.nil ?_
  refine PJ.next ?_
  refine WJ.ret ?_
  obtain rfl := Option.some.inj hm
  refine PJ.sel (L' := [box g2 87 [v3, .int .i64 r6.2.at_, .int .u64 r6.2.seed]]) [0] ⟨by decide, rfl⟩ ?_
  exact PJ.retn (vs := [.bool (r6.1 == 0)]) Try.results49 ⟨rfl, trivial⟩ ⟨rfl, rfl⟩

set_option maxRecDepth 100000 in
set_option maxHeartbeats 1000000 in
theorem ok_s_l12DrawLine {N : Nat} {s1 : L00Src} {n5 : Int} {g2 : Nat} {r : Str × L00Src} (hm : s_l12DrawLine N s1 n5 = some r) (w : World) (S : Nat → Prop) (v3 : Value) (hr4 : RdS w (Cx.Fz ⟨w, S⟩) v3 fByte.rp s1.code) (hA : (box g2 87 [v3, .int .i64 s1.at_, .int .u64 s1.seed]).holds w S) :
    Calls Try.prog 69 #[pt g2 0, .int .i64 n5] w (RetG ⟨w, S⟩ fun u L => (u = str r.1 ∧ L = [box g2 87 [v3, .int .i64 r.2.at_, .int .u64 r.2.seed]])) := by
  unfold s_l12DrawLine at hm
  refine Calls.enter1 hA [pt g2 0, .int .i64 n5] Try.func69 rfl Try.ntmps69 rfl ?_
  refine WJ.seq ?_
  refine WJ.quiet ?_
  refine QJ.step (YldS.yld (y_assign rfl)) rfl ?_
  refine QJ.done ?_
  refine PJ.next ?_
  refine WJ.seq ?_
  refine WJ.reg ?_
  refine SJ.buildSlice (R := fByte) (os := []) [] Try.runUnderlying22 Try.sizeOf5 Try.zeroValue5 rfl rfl rfl rfl rfl rfl fun v6 => ?_
  refine SJ.q (YldS.yld (y_assign rfl)) rfl ?_
  refine SJ.nil ?_
  refine PJ.next ?_
  obtain ⟨k11, hk12, hm⟩ := withK_open hm
  refine WJ.join (X := (List UInt8) × Value × Int × Int) (fun (x : (List UInt8) × Value × Int × Int) => k11 x.1 x.2.2.1 x.2.2.2 = some r) (fun (x : (List UInt8) × Value × Int × Int) => [(5, x.2.1)]) (fun (x : (List UInt8) × Value × Int × Int) => [row x.2.1 5 fByte x.1, box g2 87 [v3, .int .i64 x.2.2.1, .int .u64 x.2.2.2]]) ?_ ?_
  · clear hk12
    refine WJ.seq ?_
    refine WJ.quiet ?_
    refine QJ.step (YldS.yld (y_assign rfl)) rfl ?_
    refine QJ.done ?_
    refine PJ.next ?_
    refine WJ.block ?_
    refine WJ.sel (L' := (fun (x : (List UInt8) × Value × Int × Int × Int) => [row x.2.1 5 fByte x.1, box g2 87 [v3, .int .i64 x.2.2.1, .int .u64 x.2.2.2.1]]) ([], v6, s1.at_, s1.seed, 0)) [0, 1] ⟨by decide, rfl⟩ ?_
    refine WJ.sub (m' := (fun (x : (List UInt8) × Value × Int × Int × Int) => [(0, pt g2 0), (1, .int .i64 n5), (5, x.2.1), (6, .int .i64 x.2.2.2.2)]) ([], v6, s1.at_, s1.seed, 0)) ⟨rfl, rfl, rfl, rfl, trivial⟩ ?_
    refine WJ.loop (X := (List UInt8) × Value × Int × Int × Int) (fun N (x : (List UInt8) × Value × Int × Int × Int) => s_l12DrawLine_l1 k11 s1 n5 N x.1 x.2.2.1 x.2.2.2.1 x.2.2.2.2 = some r) (fun (x : (List UInt8) × Value × Int × Int × Int) => [(0, pt g2 0), (1, .int .i64 n5), (5, x.2.1), (6, .int .i64 x.2.2.2.2)]) (fun (x : (List UInt8) × Value × Int × Int × Int) => [row x.2.1 5 fByte x.1, box g2 87 [v3, .int .i64 x.2.2.1, .int .u64 x.2.2.2.1]]) ?_ N ([], v6, s1.at_, s1.seed, 0) hm
    · rintro N ⟨l13, v14, x15, x16, k17⟩ hI
      have hm := hI; clear hI
      cases N with
      | zero => cases hm
      | succ N =>
      unfold s_l12DrawLine_l1 at hm
      refine WJ.seq ?_
      refine WJ.seq ?_
      refine WJ.quiet ?_
      refine QJ.step (YldS.yld (y_move rfl)) rfl ?_
      refine QJ.step (YldS.yld (y_move rfl)) rfl ?_
      refine QJ.step (YldS.yld (y_bin rfl rfl rfl)) rfl ?_
      refine QJ.done ?_
      refine PJ.next ?_
      refine WJ.cond (t := decide (k17 < n5)) rfl (fun hb18 => ?_) (fun hb18 => ?_)
      · replace hm := ifT hm hb18
        refine WJ.skip ?_
        refine PJ.next ?_
        refine WJ.seq ?_
        refine WJ.block ?_
        refine WJ.reg ?_
        refine SJ.q (YldS.yld (y_move rfl)) rfl ?_
        refine SJ.q (YldS.yld (y_move rfl)) rfl ?_
        obtain ⟨r19, h20, hm⟩ := bindS hm
        refine SJ.call1 (k := 1) rfl Try.call50 rfl (fun w S hw hA hO => ok_s_l00Src_pick h20 w S _ (hr4.st1 hw hO) hA) rfl ?_
        rintro _ _ ⟨rfl, rfl⟩
        obtain ⟨c21, h22, hm⟩ := bindS hm
        refine SJ.q (YldS.yld (y_idxStr Try.runUnderlying9 rfl rfl h22)) rfl ?_
        refine SJ.buildSlice (R := fByte) (os := [.tmp 16]) [c21] Try.runUnderlying22 Try.sizeOf5 Try.zeroValue5 rfl rfl rfl rfl rfl rfl fun v23 => ?_
        obtain ⟨l24, h25, hm⟩ := bindS hm
        refine SJ.append (k := 2) (R := fByte) h25 rfl Try.underlying22 el5 rfl rfl rfl (fun w hw => (hw.row_rd (k := 0) rfl)) rfl fun v26 => ?_
        refine SJ.q (YldS.yld (y_assign rfl)) rfl ?_
        refine SJ.nil ?_
        refine PJ.block_normal (PJ.next ?_)
        refine WJ.quiet ?_
        refine QJ.step (YldS.yld (y_move rfl)) rfl ?_
        refine QJ.step (YldS.yld (y_bin rfl rfl rfl)) rfl ?_
        refine QJ.step (YldS.yld (y_assign rfl)) rfl ?_
        refine QJ.done ?_
        exact PJ.round (l24, v26, r19.2.at_, r19.2.seed, w64 (k17 + 1)) [2, 1] hm ⟨rfl, rfl, rfl, rfl, trivial⟩ ⟨by decide, rfl⟩
      · replace hm := ifF hm hb18
        refine WJ.exit ?_
        refine PJ.then_exit (PJ.then_exit (PJ.block_exit ?_))
        exact PJ.joined (l13, v14, x15, x16) [0, 1] hm ⟨rfl, trivial⟩ ⟨by decide, rfl⟩
  · rintro ⟨l7, v8, x9, x10⟩ hm
    subst hk12
    refine WJ.seq ?_
    refine WJ.quiet ?_
    refine QJ.step (YldS.yld (y_move rfl)) rfl ?_
    refine QJ.step (YldS.yld (y_b2s Try.underlying22 Try.underlying9 Try.underlying5 (fun w hw => ⟨_, (hw.row_rd (k := 0) rfl)⟩) rfl)) rfl ?_
    refine QJ.step (YldS.yld (y_assign rfl)) rfl ?_
    refine QJ.done ?_
    refine PJ.next ?_
    refine WJ.ret ?_
    obtain rfl := Option.some.inj hm
    refine PJ.sel (L' := [box g2 87 [v3, .int .i64 x9, .int .u64 x10]]) [1] ⟨by decide, rfl⟩ ?_
    exact PJ.retn (vs := [str l7]) Try.results69 ⟨rfl, trivial⟩ ⟨rfl, rfl⟩

set_option maxRecDepth 100000 in
set_option maxHeartbeats 1000000 in
theorem ok_s_l12Near {N : Nat} {s1 : L00Src} {line5 : Str} {g2 : Nat} {r : Str × L00Src} (hm : s_l12Near N s1 line5 = some r) (w : World) (S : Nat → Prop) (v3 : Value) (hr4 : RdS w (Cx.Fz ⟨w, S⟩) v3 fByte.rp s1.code) (hA : (box g2 87 [v3, .int .i64 s1.at_, .int .u64 s1.seed]).holds w S) :
    Calls Try.prog 70 #[pt g2 0, str line5] w (RetG ⟨w, S⟩ fun u L => (u = str r.1 ∧ L = [box g2 87 [v3, .int .i64 r.2.at_, .int .u64 r.2.seed]])) := by
  unfold s_l12Near at hm
  refine Calls.enter1 hA [pt g2 0, str line5] Try.func70 rfl Try.ntmps70 rfl ?_
  refine WJ.seq ?_
  refine WJ.quiet ?_
  refine QJ.step (YldS.yld (y_assign rfl)) rfl ?_
  refine QJ.done ?_
  refine PJ.next ?_
  refine WJ.seq ?_
  refine WJ.reg ?_
  refine SJ.q (YldS.yld (y_move rfl)) rfl ?_
  obtain ⟨l6, h7, hm⟩ := bindS hm
  refine SJ.convBytes h7 Try.underlying9 Try.underlying22 Try.underlying5 rfl rfl fun v8 => ?_
  refine SJ.q (YldS.yld (y_assign rfl)) rfl ?_
  refine SJ.nil ?_
  refine PJ.next ?_
  obtain ⟨k12, hk13, hm⟩ := withK_open hm
  refine WJ.join (X := Int × Int × (List UInt8)) (fun (x : Int × Int × (List UInt8)) => k12 x.1 x.2.1 x.2.2 = some r) (fun (x : Int × Int × (List UInt8)) => [(5, v8)]) (fun (x : Int × Int × (List UInt8)) => [box g2 87 [v3, .int .i64 x.1, .int .u64 x.2.1], rowM v8 5 fByte x.2.2]) ?_ ?_
  · clear hk13
    refine WJ.seq ?_
    refine WJ.reg ?_
    refine SJ.q (YldS.yld (y_move rfl)) rfl ?_
    obtain ⟨r14, h15, hm⟩ := bindS hm
    refine SJ.call1 (k := 1) rfl Try.call50 rfl (fun w S hw hA hO => ok_s_l00Src_pick h15 w S _ (hr4.st1 hw hO) hA) rfl ?_
    rintro _ _ ⟨rfl, rfl⟩
    refine SJ.q (YldS.yld (y_assign rfl)) rfl ?_
    refine SJ.nil ?_
    refine PJ.next ?_
    refine WJ.block ?_
    refine WJ.sel (L' := (fun (x : Int × Int × (List UInt8) × Int) => [box g2 87 [v3, .int .i64 x.1, .int .u64 x.2.1], rowM v8 5 fByte x.2.2.1]) (r14.2.at_, r14.2.seed, l6, r14.1)) [0, 1] ⟨by decide, rfl⟩ ?_
    refine WJ.sub (m' := (fun (x : Int × Int × (List UInt8) × Int) => [(0, pt g2 0), (5, v8), (6, .int .i64 x.2.2.2)]) (r14.2.at_, r14.2.seed, l6, r14.1)) ⟨rfl, rfl, rfl, trivial⟩ ?_
    refine WJ.loop (X := Int × Int × (List UInt8) × Int) (fun N (x : Int × Int × (List UInt8) × Int) => s_l12Near_l1 k12 s1 N x.1 x.2.1 x.2.2.1 x.2.2.2 = some r) (fun (x : Int × Int × (List UInt8) × Int) => [(0, pt g2 0), (5, v8), (6, .int .i64 x.2.2.2)]) (fun (x : Int × Int × (List UInt8) × Int) => [box g2 87 [v3, .int .i64 x.1, .int .u64 x.2.1], rowM v8 5 fByte x.2.2.1]) ?_ N (r14.2.at_, r14.2.seed, l6, r14.1) hm
    · rintro N ⟨x16, x17, l18, k19⟩ hI
      have hm := hI; clear hI
      cases N with
      | zero => cases hm
      | succ N =>
      unfold s_l12Near_l1 at hm
      refine WJ.seq ?_
      refine WJ.seq ?_
      refine WJ.quiet ?_
      refine QJ.step (YldS.yld (y_move rfl)) rfl ?_
      refine QJ.step (YldS.yld (y_bin rfl rfl rfl)) rfl ?_
      refine QJ.step (YldS.yld (y_move rfl)) rfl ?_
      obtain ⟨t20, h21, hm⟩ := bindS hm
      refine QJ.cut 4 [(0, pt g2 0), (5, v8), (6, .int .i64 k19), (17, .bool t20)] ?_ ?_
      · rcases Bool.eq_false_or_eq_true (decide (k19 > 0)) with hb22 | hb22
        · replace h21 := andT h21 hb22
          refine QJ.on rfl rfl (cB hb22) (YldS.yld (y_move rfl)) rfl ?_
          refine QJ.on rfl rfl (cB hb22) (YldS.yld (y_lenRowM (k := 1) rfl Try.runUnderlying22 rfl)) rfl ?_
          refine QJ.on rfl rfl (cB hb22) (YldS.yld (y_bin rfl rfl rfl)) rfl ?_
          refine QJ.step (YldS.yld (y_pick_t (cB hb22) rfl)) rfl ?_
          obtain rfl := Option.some.inj h21
          exact QJ.cut_end ⟨rfl, rfl, rfl, rfl, trivial⟩
        · obtain rfl := andF h21 hb22
          refine QJ.off rfl rfl (cB hb22) rfl rfl ?_
          refine QJ.off rfl rfl (cB hb22) rfl rfl ?_
          refine QJ.off rfl rfl (cB hb22) rfl rfl ?_
          refine QJ.step (YldS.yld (y_pick_f (cB hb22) rfl)) rfl ?_
          exact QJ.cut_end ⟨rfl, rfl, rfl, rfl, trivial⟩
      refine QJ.done ?_
      refine PJ.next ?_
      refine WJ.cond (t := t20) rfl (fun hb23 => ?_) (fun hb23 => ?_)
      · replace hm := ifT hm hb23
        refine WJ.skip ?_
        refine PJ.next ?_
        refine WJ.seq ?_
        refine WJ.block ?_
        refine WJ.reg ?_
        refine SJ.q (YldS.yld (y_move rfl)) rfl ?_
        refine SJ.q (YldS.yld (y_move rfl)) rfl ?_
        refine SJ.q (YldS.yld (y_move rfl)) rfl ?_
        refine SJ.q (YldS.yld (y_lenRowM (k := 1) rfl Try.runUnderlying22 rfl)) rfl ?_
        obtain ⟨r24, h25, hm⟩ := bindS hm
        refine SJ.call1 (k := 0) rfl Try.call50 rfl (fun w S hw hA hO => ok_s_l00Src_pick h25 w S _ (hr4.st1 hw hO) hA) rfl ?_
        rintro _ _ ⟨rfl, rfl⟩
        refine SJ.q (YldS.yld (y_move rfl)) rfl ?_
        obtain ⟨r26, h27, hm⟩ := bindS hm
        refine SJ.call1 (k := 0) rfl Try.call50 rfl (fun w S hw hA hO => ok_s_l00Src_pick h27 w S _ (hr4.st1 hw hO) hA) rfl ?_
        rintro _ _ ⟨rfl, rfl⟩
        obtain ⟨c28, h29, hm⟩ := bindS hm
        refine SJ.q (YldS.yld (y_idxStr Try.runUnderlying9 rfl rfl h29)) rfl ?_
        obtain ⟨e30, h31, hm⟩ := bindS hm
        refine SJ.q (YldS.yld (y_ixRowM (k := 1) (R := fByte) rfl Try.runUnderlying22 Try.sizeOf5 rfl rfl h31)) rfl ?_
        refine SJ.storeRLM (k := 1) (i := (Int.toNat r24.1)) (off := 0) (us := [.int .u8 (UInt8.toNat c28 : Int)]) (b := c28) rfl rfl (idx_get h31) rfl rfl Try.sizeOf5 rfl rfl rfl ?_
        refine SJ.nil ?_
        refine PJ.block_normal (PJ.next ?_)
        refine WJ.quiet ?_
        refine QJ.step (YldS.yld (y_move rfl)) rfl ?_
        refine QJ.step (YldS.yld (y_bin rfl rfl rfl)) rfl ?_
        refine QJ.step (YldS.yld (y_assign rfl)) rfl ?_
        refine QJ.done ?_
        exact PJ.round (r26.2.at_, r26.2.seed, (List.set l18 (Int.toNat r24.1) c28), w64 (k19 - 1)) [0, 1] hm ⟨rfl, rfl, rfl, trivial⟩ ⟨by decide, rfl⟩
      · replace hm := ifF hm hb23
        refine WJ.exit ?_
        refine PJ.then_exit (PJ.then_exit (PJ.block_exit ?_))
        exact PJ.joined (x16, x17, l18) [0, 1] hm ⟨rfl, trivial⟩ ⟨by decide, rfl⟩
  · rintro ⟨x9, x10, l11⟩ hm
    subst hk13
    refine WJ.seq ?_
    refine WJ.quiet ?_
    refine QJ.step (YldS.yld (y_move rfl)) rfl ?_
    refine QJ.step (YldS.yld (y_b2s Try.underlying22 Try.underlying9 Try.underlying5 (fun w hw => ⟨_, (hw.rowM_rd (k := 1) rfl)⟩) rfl)) rfl ?_
    refine QJ.step (YldS.yld (y_assign rfl)) rfl ?_
    refine QJ.done ?_
    refine PJ.next ?_
    refine WJ.ret ?_
    obtain rfl := Option.some.inj hm
    refine PJ.sel (L' := [box g2 87 [v3, .int .i64 x9, .int .u64 x10]]) [0] ⟨by decide, rfl⟩ ?_
    exact PJ.retn (vs := [str l11]) Try.results70 ⟨rfl, trivial⟩ ⟨rfl, rfl⟩

set_option maxRecDepth 100000 in
set_option maxHeartbeats 1000000 in
theorem ok_s_l12Two {N : Nat} {code1 : List UInt8} {r : (List Over) × Str × Str} (hm : s_l12Two N code1 = some r) (w : World) (v2 : Value) (hr3 : RdS w (cx w).Fz v2 fByte.rp code1) :
    Calls Try.prog 44 #[v2] w (RetG (cx w) fun u L => ∃ (u1 : Value), (u = tup [u1, str r.2.1, str r.2.2] ∧ L = [row u1 42 fOver r.1])) := by
  unfold s_l12Two at hm
  refine Calls.enter [v2] Try.func44 rfl Try.ntmps44 rfl ?_
  refine WJ.seq ?_
  refine WJ.quiet ?_
  refine QJ.step (YldS.yld (y_assign rfl)) rfl ?_
  refine QJ.step (YldS.yld (y_assign rfl)) rfl ?_
  refine QJ.step (YldS.yld (y_assign rfl)) rfl ?_
  refine QJ.done ?_
  refine PJ.next ?_
  refine WJ.seq ?_
  refine WJ.reg ?_
  refine SJ.q (YldS.yld (y_move rfl)) rfl ?_
  obtain ⟨r4, h5, hm⟩ := bindS hm
  refine SJ.call Try.call35 rfl (fun w hw => ok_s_l00From h5 w _ (hr3.st hw)) rfl ?_
  rintro _ _ ⟨g6, rfl, rfl⟩
  refine SJ.q (YldS.yld (y_assign rfl)) rfl ?_
  refine SJ.nil ?_
  refine PJ.next ?_
  refine WJ.seq ?_
  refine WJ.reg ?_
  refine SJ.q (YldS.yld (y_move rfl)) rfl ?_
  obtain ⟨r7, h8, hm⟩ := bindS hm
  refine SJ.call1 (k := 0) rfl Try.call36 rfl (fun w S hw hA hO => ok_s_l12Bent h8 w S _ (hr3.st1 hw hO) hA) rfl ?_
  rintro v9 _ ⟨_, rfl, rfl⟩
  refine SJ.q (YldS.yld (y_assign rfl)) rfl ?_
  refine SJ.nil ?_
  refine PJ.next ?_
  refine WJ.seq ?_
  refine WJ.reg ?_
  refine SJ.q (YldS.yld (y_move rfl)) rfl ?_
  obtain ⟨r10, h11, hm⟩ := bindS hm
  refine SJ.call1 (k := 0) rfl Try.call50 rfl (fun w S hw hA hO => ok_s_l00Src_pick h11 w S _ (hr3.st1 hw hO) hA) rfl ?_
  rintro _ _ ⟨rfl, rfl⟩
  refine SJ.q (YldS.yld (y_assign rfl)) rfl ?_
  refine SJ.nil ?_
  refine PJ.next ?_
  obtain ⟨k15, hk16, hm⟩ := withK_open hm
  refine WJ.join (X := Int × Int × Int) (fun (x : Int × Int × Int) => k15 x.1 x.2.1 x.2.2 = some r) (fun (x : Int × Int × Int) => [(5, pt g6 0), (6, v9), (7, .int .i64 x.2.2)]) (fun (x : Int × Int × Int) => [box g6 87 [v2, .int .i64 x.1, .int .u64 x.2.1], row v9 42 fOver r7.1]) ?_ ?_
  · clear hk16
    refine WJ.seq ?_
    refine WJ.reg ?_
    refine SJ.q (YldS.yld (y_move rfl)) rfl ?_
    obtain ⟨r17, h18, hm⟩ := bindS hm
    refine SJ.call1 (k := 0) rfl Try.call49 rfl (fun w S hw hA hO => ok_s_l00Src_one h18 w S _ (hr3.st1 hw hO) hA) rfl ?_
    rintro _ _ ⟨rfl, rfl⟩
    refine SJ.nil ?_
    refine PJ.next ?_
    refine WJ.cond (t := r17.1) rfl (fun hb19 => ?_) (fun hb19 => ?_)
    · replace hm := ifT hm hb19
      refine WJ.reg ?_
      refine SJ.q (YldS.yld (y_move rfl)) rfl ?_
      obtain ⟨r20, h21, hm⟩ := bindS hm
      refine SJ.call1 (k := 0) rfl Try.call50 rfl (fun w S hw hA hO => ok_s_l00Src_pick h21 w S _ (hr3.st1 hw hO) hA) rfl ?_
      rintro _ _ ⟨rfl, rfl⟩
      refine SJ.q (YldS.yld (y_bin rfl rfl rfl)) rfl ?_
      refine SJ.q (YldS.yld (y_assign rfl)) rfl ?_
      refine SJ.nil ?_
      exact PJ.joined (r20.2.at_, r20.2.seed, w64 (60 + r20.1)) [0, 1] hm ⟨rfl, rfl, rfl, trivial⟩ ⟨by decide, rfl⟩
    · replace hm := ifF hm hb19
      refine WJ.skip ?_
      exact PJ.joined (r17.2.at_, r17.2.seed, r10.1) [0, 1] hm ⟨rfl, rfl, rfl, trivial⟩ ⟨by decide, rfl⟩
  · rintro ⟨x12, x13, n14⟩ hm
    subst hk16
    refine WJ.seq ?_
    refine WJ.reg ?_
    refine SJ.q (YldS.yld (y_move rfl)) rfl ?_
    refine SJ.q (YldS.yld (y_move rfl)) rfl ?_
    obtain ⟨r22, h23, hm⟩ := bindS hm
    refine SJ.call1 (k := 0) rfl Try.call69 rfl (fun w S hw hA hO => ok_s_l12DrawLine h23 w S _ (hr3.st1 hw hO) hA) rfl ?_
    rintro _ _ ⟨rfl, rfl⟩
    refine SJ.q (YldS.yld (y_assign rfl)) rfl ?_
    refine SJ.nil ?_
    refine PJ.next ?_
    refine WJ.seq ?_
    refine WJ.reg ?_
    refine SJ.q (YldS.yld (y_move rfl)) rfl ?_
    refine SJ.q (YldS.yld (y_move rfl)) rfl ?_
    obtain ⟨r24, h25, hm⟩ := bindS hm
    refine SJ.call1 (k := 0) rfl Try.call70 rfl (fun w S hw hA hO => ok_s_l12Near h25 w S _ (hr3.st1 hw hO) hA) rfl ?_
    rintro _ _ ⟨rfl, rfl⟩
    refine SJ.q (YldS.yld (y_assign rfl)) rfl ?_
    refine SJ.nil ?_
    refine PJ.next ?_
    obtain ⟨k28, hk29, hm⟩ := withK_open hm
    refine WJ.join (X := Str × Str) (fun (x : Str × Str) => k28 x.1 x.2 = some r) (fun (x : Str × Str) => [(6, v9), (8, str x.1), (9, str x.2)]) (fun (x : Str × Str) => [row v9 42 fOver r7.1]) ?_ ?_
    · clear hk29
      refine WJ.seq ?_
      refine WJ.reg ?_
      refine SJ.q (YldS.yld (y_move rfl)) rfl ?_
      obtain ⟨r30, h31, hm⟩ := bindS hm
      refine SJ.call1 (k := 0) rfl Try.call50 rfl (fun w S hw hA hO => ok_s_l00Src_pick h31 w S _ (hr3.st1 hw hO) hA) rfl ?_
      rintro _ _ ⟨rfl, rfl⟩
      refine SJ.nil ?_
      refine PJ.next ?_
      refine WJ.block ?_
      refine WJ.seq ?_
      refine WJ.quiet ?_
      refine QJ.step (YldS.yld (y_bin rfl rfl rfl)) rfl ?_
      refine QJ.step (YldS.yld (y_assign rfl)) rfl ?_
      refine QJ.done ?_
      refine PJ.next ?_
      refine WJ.cond (t := (r30.1 == 0)) rfl (fun hb32 => ?_) (fun hb32 => ?_)
      · replace hm := ifT hm hb32
        refine WJ.quiet ?_
        refine QJ.step (YldS.yld (y_move rfl)) rfl ?_
        obtain ⟨s33, h34, hm⟩ := bindS hm
        refine QJ.step (YldS.yld (y_cat h34 rfl rfl)) rfl ?_
        refine QJ.step (YldS.yld (y_assign rfl)) rfl ?_
        refine QJ.done ?_
        refine PJ.block_normal ?_
        exact PJ.joined (r22.1, s33) [1] hm ⟨rfl, rfl, rfl, trivial⟩ ⟨by decide, rfl⟩
      · replace hm := ifF hm hb32
        refine WJ.seq ?_
        refine WJ.quiet ?_
        refine QJ.step (YldS.yld (y_bin rfl rfl rfl)) rfl ?_
        refine QJ.step (YldS.yld (y_assign rfl)) rfl ?_
        refine QJ.done ?_
        refine PJ.next ?_
        refine WJ.cond (t := (r30.1 == 1)) rfl (fun hb35 => ?_) (fun hb35 => ?_)
        · replace hm := ifT hm hb35
          refine WJ.seq ?_
          refine WJ.quiet ?_
          refine QJ.step (YldS.yld (y_move rfl)) rfl ?_
          obtain ⟨s36, h37, hm⟩ := bindS hm
          refine QJ.step (YldS.yld (y_cat h37 rfl rfl)) rfl ?_
          refine QJ.step (YldS.yld (y_assign rfl)) rfl ?_
          refine QJ.done ?_
          refine PJ.next ?_
          refine WJ.quiet ?_
          refine QJ.step (YldS.yld (y_move rfl)) rfl ?_
          obtain ⟨s38, h39, hm⟩ := bindS hm
          refine QJ.step (YldS.yld (y_cat h39 rfl rfl)) rfl ?_
          refine QJ.step (YldS.yld (y_assign rfl)) rfl ?_
          refine QJ.done ?_
          refine PJ.block_normal ?_
          exact PJ.joined (s36, s38) [1] hm ⟨rfl, rfl, rfl, trivial⟩ ⟨by decide, rfl⟩
        · replace hm := ifF hm hb35
          refine WJ.skip ?_
          refine PJ.block_normal ?_
          exact PJ.joined (r22.1, r24.1) [1] hm ⟨rfl, rfl, rfl, trivial⟩ ⟨by decide, rfl⟩
    · rintro ⟨typed26, want27⟩ hm
      subst hk29
      refine WJ.seq ?_
      refine WJ.quiet ?_
      refine QJ.step (YldS.yld (y_move rfl)) rfl ?_
      refine QJ.step (YldS.yld (y_move rfl)) rfl ?_
      refine QJ.step (YldS.yld (y_move rfl)) rfl ?_
      refine QJ.step (YldS.yld (y_assign rfl)) rfl ?_
      refine QJ.step (YldS.yld (y_assign rfl)) rfl ?_
      refine QJ.step (YldS.yld (y_assign rfl)) rfl ?_
      refine QJ.done ?_
      refine PJ.next ?_
      refine WJ.ret ?_
      obtain rfl := Option.some.inj hm
      refine PJ.sel (L' := [row v9 42 fOver r7.1]) [0] ⟨by decide, rfl⟩ ?_
      exact PJ.retn (vs := [v9, str typed26, str want27]) Try.results44 ⟨rfl, rfl, rfl, trivial⟩ ⟨_, rfl, rfl⟩

set_option maxRecDepth 100000 in
set_option maxHeartbeats 1000000 in
theorem ok_s_DrawWrongPlaces {N : Nat} {code1 : List UInt8} {r : Str × Str} (hm : s_DrawWrongPlaces N code1 = some r) (w : World) (v2 : Value) (hr3 : RdS w (cx w).Fz v2 fByte.rp code1) :
    Calls Try.prog 9 #[v2] w (Ret (cx w) (tup [str r.1, str r.2])) := by
  unfold s_DrawWrongPlaces at hm
  refine Calls.enter [v2] Try.func9 rfl Try.ntmps9 rfl ?_
  refine WJ.seq ?_
  refine WJ.quiet ?_
  refine QJ.step (YldS.yld (y_assign rfl)) rfl ?_
  refine QJ.step (YldS.yld (y_assign rfl)) rfl ?_
  refine QJ.done ?_
  refine PJ.next ?_
  refine WJ.seq ?_
  refine WJ.reg ?_
  refine SJ.q (YldS.yld (y_move rfl)) rfl ?_
  obtain ⟨r4, h5, hm⟩ := bindS hm
  refine SJ.call Try.call44 rfl (fun w hw => ok_s_l12Two h5 w _ (hr3.st hw)) rfl ?_
  rintro _ _ ⟨v6, rfl, rfl⟩
  refine SJ.q (YldS.yld (y_move rfl)) rfl ?_
  refine SJ.q (YldS.yld (y_extract rfl rfl)) rfl ?_
  refine SJ.q (YldS.yld (y_extract rfl rfl)) rfl ?_
  refine SJ.q (YldS.yld (y_extract rfl rfl)) rfl ?_
  refine SJ.q (YldS.yld (y_assign rfl)) rfl ?_
  refine SJ.q (YldS.yld (y_assign rfl)) rfl ?_
  refine SJ.q (YldS.yld (y_assign rfl)) rfl ?_
  refine SJ.nil ?_
  refine PJ.next ?_
  refine WJ.seq ?_
  refine WJ.quiet ?_
  refine QJ.step (YldS.yld (y_move rfl)) rfl ?_
  refine QJ.step (YldS.yld (y_move rfl)) rfl ?_
  refine QJ.step (YldS.yld (y_assign rfl)) rfl ?_
  refine QJ.step (YldS.yld (y_assign rfl)) rfl ?_
  refine QJ.done ?_
  refine PJ.next ?_
  refine WJ.ret ?_
  obtain rfl := Option.some.inj hm
  refine PJ.sel (L' := []) [] ⟨List.nodup_nil, rfl⟩ ?_
  exact PJ.retn (vs := [str r4.2.1, str r4.2.2]) Try.results9 ⟨rfl, rfl, trivial⟩ ⟨rfl, rfl⟩

set_option maxRecDepth 100000 in
set_option maxHeartbeats 1000000 in
theorem ok_i_isCorrectLine {N : Nat} {s1 : Str} {r : Bool} (hm : i_isCorrectLine N s1 = some r) (w : World)  :
    Calls Try.prog 45 #[str s1] w (Ret (cx w) (.bool r)) := by
  unfold i_isCorrectLine at hm
  refine Calls.enter [str s1] Try.func45 rfl Try.ntmps45 rfl ?_
  refine WJ.seq ?_
  refine WJ.quiet ?_
  refine QJ.step (YldS.yld (y_assign rfl)) rfl ?_
  refine QJ.done ?_
  refine PJ.next ?_
  refine WJ.seq ?_
  refine WJ.quiet ?_
  refine QJ.step (YldS.yld (y_move rfl)) rfl ?_
  obtain ⟨r2, h3, hm⟩ := bindS hm
  refine QJ.step (y_call Try.call39 rfl (RetG.quiet fun w hw => ok_i_isText h3 w )) rfl ?_
  refine QJ.step (YldS.yld (y_assign rfl)) rfl ?_
  refine QJ.done ?_
  refine PJ.next ?_
  refine WJ.ret ?_
  obtain rfl := Option.some.inj hm
  refine PJ.sel (L' := []) [] ⟨List.nodup_nil, rfl⟩ ?_
  exact PJ.retn (vs := [.bool r2]) Try.results45 ⟨rfl, trivial⟩ ⟨rfl, rfl⟩

set_option maxRecDepth 100000 in
set_option maxHeartbeats 1000000 in
theorem ok_i_byteAt {line1 : Str} {at2 : Int} {r : UInt8} (hm : i_byteAt line1 at2 = some r) (w : World)  :
    Calls Try.prog 46 #[str line1, .int .i64 at2] w (Ret (cx w) (.int .u8 (UInt8.toNat r : Int))) := by
  unfold i_byteAt at hm
  refine Calls.enter [str line1, .int .i64 at2] Try.func46 rfl Try.ntmps46 rfl ?_
  refine WJ.seq ?_
  refine WJ.quiet ?_
  refine QJ.step (YldS.yld (y_assign rfl)) rfl ?_
  refine QJ.done ?_
  refine PJ.next ?_
  refine WJ.seq ?_
  refine WJ.seq ?_
  refine WJ.quiet ?_
  refine QJ.step (YldS.yld (y_move rfl)) rfl ?_
  refine QJ.step (YldS.yld (y_bin rfl rfl rfl)) rfl ?_
  refine QJ.step (YldS.yld (y_move rfl)) rfl ?_
  obtain ⟨t3, h4, hm⟩ := bindS hm
  refine QJ.cut 5 [(0, str line1), (1, .int .i64 at2), (12, .bool t3)] ?_ ?_
  · rcases Bool.eq_false_or_eq_true (decide (at2 < 0)) with hb5 | hb5
    · obtain rfl := orT h4 hb5
      refine QJ.off rfl rfl (cB hb5) rfl rfl ?_
      refine QJ.off rfl rfl (cB hb5) rfl rfl ?_
      refine QJ.off rfl rfl (cB hb5) rfl rfl ?_
      refine QJ.off rfl rfl (cB hb5) rfl rfl ?_
      refine QJ.step (YldS.yld (y_pick_t (cB hb5) rfl)) rfl ?_
      exact QJ.cut_end ⟨rfl, rfl, rfl, trivial⟩
    · replace h4 := orF h4 hb5
      refine QJ.on rfl rfl (cB hb5) (YldS.yld (y_move rfl)) rfl ?_
      refine QJ.on rfl rfl (cB hb5) (YldS.yld (y_move rfl)) rfl ?_
      refine QJ.on rfl rfl (cB hb5) (YldS.yld (y_lenStr Try.runUnderlying9 rfl)) rfl ?_
      refine QJ.on rfl rfl (cB hb5) (YldS.yld (y_bin rfl rfl rfl)) rfl ?_
      refine QJ.step (YldS.yld (y_pick_f (cB hb5) rfl)) rfl ?_
      obtain rfl := Option.some.inj h4
      exact QJ.cut_end ⟨rfl, rfl, rfl, trivial⟩
  refine QJ.done ?_
  refine PJ.next ?_
  refine WJ.cond (t := t3) rfl (fun hb6 => ?_) (fun hb6 => ?_)
  · replace hm := ifT hm hb6
    refine WJ.seq ?_
    refine WJ.quiet ?_
    refine QJ.step (YldS.yld (y_assign rfl)) rfl ?_
    refine QJ.done ?_
    refine PJ.next ?_
    refine WJ.ret ?_
    refine PJ.then_ret ?_
    obtain rfl := Option.some.inj hm
    refine PJ.sel (L' := []) [] ⟨List.nodup_nil, rfl⟩ ?_
    exact PJ.retn (vs := [.int .u8 (UInt8.toNat 32 : Int)]) Try.results46 ⟨rfl, trivial⟩ ⟨rfl, rfl⟩
  · replace hm := ifF hm hb6
    refine WJ.skip ?_
    refine PJ.next ?_
    refine WJ.seq ?_
    refine WJ.quiet ?_
    refine QJ.step (YldS.yld (y_move rfl)) rfl ?_
    refine QJ.step (YldS.yld (y_move rfl)) rfl ?_
    obtain ⟨c7, h8, hm⟩ := bindS hm
    refine QJ.step (YldS.yld (y_idxStr Try.runUnderlying9 rfl rfl h8)) rfl ?_
    refine QJ.step (YldS.yld (y_assign rfl)) rfl ?_
    refine QJ.done ?_
    refine PJ.next ?_
    refine WJ.ret ?_
    obtain rfl := Option.some.inj hm
    refine PJ.sel (L' := []) [] ⟨List.nodup_nil, rfl⟩ ?_
    exact PJ.retn (vs := [.int .u8 (UInt8.toNat c7 : Int)]) Try.results46 ⟨rfl, trivial⟩ ⟨rfl, rfl⟩

set_option maxRecDepth 100000 in
set_option maxHeartbeats 1000000 in
theorem ok_i_WrongPlaces {N : Nat} {typed1 : Str} {want2 : Str} {r : (List Int) × Int} (hm : i_WrongPlaces N typed1 want2 = some r) (w : World)  :
    Calls Try.prog 10 #[str typed1, str want2] w (RetG (cx w) fun u L => ∃ (u1 : Value), (u = tup [u1, .int .i64 r.2] ∧ L = [row u1 2 fI64 r.1])) := by
  unfold i_WrongPlaces at hm
  refine Calls.enter [str typed1, str want2] Try.func10 rfl Try.ntmps10 rfl ?_
  refine WJ.seq ?_
  refine WJ.quiet ?_
  refine QJ.step (YldS.yld (y_assign rfl)) rfl ?_
  refine QJ.step (YldS.yld (y_assign rfl)) rfl ?_
  refine QJ.done ?_
  refine PJ.next ?_
  refine WJ.seq ?_
  refine WJ.seq ?_
  refine WJ.quiet ?_
  refine QJ.step (YldS.yld (y_move rfl)) rfl ?_
  obtain ⟨r3, h4, hm⟩ := bindS hm
  refine QJ.step (y_call Try.call45 rfl (RetG.quiet fun w hw => ok_i_isCorrectLine h4 w )) rfl ?_
  refine QJ.step (YldS.yld (y_not rfl)) rfl ?_
  refine QJ.step (YldS.yld (y_move rfl)) rfl ?_
  obtain ⟨t5, h6, hm⟩ := bindS hm
  refine QJ.cut 4 [(0, str typed1), (1, str want2), (15, .bool t5)] ?_ ?_
  · rcases Bool.eq_false_or_eq_true (!r3) with hb7 | hb7
    · obtain rfl := orT h6 hb7
      refine QJ.off rfl rfl (cB hb7) rfl rfl ?_
      refine QJ.off rfl rfl (cB hb7) rfl rfl ?_
      refine QJ.off rfl rfl (cB hb7) rfl rfl ?_
      refine QJ.step (YldS.yld (y_pick_t (cB hb7) rfl)) rfl ?_
      exact QJ.cut_end ⟨rfl, rfl, rfl, trivial⟩
    · replace h6 := orF h6 hb7
      refine QJ.on rfl rfl (cB hb7) (YldS.yld (y_move rfl)) rfl ?_
      obtain ⟨r8, h9, h6⟩ := bindS h6
      refine QJ.on rfl rfl (cB hb7) (y_call Try.call45 rfl (RetG.quiet fun w hw => ok_i_isCorrectLine h9 w )) rfl ?_
      refine QJ.on rfl rfl (cB hb7) (YldS.yld (y_not rfl)) rfl ?_
      refine QJ.step (YldS.yld (y_pick_f (cB hb7) rfl)) rfl ?_
      obtain rfl := Option.some.inj h6
      exact QJ.cut_end ⟨rfl, rfl, rfl, trivial⟩
  refine QJ.done ?_
  refine PJ.next ?_
  refine WJ.cond (t := t5) rfl (fun hb10 => ?_) (fun hb10 => ?_)
  · replace hm := ifT hm hb10
    refine WJ.seq ?_
    refine WJ.quiet ?_
    refine QJ.step (YldS.yld (y_assign rfl)) rfl ?_
    refine QJ.step (YldS.yld (y_assign rfl)) rfl ?_
    refine QJ.done ?_
    refine PJ.next ?_
    refine WJ.ret ?_
    refine PJ.then_ret ?_
    refine PJ.nil_row 2 fI64 ?_
    obtain rfl := Option.some.inj hm
    refine PJ.sel (L' := [row (.slice none 0 0) 2 fI64 []]) [0] ⟨by decide, rfl⟩ ?_
    exact PJ.retn (vs := [(.slice none 0 0), .int .i64 2]) Try.results10 ⟨rfl, rfl, trivial⟩ ⟨_, rfl, rfl⟩
  · replace hm := ifF hm hb10
    refine WJ.skip ?_
    refine PJ.next ?_
    refine WJ.seq ?_
    refine WJ.reg ?_
    refine SJ.buildSlice (R := fI64) (os := []) [] Try.runUnderlying31 Try.sizeOf2 Try.zeroValue2 rfl rfl rfl rfl rfl rfl fun v11 => ?_
    refine SJ.q (YldS.yld (y_assign rfl)) rfl ?_
    refine SJ.nil ?_
    refine PJ.next ?_
    obtain ⟨k14, hk15, hm⟩ := withK_open hm
    refine WJ.join (X := (List Int) × Value) (fun (x : (List Int) × Value) => k14 x.1 = some r) (fun (x : (List Int) × Value) => [(6, x.2)]) (fun (x : (List Int) × Value) => [row x.2 2 fI64 x.1]) ?_ ?_
    · clear hk15
      refine WJ.seq ?_
      refine WJ.quiet ?_
      refine QJ.step (YldS.yld (y_move rfl)) rfl ?_
      refine QJ.done ?_
      refine PJ.next ?_
      refine WJ.block ?_
      refine WJ.sel (L' := (fun (x : (List Int) × Value × Int) => [row x.2.1 2 fI64 x.1]) ([], v11, 0)) [0] ⟨by decide, rfl⟩ ?_
      refine WJ.sub (m' := (fun (x : (List Int) × Value × Int) => [(0, str typed1), (1, str want2), (6, x.2.1), (17, .int .i64 x.2.2)]) ([], v11, 0)) ⟨rfl, rfl, rfl, rfl, trivial⟩ ?_
      refine WJ.loop (X := (List Int) × Value × Int) (fun N (x : (List Int) × Value × Int) => i_WrongPlaces_l1 k14 typed1 want2 N x.1 x.2.2 = some r) (fun (x : (List Int) × Value × Int) => [(0, str typed1), (1, str want2), (6, x.2.1), (17, .int .i64 x.2.2)]) (fun (x : (List Int) × Value × Int) => [row x.2.1 2 fI64 x.1]) ?_ N ([], v11, 0) hm
      · rintro N ⟨l16, v17, x18⟩ hI
        have hm := hI; clear hI
        cases N with
        | zero => cases hm
        | succ N =>
        unfold i_WrongPlaces_l1 at hm
        refine WJ.seq ?_
        refine WJ.quiet ?_
        refine QJ.step (YldS.yld (y_bin rfl rfl rfl)) rfl ?_
        refine QJ.done ?_
        refine PJ.next ?_
        refine WJ.seq ?_
        refine WJ.cond (t := decide (x18 < 60)) rfl (fun hb19 => ?_) (fun hb19 => ?_)
        · replace hm := ifT hm hb19
          refine WJ.skip ?_
          refine PJ.next ?_
          obtain ⟨k23, hk23, hm⟩ := withK_open hm
          refine WJ.join (X := (List Int) × Value) (fun (x : (List Int) × Value) => k23 x.1 = some r) (fun (x : (List Int) × Value) => [(0, str typed1), (1, str want2), (6, x.2), (17, .int .i64 x18)]) (fun (x : (List Int) × Value) => [row x.2 2 fI64 x.1]) ?_ ?_
          · clear hk23
            refine WJ.block ?_
            refine WJ.seq ?_
            refine WJ.quiet ?_
            refine QJ.step (YldS.yld (y_move rfl)) rfl ?_
            refine QJ.step (YldS.yld (y_assign rfl)) rfl ?_
            refine QJ.done ?_
            refine PJ.next ?_
            refine WJ.seq ?_
            refine WJ.quiet ?_
            refine QJ.step (YldS.yld (y_move rfl)) rfl ?_
            refine QJ.step (YldS.yld (y_move rfl)) rfl ?_
            obtain ⟨r24, h25, hm⟩ := bindS hm
            refine QJ.step (y_call Try.call46 rfl (RetG.quiet fun w hw => ok_i_byteAt h25 w )) rfl ?_
            refine QJ.step (YldS.yld (y_move rfl)) rfl ?_
            refine QJ.step (YldS.yld (y_move rfl)) rfl ?_
            obtain ⟨r26, h27, hm⟩ := bindS hm
            refine QJ.step (y_call Try.call46 rfl (RetG.quiet fun w hw => ok_i_byteAt h27 w )) rfl ?_
            refine QJ.step (YldS.yld (y_bin8 r24 r26 rfl rfl rfl)) rfl ?_
            refine QJ.done ?_
            refine PJ.next ?_
            refine WJ.cond (t := (r24 != r26)) rfl (fun hb28 => ?_) (fun hb28 => ?_)
            · replace hm := ifT hm hb28
              refine WJ.reg ?_
              refine SJ.q (YldS.yld (y_move rfl)) rfl ?_
              refine SJ.q (YldS.yld (y_move rfl)) rfl ?_
              refine SJ.buildSlice (R := fI64) (os := [.tmp 28]) [x18] Try.runUnderlying31 Try.sizeOf2 Try.zeroValue2 rfl rfl rfl rfl rfl rfl fun v29 => ?_
              obtain ⟨l30, h31, hm⟩ := bindS hm
              refine SJ.append (k := 1) (R := fI64) h31 rfl Try.underlying31 el2 rfl rfl rfl (fun w hw => (hw.row_rd (k := 0) rfl)) rfl fun v32 => ?_
              refine SJ.q (YldS.yld (y_assign rfl)) rfl ?_
              refine SJ.nil ?_
              refine PJ.block_normal ?_
              exact PJ.joined (l30, v32) [1] hm ⟨rfl, rfl, rfl, rfl, trivial⟩ ⟨by decide, rfl⟩
            · replace hm := ifF hm hb28
              refine WJ.skip ?_
              refine PJ.block_normal ?_
              exact PJ.joined (l16, v17) [0] hm ⟨rfl, rfl, rfl, rfl, trivial⟩ ⟨by decide, rfl⟩
          · rintro ⟨l20, v21⟩ hm
            subst hk23
            refine WJ.quiet ?_
            refine QJ.step (YldS.yld (y_bin rfl rfl rfl)) rfl ?_
            refine QJ.step (YldS.yld (y_move rfl)) rfl ?_
            refine QJ.done ?_
            exact PJ.round (l20, v21, w64 (x18 + 1)) [0] hm ⟨rfl, rfl, rfl, rfl, trivial⟩ ⟨by decide, rfl⟩
        · replace hm := ifF hm hb19
          refine WJ.exit ?_
          refine PJ.then_exit (PJ.then_exit (PJ.block_exit ?_))
          exact PJ.joined (l16, v17) [0] hm ⟨rfl, trivial⟩ ⟨by decide, rfl⟩
    · rintro ⟨l12, v13⟩ hm
      subst hk15
      refine WJ.seq ?_
      refine WJ.quiet ?_
      refine QJ.step (YldS.yld (y_move rfl)) rfl ?_
      refine QJ.step (YldS.yld (y_assign rfl)) rfl ?_
      refine QJ.step (YldS.yld (y_assign rfl)) rfl ?_
      refine QJ.done ?_
      refine PJ.next ?_
      refine WJ.ret ?_
      obtain rfl := Option.some.inj hm
      refine PJ.sel (L' := [row v13 2 fI64 l12]) [0] ⟨by decide, rfl⟩ ?_
      exact PJ.retn (vs := [v13, .int .i64 0]) Try.results10 ⟨rfl, rfl, trivial⟩ ⟨_, rfl, rfl⟩

set_option maxRecDepth 100000 in
set_option maxHeartbeats 1000000 in
theorem ok_s_l00Text {N : Nat} {s1 : Str} {most2 : Int} {r : Bool} (hm : s_l00Text N s1 most2 = some r) (w : World)  :
    Calls Try.prog 71 #[str s1, .int .i64 most2] w (Ret (cx w) (.bool r)) := by
  unfold s_l00Text at hm
  refine Calls.enter [str s1, .int .i64 most2] Try.func71 rfl Try.ntmps71 rfl ?_
  refine WJ.seq ?_
  refine WJ.quiet ?_
  refine QJ.step (YldS.yld (y_assign rfl)) rfl ?_
  refine QJ.done ?_
  refine PJ.next ?_
  obtain ⟨k3, hk4, hm⟩ := withK_open hm
  refine WJ.join (X := Unit) (fun (_ : Unit) => k3  = some r) (fun (_ : Unit) => [(0, str s1), (1, .int .i64 most2)]) (fun (_ : Unit) => []) ?_ ?_
  · clear hk4
    refine WJ.seq ?_
    refine WJ.quiet ?_
    refine QJ.step (YldS.yld (y_assign rfl)) rfl ?_
    refine QJ.done ?_
    refine PJ.next ?_
    refine WJ.block ?_
    refine WJ.sel (L' := (fun (x : Int) => []) 0) [] ⟨List.nodup_nil, rfl⟩ ?_
    refine WJ.sub (m' := (fun (x : Int) => [(0, str s1), (1, .int .i64 most2), (5, .int .i64 x)]) 0) ⟨rfl, rfl, rfl, trivial⟩ ?_
    refine WJ.loop (X := Int) (fun N (x : Int) => s_l00Text_l1 k3 s1 N x = some r) (fun (x : Int) => [(0, str s1), (1, .int .i64 most2), (5, .int .i64 x)]) (fun (x : Int) => []) ?_ N 0 hm
    · rintro N i5 hI
      have hm := hI; clear hI
      cases N with
      | zero => cases hm
      | succ N =>
      unfold s_l00Text_l1 at hm
      refine WJ.seq ?_
      refine WJ.seq ?_
      refine WJ.quiet ?_
      refine QJ.step (YldS.yld (y_move rfl)) rfl ?_
      refine QJ.step (YldS.yld (y_move rfl)) rfl ?_
      refine QJ.step (YldS.yld (y_lenStr Try.runUnderlying9 rfl)) rfl ?_
      refine QJ.step (YldS.yld (y_bin rfl rfl rfl)) rfl ?_
      refine QJ.done ?_
      refine PJ.next ?_
      refine WJ.cond (t := decide (i5 < (List.length s1 : Int))) rfl (fun hb6 => ?_) (fun hb6 => ?_)
      · replace hm := ifT hm hb6
        refine WJ.skip ?_
        refine PJ.next ?_
        refine WJ.seq ?_
        refine WJ.block ?_
        refine WJ.seq ?_
        refine WJ.quiet ?_
        refine QJ.step (YldS.yld (y_move rfl)) rfl ?_
        refine QJ.step (YldS.yld (y_move rfl)) rfl ?_
        obtain ⟨c7, h8, hm⟩ := bindS hm
        refine QJ.step (YldS.yld (y_idxStr Try.runUnderlying9 rfl rfl h8)) rfl ?_
        refine QJ.step (YldS.yld (y_bin8 c7 (32 : UInt8) rfl rfl rfl)) rfl ?_
        refine QJ.step (YldS.yld (y_move rfl)) rfl ?_
        obtain ⟨t9, h10, hm⟩ := bindS hm
        refine QJ.cut 5 [(0, str s1), (1, .int .i64 most2), (5, .int .i64 i5), (21, .bool t9)] ?_ ?_
        · rcases Bool.eq_false_or_eq_true (decide (c7 < (32 : UInt8))) with hb11 | hb11
          · obtain rfl := orT h10 hb11
            refine QJ.off rfl rfl (cB hb11) rfl rfl ?_
            refine QJ.off rfl rfl (cB hb11) rfl rfl ?_
            refine QJ.off rfl rfl (cB hb11) rfl rfl ?_
            refine QJ.off rfl rfl (cB hb11) rfl rfl ?_
            refine QJ.step (YldS.yld (y_pick_t (cB hb11) rfl)) rfl ?_
            exact QJ.cut_end ⟨rfl, rfl, rfl, rfl, trivial⟩
          · replace h10 := orF h10 hb11
            refine QJ.on rfl rfl (cB hb11) (YldS.yld (y_move rfl)) rfl ?_
            refine QJ.on rfl rfl (cB hb11) (YldS.yld (y_move rfl)) rfl ?_
            obtain ⟨c12, h13, h10⟩ := bindS h10
            refine QJ.on rfl rfl (cB hb11) (YldS.yld (y_idxStr Try.runUnderlying9 rfl rfl h13)) rfl ?_
            refine QJ.on rfl rfl (cB hb11) (YldS.yld (y_bin8 c12 (126 : UInt8) rfl rfl rfl)) rfl ?_
            refine QJ.step (YldS.yld (y_pick_f (cB hb11) rfl)) rfl ?_
            obtain rfl := Option.some.inj h10
            exact QJ.cut_end ⟨rfl, rfl, rfl, rfl, trivial⟩
        refine QJ.done ?_
        refine PJ.next ?_
        refine WJ.cond (t := t9) rfl (fun hb14 => ?_) (fun hb14 => ?_)
        · replace hm := ifT hm hb14
          refine WJ.seq ?_
          refine WJ.quiet ?_
          refine QJ.step (YldS.yld (y_assign rfl)) rfl ?_
          refine QJ.done ?_
          refine PJ.next ?_
          refine WJ.ret ?_
          refine PJ.block_ret (PJ.then_ret (PJ.then_ret (PJ.block_ret (PJ.then_ret ?_))))
          obtain rfl := Option.some.inj hm
          refine PJ.sel (L' := []) [] ⟨List.nodup_nil, rfl⟩ ?_
          exact PJ.retn (vs := [.bool false]) Try.results71 ⟨rfl, trivial⟩ ⟨rfl, rfl⟩
        · replace hm := ifF hm hb14
          refine WJ.skip ?_
          refine PJ.block_normal (PJ.next ?_)
          refine WJ.quiet ?_
          refine QJ.step (YldS.yld (y_move rfl)) rfl ?_
          refine QJ.step (YldS.yld (y_bin rfl rfl rfl)) rfl ?_
          refine QJ.step (YldS.yld (y_assign rfl)) rfl ?_
          refine QJ.done ?_
          exact PJ.round (w64 (i5 + 1)) [] hm ⟨rfl, rfl, rfl, trivial⟩ ⟨List.nodup_nil, rfl⟩
      · replace hm := ifF hm hb6
        refine WJ.exit ?_
        refine PJ.then_exit (PJ.then_exit (PJ.block_exit ?_))
        exact PJ.joined () [] hm ⟨rfl, rfl, trivial⟩ ⟨List.nodup_nil, rfl⟩
  · rintro _ hm
    subst hk4
    refine WJ.seq ?_
    refine WJ.quiet ?_
    refine QJ.step (YldS.yld (y_move rfl)) rfl ?_
    refine QJ.step (YldS.yld (y_lenStr Try.runUnderlying9 rfl)) rfl ?_
    refine QJ.step (YldS.yld (y_move rfl)) rfl ?_
    refine QJ.step (YldS.yld (y_bin rfl rfl rfl)) rfl ?_
    refine QJ.step (YldS.yld (y_assign rfl)) rfl ?_
    refine QJ.done ?_
    refine PJ.next ?_
    refine WJ.ret ?_
    obtain rfl := Option.some.inj hm
    refine PJ.sel (L' := []) [] ⟨List.nodup_nil, rfl⟩ ?_
    exact PJ.retn (vs := [.bool (decide ((List.length s1 : Int) ≤ most2))]) Try.results71 ⟨rfl, trivial⟩ ⟨rfl, rfl⟩

set_option maxRecDepth 100000 in
set_option maxHeartbeats 1000000 in
theorem ok_s_l12Line {N : Nat} {s1 : Str} {r : Bool} (hm : s_l12Line N s1 = some r) (w : World)  :
    Calls Try.prog 47 #[str s1] w (Ret (cx w) (.bool r)) := by
  unfold s_l12Line at hm
  refine Calls.enter [str s1] Try.func47 rfl Try.ntmps47 rfl ?_
  refine WJ.seq ?_
  refine WJ.quiet ?_
  refine QJ.step (YldS.yld (y_assign rfl)) rfl ?_
  refine QJ.done ?_
  refine PJ.next ?_
  refine WJ.seq ?_
  refine WJ.quiet ?_
  refine QJ.step (YldS.yld (y_move rfl)) rfl ?_
  obtain ⟨r2, h3, hm⟩ := bindS hm
  refine QJ.step (y_call Try.call71 rfl (RetG.quiet fun w hw => ok_s_l00Text h3 w )) rfl ?_
  refine QJ.step (YldS.yld (y_assign rfl)) rfl ?_
  refine QJ.done ?_
  refine PJ.next ?_
  refine WJ.ret ?_
  obtain rfl := Option.some.inj hm
  refine PJ.sel (L' := []) [] ⟨List.nodup_nil, rfl⟩ ?_
  exact PJ.retn (vs := [.bool r2]) Try.results47 ⟨rfl, trivial⟩ ⟨rfl, rfl⟩

set_option maxRecDepth 100000 in
set_option maxHeartbeats 1000000 in
theorem ok_s_l00In {n1 : Int} {low2 : Int} {high3 : Int} {r : Bool} (hm : s_l00In n1 low2 high3 = some r) (w : World)  :
    Calls Try.prog 53 #[.int .i64 n1, .int .i64 low2, .int .i64 high3] w (Ret (cx w) (.bool r)) := by
  unfold s_l00In at hm
  refine Calls.enter [.int .i64 n1, .int .i64 low2, .int .i64 high3] Try.func53 rfl Try.ntmps53 rfl ?_
  refine WJ.seq ?_
  refine WJ.quiet ?_
  refine QJ.step (YldS.yld (y_assign rfl)) rfl ?_
  refine QJ.done ?_
  refine PJ.next ?_
  refine WJ.seq ?_
  refine WJ.quiet ?_
  refine QJ.step (YldS.yld (y_move rfl)) rfl ?_
  refine QJ.step (YldS.yld (y_move rfl)) rfl ?_
  refine QJ.step (YldS.yld (y_bin rfl rfl rfl)) rfl ?_
  refine QJ.step (YldS.yld (y_move rfl)) rfl ?_
  obtain ⟨t4, h5, hm⟩ := bindS hm
  refine QJ.cut 4 [(14, .bool t4)] ?_ ?_
  · rcases Bool.eq_false_or_eq_true (decide (n1 ≥ low2)) with hb6 | hb6
    · replace h5 := andT h5 hb6
      refine QJ.on rfl rfl (cB hb6) (YldS.yld (y_move rfl)) rfl ?_
      refine QJ.on rfl rfl (cB hb6) (YldS.yld (y_move rfl)) rfl ?_
      refine QJ.on rfl rfl (cB hb6) (YldS.yld (y_bin rfl rfl rfl)) rfl ?_
      refine QJ.step (YldS.yld (y_pick_t (cB hb6) rfl)) rfl ?_
      obtain rfl := Option.some.inj h5
      exact QJ.cut_end ⟨rfl, trivial⟩
    · obtain rfl := andF h5 hb6
      refine QJ.off rfl rfl (cB hb6) rfl rfl ?_
      refine QJ.off rfl rfl (cB hb6) rfl rfl ?_
      refine QJ.off rfl rfl (cB hb6) rfl rfl ?_
      refine QJ.step (YldS.yld (y_pick_f (cB hb6) rfl)) rfl ?_
      exact QJ.cut_end ⟨rfl, trivial⟩
  refine QJ.step (YldS.yld (y_assign rfl)) rfl ?_
  refine QJ.done ?_
  refine PJ.next ?_
  refine WJ.ret ?_
  obtain rfl := Option.some.inj hm
  refine PJ.sel (L' := []) [] ⟨List.nodup_nil, rfl⟩ ?_
  exact PJ.retn (vs := [.bool t4]) Try.results53 ⟨rfl, trivial⟩ ⟨rfl, rfl⟩

set_option maxRecDepth 100000 in
set_option maxHeartbeats 1000000 in
theorem ok_s_l12At {s1 : Str} {at2 : Int} {r : UInt8} (hm : s_l12At s1 at2 = some r) (w : World)  :
    Calls Try.prog 48 #[str s1, .int .i64 at2] w (Ret (cx w) (.int .u8 (UInt8.toNat r : Int))) := by
  unfold s_l12At at hm
  refine Calls.enter [str s1, .int .i64 at2] Try.func48 rfl Try.ntmps48 rfl ?_
  refine WJ.seq ?_
  refine WJ.quiet ?_
  refine QJ.step (YldS.yld (y_assign rfl)) rfl ?_
  refine QJ.done ?_
  refine PJ.next ?_
  refine WJ.seq ?_
  refine WJ.seq ?_
  refine WJ.quiet ?_
  refine QJ.step (YldS.yld (y_move rfl)) rfl ?_
  refine QJ.step (YldS.yld (y_move rfl)) rfl ?_
  refine QJ.step (YldS.yld (y_lenStr Try.runUnderlying9 rfl)) rfl ?_
  refine QJ.step (YldS.yld (y_bin rfl rfl rfl)) rfl ?_
  obtain ⟨r3, h4, hm⟩ := bindS hm
  refine QJ.step (y_call Try.call53 rfl (RetG.quiet fun w hw => ok_s_l00In h4 w )) rfl ?_
  refine QJ.step (YldS.yld (y_not rfl)) rfl ?_
  refine QJ.done ?_
  refine PJ.next ?_
  refine WJ.cond (t := !r3) rfl (fun hb5 => ?_) (fun hb5 => ?_)
  · replace hm := ifT hm hb5
    refine WJ.seq ?_
    refine WJ.quiet ?_
    refine QJ.step (YldS.yld (y_assign rfl)) rfl ?_
    refine QJ.done ?_
    refine PJ.next ?_
    refine WJ.ret ?_
    refine PJ.then_ret ?_
    obtain rfl := Option.some.inj hm
    refine PJ.sel (L' := []) [] ⟨List.nodup_nil, rfl⟩ ?_
    exact PJ.retn (vs := [.int .u8 (UInt8.toNat 32 : Int)]) Try.results48 ⟨rfl, trivial⟩ ⟨rfl, rfl⟩
  · replace hm := ifF hm hb5
    refine WJ.skip ?_
    refine PJ.next ?_
    refine WJ.seq ?_
    refine WJ.quiet ?_
    refine QJ.step (YldS.yld (y_move rfl)) rfl ?_
    refine QJ.step (YldS.yld (y_move rfl)) rfl ?_
    obtain ⟨c6, h7, hm⟩ := bindS hm
    refine QJ.step (YldS.yld (y_idxStr Try.runUnderlying9 rfl rfl h7)) rfl ?_
    refine QJ.step (YldS.yld (y_assign rfl)) rfl ?_
    refine QJ.done ?_
    refine PJ.next ?_
    refine WJ.ret ?_
    obtain rfl := Option.some.inj hm
    refine PJ.sel (L' := []) [] ⟨List.nodup_nil, rfl⟩ ?_
    exact PJ.retn (vs := [.int .u8 (UInt8.toNat c6 : Int)]) Try.results48 ⟨rfl, trivial⟩ ⟨rfl, rfl⟩

set_option maxRecDepth 100000 in
set_option maxHeartbeats 1000000 in
theorem ok_s_WrongPlaces {N : Nat} {typed1 : Str} {want2 : Str} {r : (List Int) × Int} (hm : s_WrongPlaces N typed1 want2 = some r) (w : World)  :
    Calls Try.prog 11 #[str typed1, str want2] w (RetG (cx w) fun u L => ∃ (u1 : Value), (u = tup [u1, .int .i64 r.2] ∧ L = [row u1 2 fI64 r.1])) := by
  unfold s_WrongPlaces at hm
  refine Calls.enter [str typed1, str want2] Try.func11 rfl Try.ntmps11 rfl ?_
  refine WJ.seq ?_
  refine WJ.quiet ?_
  refine QJ.step (YldS.yld (y_assign rfl)) rfl ?_
  refine QJ.step (YldS.yld (y_assign rfl)) rfl ?_
  refine QJ.done ?_
  refine PJ.next ?_
  refine WJ.seq ?_
  refine WJ.seq ?_
  refine WJ.quiet ?_
  refine QJ.step (YldS.yld (y_move rfl)) rfl ?_
  obtain ⟨r3, h4, hm⟩ := bindS hm
  refine QJ.step (y_call Try.call47 rfl (RetG.quiet fun w hw => ok_s_l12Line h4 w )) rfl ?_
  refine QJ.step (YldS.yld (y_not rfl)) rfl ?_
  refine QJ.step (YldS.yld (y_move rfl)) rfl ?_
  obtain ⟨t5, h6, hm⟩ := bindS hm
  refine QJ.cut 4 [(0, str typed1), (1, str want2), (15, .bool t5)] ?_ ?_
  · rcases Bool.eq_false_or_eq_true (!r3) with hb7 | hb7
    · obtain rfl := orT h6 hb7
      refine QJ.off rfl rfl (cB hb7) rfl rfl ?_
      refine QJ.off rfl rfl (cB hb7) rfl rfl ?_
      refine QJ.off rfl rfl (cB hb7) rfl rfl ?_
      refine QJ.step (YldS.yld (y_pick_t (cB hb7) rfl)) rfl ?_
      exact QJ.cut_end ⟨rfl, rfl, rfl, trivial⟩
    · replace h6 := orF h6 hb7
      refine QJ.on rfl rfl (cB hb7) (YldS.yld (y_move rfl)) rfl ?_
      obtain ⟨r8, h9, h6⟩ := bindS h6
      refine QJ.on rfl rfl (cB hb7) (y_call Try.call47 rfl (RetG.quiet fun w hw => ok_s_l12Line h9 w )) rfl ?_
      refine QJ.on rfl rfl (cB hb7) (YldS.yld (y_not rfl)) rfl ?_
      refine QJ.step (YldS.yld (y_pick_f (cB hb7) rfl)) rfl ?_
      obtain rfl := Option.some.inj h6
      exact QJ.cut_end ⟨rfl, rfl, rfl, trivial⟩
  refine QJ.done ?_
  refine PJ.next ?_
  refine WJ.cond (t := t5) rfl (fun hb10 => ?_) (fun hb10 => ?_)
  · replace hm := ifT hm hb10
    refine WJ.seq ?_
    refine WJ.quiet ?_
    refine QJ.step (YldS.yld (y_assign rfl)) rfl ?_
    refine QJ.step (YldS.yld (y_assign rfl)) rfl ?_
    refine QJ.done ?_
    refine PJ.next ?_
    refine WJ.ret ?_
    refine PJ.then_ret ?_
    refine PJ.nil_row 2 fI64 ?_
    obtain rfl := Option.some.inj hm
    refine PJ.sel (L' := [row (.slice none 0 0) 2 fI64 []]) [0] ⟨by decide, rfl⟩ ?_
    exact PJ.retn (vs := [(.slice none 0 0), .int .i64 2]) Try.results11 ⟨rfl, rfl, trivial⟩ ⟨_, rfl, rfl⟩
  · replace hm := ifF hm hb10
    refine WJ.skip ?_
    refine PJ.next ?_
    refine WJ.seq ?_
    refine WJ.reg ?_
    refine SJ.buildSlice (R := fI64) (os := []) [] Try.runUnderlying31 Try.sizeOf2 Try.zeroValue2 rfl rfl rfl rfl rfl rfl fun v11 => ?_
    refine SJ.q (YldS.yld (y_assign rfl)) rfl ?_
    refine SJ.nil ?_
    refine PJ.next ?_
    obtain ⟨k14, hk15, hm⟩ := withK_open hm
    refine WJ.join (X := (List Int) × Value) (fun (x : (List Int) × Value) => k14 x.1 = some r) (fun (x : (List Int) × Value) => [(6, x.2)]) (fun (x : (List Int) × Value) => [row x.2 2 fI64 x.1]) ?_ ?_
    · clear hk15
      refine WJ.seq ?_
      refine WJ.quiet ?_
      refine QJ.step (YldS.yld (y_assign rfl)) rfl ?_
      refine QJ.done ?_
      refine PJ.next ?_
      refine WJ.block ?_
      refine WJ.sel (L' := (fun (x : (List Int) × Value × Int) => [row x.2.1 2 fI64 x.1]) ([], v11, 0)) [0] ⟨by decide, rfl⟩ ?_
      refine WJ.sub (m' := (fun (x : (List Int) × Value × Int) => [(0, str typed1), (1, str want2), (6, x.2.1), (7, .int .i64 x.2.2)]) ([], v11, 0)) ⟨rfl, rfl, rfl, rfl, trivial⟩ ?_
      refine WJ.loop (X := (List Int) × Value × Int) (fun N (x : (List Int) × Value × Int) => s_WrongPlaces_l1 k14 typed1 want2 N x.1 x.2.2 = some r) (fun (x : (List Int) × Value × Int) => [(0, str typed1), (1, str want2), (6, x.2.1), (7, .int .i64 x.2.2)]) (fun (x : (List Int) × Value × Int) => [row x.2.1 2 fI64 x.1]) ?_ N ([], v11, 0) hm
      · rintro N ⟨l16, v17, at18⟩ hI
        have hm := hI; clear hI
        cases N with
        | zero => cases hm
        | succ N =>
        unfold s_WrongPlaces_l1 at hm
        refine WJ.seq ?_
        refine WJ.seq ?_
        refine WJ.quiet ?_
        refine QJ.step (YldS.yld (y_move rfl)) rfl ?_
        refine QJ.step (YldS.yld (y_bin rfl rfl rfl)) rfl ?_
        refine QJ.done ?_
        refine PJ.next ?_
        refine WJ.cond (t := decide (at18 < 60)) rfl (fun hb19 => ?_) (fun hb19 => ?_)
        · replace hm := ifT hm hb19
          refine WJ.skip ?_
          refine PJ.next ?_
          obtain ⟨k23, hk23, hm⟩ := withK_open hm
          refine WJ.join (X := (List Int) × Value) (fun (x : (List Int) × Value) => k23 x.1 = some r) (fun (x : (List Int) × Value) => [(0, str typed1), (1, str want2), (6, x.2), (7, .int .i64 at18)]) (fun (x : (List Int) × Value) => [row x.2 2 fI64 x.1]) ?_ ?_
          · clear hk23
            refine WJ.block ?_
            refine WJ.seq ?_
            refine WJ.quiet ?_
            refine QJ.step (YldS.yld (y_move rfl)) rfl ?_
            refine QJ.step (YldS.yld (y_move rfl)) rfl ?_
            obtain ⟨r24, h25, hm⟩ := bindS hm
            refine QJ.step (y_call Try.call48 rfl (RetG.quiet fun w hw => ok_s_l12At h25 w )) rfl ?_
            refine QJ.step (YldS.yld (y_move rfl)) rfl ?_
            refine QJ.step (YldS.yld (y_move rfl)) rfl ?_
            obtain ⟨r26, h27, hm⟩ := bindS hm
            refine QJ.step (y_call Try.call48 rfl (RetG.quiet fun w hw => ok_s_l12At h27 w )) rfl ?_
            refine QJ.step (YldS.yld (y_bin8 r24 r26 rfl rfl rfl)) rfl ?_
            refine QJ.done ?_
            refine PJ.next ?_
            refine WJ.cond (t := (r24 != r26)) rfl (fun hb28 => ?_) (fun hb28 => ?_)
            · replace hm := ifT hm hb28
              refine WJ.reg ?_
              refine SJ.q (YldS.yld (y_move rfl)) rfl ?_
              refine SJ.q (YldS.yld (y_move rfl)) rfl ?_
              refine SJ.buildSlice (R := fI64) (os := [.tmp 29]) [at18] Try.runUnderlying31 Try.sizeOf2 Try.zeroValue2 rfl rfl rfl rfl rfl rfl fun v29 => ?_
              obtain ⟨l30, h31, hm⟩ := bindS hm
              refine SJ.append (k := 1) (R := fI64) h31 rfl Try.underlying31 el2 rfl rfl rfl (fun w hw => (hw.row_rd (k := 0) rfl)) rfl fun v32 => ?_
              refine SJ.q (YldS.yld (y_assign rfl)) rfl ?_
              refine SJ.nil ?_
              refine PJ.block_normal ?_
              exact PJ.joined (l30, v32) [1] hm ⟨rfl, rfl, rfl, rfl, trivial⟩ ⟨by decide, rfl⟩
            · replace hm := ifF hm hb28
              refine WJ.skip ?_
              refine PJ.block_normal ?_
              exact PJ.joined (l16, v17) [0] hm ⟨rfl, rfl, rfl, rfl, trivial⟩ ⟨by decide, rfl⟩
          · rintro ⟨l20, v21⟩ hm
            subst hk23
            refine WJ.quiet ?_
            refine QJ.step (YldS.yld (y_move rfl)) rfl ?_
            refine QJ.step (YldS.yld (y_bin rfl rfl rfl)) rfl ?_
            refine QJ.step (YldS.yld (y_assign rfl)) rfl ?_
            refine QJ.done ?_
            exact PJ.round (l20, v21, w64 (at18 + 1)) [0] hm ⟨rfl, rfl, rfl, rfl, trivial⟩ ⟨by decide, rfl⟩
        · replace hm := ifF hm hb19
          refine WJ.exit ?_
          refine PJ.then_exit (PJ.then_exit (PJ.block_exit ?_))
          exact PJ.joined (l16, v17) [0] hm ⟨rfl, trivial⟩ ⟨by decide, rfl⟩
    · rintro ⟨l12, v13⟩ hm
      subst hk15
      refine WJ.seq ?_
      refine WJ.quiet ?_
      refine QJ.step (YldS.yld (y_move rfl)) rfl ?_
      refine QJ.step (YldS.yld (y_assign rfl)) rfl ?_
      refine QJ.step (YldS.yld (y_assign rfl)) rfl ?_
      refine QJ.done ?_
      refine PJ.next ?_
      refine WJ.ret ?_
      obtain rfl := Option.some.inj hm
      refine PJ.sel (L' := [row v13 2 fI64 l12]) [0] ⟨by decide, rfl⟩ ?_
      exact PJ.retn (vs := [v13, .int .i64 0]) Try.results11 ⟨rfl, rfl, trivial⟩ ⟨_, rfl, rfl⟩

set_option maxRecDepth 100000 in
set_option maxHeartbeats 1000000 in
theorem ok_s_l00Src_among {s1 : L00Src} {list5 : List Int} {g2 : Nat} {r : Int × L00Src} (hm : s_l00Src_among s1 list5 = some r) (w : World) (S : Nat → Prop) (v3 : Value) (hr4 : RdS w (Cx.Fz ⟨w, S⟩) v3 fByte.rp s1.code) (v6 : Value) (hr7 : RdS w (Cx.Fz ⟨w, S⟩) v6 fI64.rp list5) (hA : (box g2 87 [v3, .int .i64 s1.at_, .int .u64 s1.seed]).holds w S) :
    Calls Try.prog 51 #[pt g2 0, v6] w (RetG ⟨w, S⟩ fun u L => (u = .int .i64 r.1 ∧ L = [box g2 87 [v3, .int .i64 r.2.at_, .int .u64 r.2.seed]])) := by
  unfold s_l00Src_among at hm
  refine Calls.enter1 hA [pt g2 0, v6] Try.func51 rfl Try.ntmps51 rfl ?_
  refine WJ.seq ?_
  refine WJ.quiet ?_
  refine QJ.step (YldS.yld (y_assign rfl)) rfl ?_
  refine QJ.done ?_
  refine PJ.next ?_
  refine WJ.seq ?_
  refine WJ.reg ?_
  refine SJ.q (YldS.yld (y_move rfl)) rfl ?_
  refine SJ.q (YldS.yld (y_move rfl)) rfl ?_
  refine SJ.q (YldS.yld (y_move rfl)) rfl ?_
  refine SJ.q (YldS.yld (y_lenS Try.runUnderlying31 hr7 rfl)) rfl ?_
  obtain ⟨r8, h9, hm⟩ := bindS hm
  refine SJ.call1 (k := 0) rfl Try.call50 rfl (fun w S hw hA hO => ok_s_l00Src_pick h9 w S _ (hr4.st1 hw hO) hA) rfl ?_
  rintro _ _ ⟨rfl, rfl⟩
  obtain ⟨e10, h11, hm⟩ := bindS hm
  obtain ⟨ad12, _, rfl, ha13, hy14⟩ := hr7.elem h11
  refine SJ.q (YldS.yld (hy14 Try.runUnderlying31 Try.sizeOf2 rfl rfl)) rfl ?_
  refine SJ.q (YldS.yld (y_load1 (v := .int .i64 e10) Try.isAgg2 ha13 St.frozenC rfl)) rfl ?_
  refine SJ.q (YldS.yld (y_assign rfl)) rfl ?_
  refine SJ.nil ?_
  refine PJ.next ?_
  refine WJ.ret ?_
  obtain rfl := Option.some.inj hm
  refine PJ.sel (L' := [box g2 87 [v3, .int .i64 r8.2.at_, .int .u64 r8.2.seed]]) [0] ⟨by decide, rfl⟩ ?_
  exact PJ.retn (vs := [.int .i64 e10]) Try.results51 ⟨rfl, trivial⟩ ⟨rfl, rfl⟩

set_option maxRecDepth 100000 in
set_option maxHeartbeats 1000000 in
theorem ok_s_DrawShiftedMatch {N : Nat} {code1 : List UInt8} {r : Str × Str × Int} (hm : s_DrawShiftedMatch N code1 = some r) (w : World) (v2 : Value) (hr3 : RdS w (cx w).Fz v2 fByte.rp code1) :
    Calls Try.prog 12 #[v2] w (Ret (cx w) (tup [str r.1, str r.2.1, .int .i64 r.2.2])) := by
  unfold s_DrawShiftedMatch at hm
  refine Calls.enter [v2] Try.func12 rfl Try.ntmps12 rfl ?_
  refine WJ.seq ?_
  refine WJ.quiet ?_
  refine QJ.step (YldS.yld (y_assign rfl)) rfl ?_
  refine QJ.step (YldS.yld (y_assign rfl)) rfl ?_
  refine QJ.step (YldS.yld (y_assign rfl)) rfl ?_
  refine QJ.done ?_
  refine PJ.next ?_
  refine WJ.seq ?_
  refine WJ.reg ?_
  refine SJ.q (YldS.yld (y_move rfl)) rfl ?_
  obtain ⟨r4, h5, hm⟩ := bindS hm
  refine SJ.call Try.call44 rfl (fun w hw => ok_s_l12Two h5 w _ (hr3.st hw)) rfl ?_
  rintro _ _ ⟨v6, rfl, rfl⟩
  refine SJ.q (YldS.yld (y_move rfl)) rfl ?_
  refine SJ.q (YldS.yld (y_extract rfl rfl)) rfl ?_
  refine SJ.q (YldS.yld (y_extract rfl rfl)) rfl ?_
  refine SJ.q (YldS.yld (y_extract rfl rfl)) rfl ?_
  refine SJ.q (YldS.yld (y_assign rfl)) rfl ?_
  refine SJ.q (YldS.yld (y_assign rfl)) rfl ?_
  refine SJ.q (YldS.yld (y_assign rfl)) rfl ?_
  refine SJ.nil ?_
  refine PJ.next ?_
  refine WJ.seq ?_
  refine WJ.reg ?_
  refine SJ.q (YldS.yld (y_move rfl)) rfl ?_
  obtain ⟨r7, h8, hm⟩ := bindS hm
  refine SJ.call Try.call35 rfl (fun w hw => ok_s_l00From h8 w _ (hr3.st hw)) rfl ?_
  rintro _ _ ⟨g9, rfl, rfl⟩
  refine SJ.q (YldS.yld (y_assign rfl)) rfl ?_
  refine SJ.nil ?_
  refine PJ.next ?_
  obtain ⟨k13, hk14, hm⟩ := withK_open hm
  refine WJ.join (X := Int × Int × Str) (fun (x : Int × Int × Str) => k13 x.1 x.2.1 x.2.2 = some r) (fun (x : Int × Int × Str) => [(6, str r4.2.1), (7, str x.2.2), (8, pt g9 0)]) (fun (x : Int × Int × Str) => [box g9 87 [v2, .int .i64 x.1, .int .u64 x.2.1]]) ?_ ?_
  · clear hk14
    refine WJ.seq ?_
    refine WJ.reg ?_
    refine SJ.q (YldS.yld (y_move rfl)) rfl ?_
    obtain ⟨r15, h16, hm⟩ := bindS hm
    refine SJ.call1 (k := 0) rfl Try.call49 rfl (fun w S hw hA hO => ok_s_l00Src_one h16 w S _ (hr3.st1 hw hO) hA) rfl ?_
    rintro _ _ ⟨rfl, rfl⟩
    refine SJ.q (YldS.yld (y_move rfl)) rfl ?_
    obtain ⟨t17, h18, hm⟩ := bindS hm
    refine SJ.cut 4 [(6, str r4.2.1), (7, str r4.2.2), (8, pt g9 0), (23, .bool t17)] [box g9 87 [v2, .int .i64 r15.2.at_, .int .u64 r15.2.seed], row v6 42 fOver r4.1] ?_ ?_
    · rcases Bool.eq_false_or_eq_true r15.1 with hb19 | hb19
      · replace h18 := andT h18 hb19
        refine SJ.on rfl rfl (cB hb19) (SJ.q (YldS.yld (y_move rfl)) rfl ?_)
        refine SJ.on rfl rfl (cB hb19) (SJ.q (YldS.yld (y_lenStr Try.runUnderlying9 rfl)) rfl ?_)
        refine SJ.on rfl rfl (cB hb19) (SJ.q (YldS.yld (y_bin rfl rfl rfl)) rfl ?_)
        refine SJ.q (YldS.yld (y_pick_t (cB hb19) rfl)) rfl ?_
        obtain rfl := Option.some.inj h18
        exact SJ.cut_end [0, 1] ⟨rfl, rfl, rfl, rfl, trivial⟩ ⟨by decide, rfl⟩
      · obtain rfl := andF h18 hb19
        refine SJ.off rfl rfl (cB hb19) rfl rfl ?_
        refine SJ.off rfl rfl (cB hb19) rfl rfl ?_
        refine SJ.off rfl rfl (cB hb19) rfl rfl ?_
        refine SJ.q (YldS.yld (y_pick_f (cB hb19) rfl)) rfl ?_
        exact SJ.cut_end [0, 1] ⟨rfl, rfl, rfl, rfl, trivial⟩ ⟨by decide, rfl⟩
    refine SJ.nil ?_
    refine PJ.next ?_
    refine WJ.cond (t := t17) rfl (fun hb20 => ?_) (fun hb20 => ?_)
    · replace hm := ifT hm hb20
      refine WJ.reg ?_
      refine SJ.q (YldS.yld (y_move rfl)) rfl ?_
      refine SJ.q (YldS.yld (y_move rfl)) rfl ?_
      obtain ⟨r21, h22, hm⟩ := bindS hm
      refine SJ.call1 (k := 0) rfl Try.call50 rfl (fun w S hw hA hO => ok_s_l00Src_pick h22 w S _ (hr3.st1 hw hO) hA) rfl ?_
      rintro _ _ ⟨rfl, rfl⟩
      obtain ⟨s23, h24, hm⟩ := bindS hm
      refine SJ.q (YldS.yld (y_subStr (i := some r21.1) (j := none) h24 Try.runUnderlying9 rfl ⟨_, rfl⟩ trivial)) rfl ?_
      refine SJ.q (YldS.yld (y_assign rfl)) rfl ?_
      refine SJ.nil ?_
      exact PJ.joined (r21.2.at_, r21.2.seed, s23) [0] hm ⟨rfl, rfl, rfl, trivial⟩ ⟨by decide, rfl⟩
    · replace hm := ifF hm hb20
      refine WJ.skip ?_
      exact PJ.joined (r15.2.at_, r15.2.seed, r4.2.2) [0] hm ⟨rfl, rfl, rfl, trivial⟩ ⟨by decide, rfl⟩
  · rintro ⟨x10, x11, want12⟩ hm
    subst hk14
    refine WJ.seq ?_
    refine WJ.seq ?_
    refine WJ.reg ?_
    refine SJ.q (YldS.yld (y_move rfl)) rfl ?_
    obtain ⟨r25, h26, hm⟩ := bindS hm
    refine SJ.call1 (k := 0) rfl Try.call49 rfl (fun w S hw hA hO => ok_s_l00Src_one h26 w S _ (hr3.st1 hw hO) hA) rfl ?_
    rintro _ _ ⟨rfl, rfl⟩
    refine SJ.nil ?_
    refine PJ.next ?_
    refine WJ.cond (t := r25.1) rfl (fun hb27 => ?_) (fun hb27 => ?_)
    · replace hm := ifT hm hb27
      refine WJ.seq ?_
      refine WJ.reg ?_
      refine SJ.q (YldS.yld (y_move rfl)) rfl ?_
      refine SJ.q (YldS.yld (y_move rfl)) rfl ?_
      refine SJ.q (YldS.yld (y_move rfl)) rfl ?_
      refine SJ.buildSlice (R := fI64) (os := [.const (.int .i64 (-1)), .const (.int .i64 0), .const (.int .i64 60), .const (.int .i64 61)]) [(-1), 0, 60, 61] Try.runUnderlying31 Try.sizeOf2 Try.zeroValue2 rfl rfl rfl rfl rfl rfl fun v28 => ?_
      obtain ⟨r29, h30, hm⟩ := bindS hm
      refine SJ.call2 (k := 1) rfl Try.call51 rfl (fun w S hw hA hO hB => ok_s_l00Src_among h30 w S _ (hr3.st1 hw hO) _ (hB.row_rd (j := 0) (k := 1) rfl rfl) hA) rfl ?_
      rintro _ _ ⟨rfl, rfl⟩
      refine SJ.q (YldS.yld (y_assign rfl)) rfl ?_
      refine SJ.q (YldS.yld (y_assign rfl)) rfl ?_
      refine SJ.q (YldS.yld (y_assign rfl)) rfl ?_
      refine SJ.nil ?_
      refine PJ.next ?_
      refine WJ.ret ?_
      refine PJ.then_ret ?_
      obtain rfl := Option.some.inj hm
      refine PJ.sel (L' := []) [] ⟨List.nodup_nil, rfl⟩ ?_
      exact PJ.retn (vs := [str r4.2.1, str want12, .int .i64 r29.1]) Try.results12 ⟨rfl, rfl, rfl, trivial⟩ ⟨rfl, rfl⟩
    · replace hm := ifF hm hb27
      refine WJ.skip ?_
      refine PJ.next ?_
      refine WJ.seq ?_
      refine WJ.reg ?_
      refine SJ.q (YldS.yld (y_move rfl)) rfl ?_
      refine SJ.q (YldS.yld (y_move rfl)) rfl ?_
      refine SJ.q (YldS.yld (y_move rfl)) rfl ?_
      obtain ⟨r31, h32, hm⟩ := bindS hm
      refine SJ.call1 (k := 0) rfl Try.call50 rfl (fun w S hw hA hO => ok_s_l00Src_pick h32 w S _ (hr3.st1 hw hO) hA) rfl ?_
      rintro _ _ ⟨rfl, rfl⟩
      refine SJ.q (YldS.yld (y_assign rfl)) rfl ?_
      refine SJ.q (YldS.yld (y_assign rfl)) rfl ?_
      refine SJ.q (YldS.yld (y_assign rfl)) rfl ?_
      refine SJ.nil ?_
      refine PJ.next ?_
      refine WJ.ret ?_
      obtain rfl := Option.some.inj hm
      refine PJ.sel (L' := []) [] ⟨List.nodup_nil, rfl⟩ ?_
      exact PJ.retn (vs := [str r4.2.1, str want12, .int .i64 r31.1]) Try.results12 ⟨rfl, rfl, rfl, trivial⟩ ⟨rfl, rfl⟩

set_option maxRecDepth 100000 in
set_option maxHeartbeats 1000000 in
theorem ok_i_between {n1 : Int} {low2 : Int} {high3 : Int} {r : Bool} (hm : i_between n1 low2 high3 = some r) (w : World)  :
    Calls Try.prog 52 #[.int .i64 n1, .int .i64 low2, .int .i64 high3] w (Ret (cx w) (.bool r)) := by
  unfold i_between at hm
  refine Calls.enter [.int .i64 n1, .int .i64 low2, .int .i64 high3] Try.func52 rfl Try.ntmps52 rfl ?_
  refine WJ.seq ?_
  refine WJ.quiet ?_
  refine QJ.step (YldS.yld (y_assign rfl)) rfl ?_
  refine QJ.done ?_
  refine PJ.next ?_
  refine WJ.seq ?_
  refine WJ.quiet ?_
  refine QJ.step (YldS.yld (y_move rfl)) rfl ?_
  refine QJ.step (YldS.yld (y_move rfl)) rfl ?_
  refine QJ.step (YldS.yld (y_bin rfl rfl rfl)) rfl ?_
  refine QJ.step (YldS.yld (y_move rfl)) rfl ?_
  obtain ⟨t4, h5, hm⟩ := bindS hm
  refine QJ.cut 4 [(14, .bool t4)] ?_ ?_
  · rcases Bool.eq_false_or_eq_true (decide (n1 ≥ low2)) with hb6 | hb6
    · replace h5 := andT h5 hb6
      refine QJ.on rfl rfl (cB hb6) (YldS.yld (y_move rfl)) rfl ?_
      refine QJ.on rfl rfl (cB hb6) (YldS.yld (y_move rfl)) rfl ?_
      refine QJ.on rfl rfl (cB hb6) (YldS.yld (y_bin rfl rfl rfl)) rfl ?_
      refine QJ.step (YldS.yld (y_pick_t (cB hb6) rfl)) rfl ?_
      obtain rfl := Option.some.inj h5
      exact QJ.cut_end ⟨rfl, trivial⟩
    · obtain rfl := andF h5 hb6
      refine QJ.off rfl rfl (cB hb6) rfl rfl ?_
      refine QJ.off rfl rfl (cB hb6) rfl rfl ?_
      refine QJ.off rfl rfl (cB hb6) rfl rfl ?_
      refine QJ.step (YldS.yld (y_pick_f (cB hb6) rfl)) rfl ?_
      exact QJ.cut_end ⟨rfl, trivial⟩
  refine QJ.step (YldS.yld (y_assign rfl)) rfl ?_
  refine QJ.done ?_
  refine PJ.next ?_
  refine WJ.ret ?_
  obtain rfl := Option.some.inj hm
  refine PJ.sel (L' := []) [] ⟨List.nodup_nil, rfl⟩ ?_
  exact PJ.retn (vs := [.bool t4]) Try.results52 ⟨rfl, trivial⟩ ⟨rfl, rfl⟩

set_option maxRecDepth 100000 in
set_option maxHeartbeats 1000000 in
theorem ok_i_ShiftedMatch {N : Nat} {typed1 : Str} {want2 : Str} {most3 : Int} {r : Int × Int × Int} (hm : i_ShiftedMatch N typed1 want2 most3 = some r) (w : World)  :
    Calls Try.prog 13 #[str typed1, str want2, .int .i64 most3] w (Ret (cx w) (tup [.int .i64 r.1, .int .i64 r.2.1, .int .i64 r.2.2])) := by
  unfold i_ShiftedMatch at hm
  refine Calls.enter [str typed1, str want2, .int .i64 most3] Try.func13 rfl Try.ntmps13 rfl ?_
  refine WJ.seq ?_
  refine WJ.quiet ?_
  refine QJ.step (YldS.yld (y_assign rfl)) rfl ?_
  refine QJ.step (YldS.yld (y_assign rfl)) rfl ?_
  refine QJ.step (YldS.yld (y_assign rfl)) rfl ?_
  refine QJ.done ?_
  refine PJ.next ?_
  refine WJ.seq ?_
  refine WJ.seq ?_
  refine WJ.quiet ?_
  refine QJ.step (YldS.yld (y_move rfl)) rfl ?_
  obtain ⟨r4, h5, hm⟩ := bindS hm
  refine QJ.step (y_call Try.call45 rfl (RetG.quiet fun w hw => ok_i_isCorrectLine h5 w )) rfl ?_
  refine QJ.step (YldS.yld (y_not rfl)) rfl ?_
  refine QJ.step (YldS.yld (y_move rfl)) rfl ?_
  obtain ⟨t6, h7, hm⟩ := bindS hm
  refine QJ.cut 4 [(0, str typed1), (1, str want2), (2, .int .i64 most3), (22, .bool t6)] ?_ ?_
  · rcases Bool.eq_false_or_eq_true (!r4) with hb8 | hb8
    · obtain rfl := orT h7 hb8
      refine QJ.off rfl rfl (cB hb8) rfl rfl ?_
      refine QJ.off rfl rfl (cB hb8) rfl rfl ?_
      refine QJ.off rfl rfl (cB hb8) rfl rfl ?_
      refine QJ.step (YldS.yld (y_pick_t (cB hb8) rfl)) rfl ?_
      exact QJ.cut_end ⟨rfl, rfl, rfl, rfl, trivial⟩
    · replace h7 := orF h7 hb8
      refine QJ.on rfl rfl (cB hb8) (YldS.yld (y_move rfl)) rfl ?_
      obtain ⟨r9, h10, h7⟩ := bindS h7
      refine QJ.on rfl rfl (cB hb8) (y_call Try.call45 rfl (RetG.quiet fun w hw => ok_i_isCorrectLine h10 w )) rfl ?_
      refine QJ.on rfl rfl (cB hb8) (YldS.yld (y_not rfl)) rfl ?_
      refine QJ.step (YldS.yld (y_pick_f (cB hb8) rfl)) rfl ?_
      obtain rfl := Option.some.inj h7
      exact QJ.cut_end ⟨rfl, rfl, rfl, rfl, trivial⟩
  refine QJ.step (YldS.yld (y_move rfl)) rfl ?_
  obtain ⟨t11, h12, hm⟩ := bindS hm
  refine QJ.cut 4 [(0, str typed1), (1, str want2), (2, .int .i64 most3), (27, .bool t11)] ?_ ?_
  · rcases Bool.eq_false_or_eq_true t6 with hb13 | hb13
    · obtain rfl := orT h12 hb13
      refine QJ.off rfl rfl (cB hb13) rfl rfl ?_
      refine QJ.off rfl rfl (cB hb13) rfl rfl ?_
      refine QJ.off rfl rfl (cB hb13) rfl rfl ?_
      refine QJ.step (YldS.yld (y_pick_t (cB hb13) rfl)) rfl ?_
      exact QJ.cut_end ⟨rfl, rfl, rfl, rfl, trivial⟩
    · replace h12 := orF h12 hb13
      refine QJ.on rfl rfl (cB hb13) (YldS.yld (y_move rfl)) rfl ?_
      obtain ⟨r14, h15, h12⟩ := bindS h12
      refine QJ.on rfl rfl (cB hb13) (y_call Try.call52 rfl (RetG.quiet fun w hw => ok_i_between h15 w )) rfl ?_
      refine QJ.on rfl rfl (cB hb13) (YldS.yld (y_not rfl)) rfl ?_
      refine QJ.step (YldS.yld (y_pick_f (cB hb13) rfl)) rfl ?_
      obtain rfl := Option.some.inj h12
      exact QJ.cut_end ⟨rfl, rfl, rfl, rfl, trivial⟩
  refine QJ.done ?_
  refine PJ.next ?_
  refine WJ.cond (t := t11) rfl (fun hb16 => ?_) (fun hb16 => ?_)
  · replace hm := ifT hm hb16
    refine WJ.seq ?_
    refine WJ.quiet ?_
    refine QJ.step (YldS.yld (y_assign rfl)) rfl ?_
    refine QJ.step (YldS.yld (y_assign rfl)) rfl ?_
    refine QJ.step (YldS.yld (y_assign rfl)) rfl ?_
    refine QJ.done ?_
    refine PJ.next ?_
    refine WJ.ret ?_
    refine PJ.then_ret ?_
    obtain rfl := Option.some.inj hm
    refine PJ.sel (L' := []) [] ⟨List.nodup_nil, rfl⟩ ?_
    exact PJ.retn (vs := [.int .i64 0, .int .i64 0, .int .i64 2]) Try.results13 ⟨rfl, rfl, rfl, trivial⟩ ⟨rfl, rfl⟩
  · replace hm := ifF hm hb16
    refine WJ.skip ?_
    refine PJ.next ?_
    refine WJ.seq ?_
    refine WJ.quiet ?_
    refine QJ.step (YldS.yld (y_assign rfl)) rfl ?_
    refine QJ.step (YldS.yld (y_assign rfl)) rfl ?_
    refine QJ.done ?_
    refine PJ.next ?_
    obtain ⟨k19, hk20, hm⟩ := withK_open hm
    refine WJ.join (X := Int × Int) (fun (x : Int × Int) => k19 x.1 x.2 = some r) (fun (x : Int × Int) => [(9, .int .i64 x.1), (10, .int .i64 x.2)]) (fun (x : Int × Int) => []) ?_ ?_
    · clear hk20
      refine WJ.seq ?_
      refine WJ.quiet ?_
      refine QJ.step (YldS.yld (y_move rfl)) rfl ?_
      refine QJ.step (YldS.yld (y_bin rfl rfl rfl)) rfl ?_
      refine QJ.step (YldS.yld (y_bin rfl rfl rfl)) rfl ?_
      refine QJ.step (YldS.yld (y_move rfl)) rfl ?_
      refine QJ.done ?_
      refine PJ.next ?_
      refine WJ.block ?_
      refine WJ.sel (L' := (fun (x : Int × Int × Int) => []) (0, (-1), 0)) [] ⟨List.nodup_nil, rfl⟩ ?_
      refine WJ.sub (m' := (fun (x : Int × Int × Int) => [(0, str typed1), (1, str want2), (9, .int .i64 x.1), (10, .int .i64 x.2.1), (30, .int .i64 (w64 ((w64 (2 * most3)) + 1))), (31, .int .i64 x.2.2)]) (0, (-1), 0)) ⟨rfl, rfl, rfl, rfl, rfl, rfl, trivial⟩ ?_
      refine WJ.loop (X := Int × Int × Int) (fun N (x : Int × Int × Int) => i_ShiftedMatch_l1 k19 typed1 want2 most3 N x.1 x.2.1 x.2.2 = some r) (fun (x : Int × Int × Int) => [(0, str typed1), (1, str want2), (9, .int .i64 x.1), (10, .int .i64 x.2.1), (30, .int .i64 (w64 ((w64 (2 * most3)) + 1))), (31, .int .i64 x.2.2)]) (fun (x : Int × Int × Int) => []) ?_ N (0, (-1), 0) hm
      · rintro N ⟨best21, least22, x23⟩ hI
        have hm := hI; clear hI
        cases N with
        | zero => cases hm
        | succ N =>
        unfold i_ShiftedMatch_l1 at hm
        refine WJ.seq ?_
        refine WJ.quiet ?_
        refine QJ.step (YldS.yld (y_bin rfl rfl rfl)) rfl ?_
        refine QJ.done ?_
        refine PJ.next ?_
        refine WJ.seq ?_
        refine WJ.cond (t := decide (x23 < (w64 ((w64 (2 * most3)) + 1)))) rfl (fun hb24 => ?_) (fun hb24 => ?_)
        · replace hm := ifT hm hb24
          refine WJ.skip ?_
          refine PJ.next ?_
          obtain ⟨k28, hk28, hm⟩ := withK_open hm
          refine WJ.join (X := Int × Int) (fun (x : Int × Int) => k28 x.1 x.2 = some r) (fun (x : Int × Int) => [(0, str typed1), (1, str want2), (9, .int .i64 x.1), (10, .int .i64 x.2), (30, .int .i64 (w64 ((w64 (2 * most3)) + 1))), (31, .int .i64 x23)]) (fun (x : Int × Int) => []) ?_ ?_
          · clear hk28
            refine WJ.block ?_
            refine WJ.seq ?_
            refine WJ.quiet ?_
            refine QJ.step (YldS.yld (y_move rfl)) rfl ?_
            refine QJ.step (YldS.yld (y_assign rfl)) rfl ?_
            refine QJ.done ?_
            refine PJ.next ?_
            refine WJ.seq ?_
            refine WJ.quiet ?_
            refine QJ.step (YldS.yld (y_move rfl)) rfl ?_
            refine QJ.step (YldS.yld (y_quo rfl rfl (by decide))) rfl ?_
            refine QJ.step (YldS.yld (y_assign rfl)) rfl ?_
            refine QJ.done ?_
            refine PJ.next ?_
            obtain ⟨k32, hk31, hm⟩ := withK_open hm
            refine WJ.join (X := Int) (fun (x : Int) => k32 x = some r) (fun (x : Int) => [(0, str typed1), (1, str want2), (9, .int .i64 best21), (10, .int .i64 least22), (12, .int .i64 x), (30, .int .i64 (w64 ((w64 (2 * most3)) + 1))), (31, .int .i64 x23)]) (fun (x : Int) => []) ?_ ?_
            · clear hk31
              refine WJ.seq ?_
              refine WJ.quiet ?_
              refine QJ.step (YldS.yld (y_move rfl)) rfl ?_
              refine QJ.step (YldS.yld (y_rem rfl rfl (by decide))) rfl ?_
              refine QJ.step (YldS.yld (y_bin rfl rfl rfl)) rfl ?_
              refine QJ.done ?_
              refine PJ.next ?_
              refine WJ.cond (t := ((Int.tmod x23 2) == 1)) rfl (fun hb32 => ?_) (fun hb32 => ?_)
              · replace hm := ifT hm hb32
                refine WJ.quiet ?_
                refine QJ.step (YldS.yld (y_move rfl)) rfl ?_
                refine QJ.step (YldS.yld (y_bin rfl rfl rfl)) rfl ?_
                refine QJ.step (YldS.yld (y_neg rfl)) rfl ?_
                refine QJ.step (YldS.yld (y_quo rfl rfl (by decide))) rfl ?_
                refine QJ.step (YldS.yld (y_assign rfl)) rfl ?_
                refine QJ.done ?_
                exact PJ.joined (w64 (Int.tdiv (w64 (0 - (w64 (x23 + 1)))) 2)) [] hm ⟨rfl, rfl, rfl, rfl, rfl, rfl, rfl, trivial⟩ ⟨List.nodup_nil, rfl⟩
              · replace hm := ifF hm hb32
                refine WJ.skip ?_
                exact PJ.joined (w64 (Int.tdiv x23 2)) [] hm ⟨rfl, rfl, rfl, rfl, rfl, rfl, rfl, trivial⟩ ⟨List.nodup_nil, rfl⟩
            · rintro shift29 hm
              subst hk31
              refine WJ.seq ?_
              refine WJ.quiet ?_
              refine QJ.step (YldS.yld (y_assign rfl)) rfl ?_
              refine QJ.done ?_
              refine PJ.next ?_
              obtain ⟨k36, hk35, hm⟩ := withK_open hm
              refine WJ.join (X := Int) (fun (x : Int) => k36 x = some r) (fun (x : Int) => [(0, str typed1), (1, str want2), (9, .int .i64 best21), (10, .int .i64 least22), (12, .int .i64 shift29), (13, .int .i64 x), (30, .int .i64 (w64 ((w64 (2 * most3)) + 1))), (31, .int .i64 x23)]) (fun (x : Int) => []) ?_ ?_
              · clear hk35
                refine WJ.seq ?_
                refine WJ.quiet ?_
                refine QJ.step (YldS.yld (y_assign rfl)) rfl ?_
                refine QJ.done ?_
                refine PJ.next ?_
                refine WJ.block ?_
                refine WJ.sel (L' := (fun (x : Int × Int) => []) (0, (-60))) [] ⟨List.nodup_nil, rfl⟩ ?_
                refine WJ.sub (m' := (fun (x : Int × Int) => [(0, str typed1), (1, str want2), (9, .int .i64 best21), (10, .int .i64 least22), (12, .int .i64 shift29), (13, .int .i64 x.1), (14, .int .i64 x.2), (30, .int .i64 (w64 ((w64 (2 * most3)) + 1))), (31, .int .i64 x23)]) (0, (-60))) ⟨rfl, rfl, rfl, rfl, rfl, rfl, rfl, rfl, rfl, trivial⟩ ?_
                refine WJ.loop (X := Int × Int) (fun N (x : Int × Int) => i_ShiftedMatch_l2 k36 typed1 want2 shift29 N x.1 x.2 = some r) (fun (x : Int × Int) => [(0, str typed1), (1, str want2), (9, .int .i64 best21), (10, .int .i64 least22), (12, .int .i64 shift29), (13, .int .i64 x.1), (14, .int .i64 x.2), (30, .int .i64 (w64 ((w64 (2 * most3)) + 1))), (31, .int .i64 x23)]) (fun (x : Int × Int) => []) ?_ N (0, (-60)) hm
                · rintro N ⟨differ36, at37⟩ hI
                  have hm := hI; clear hI
                  cases N with
                  | zero => cases hm
                  | succ N =>
                  unfold i_ShiftedMatch_l2 at hm
                  refine WJ.seq ?_
                  refine WJ.seq ?_
                  refine WJ.quiet ?_
                  refine QJ.step (YldS.yld (y_move rfl)) rfl ?_
                  refine QJ.step (YldS.yld (y_bin rfl rfl rfl)) rfl ?_
                  refine QJ.done ?_
                  refine PJ.next ?_
                  refine WJ.cond (t := decide (at37 < 120)) rfl (fun hb38 => ?_) (fun hb38 => ?_)
                  · replace hm := ifT hm hb38
                    refine WJ.skip ?_
                    refine PJ.next ?_
                    obtain ⟨k43, hk41, hm⟩ := withK_open hm
                    refine WJ.join (X := Int) (fun (x : Int) => k43 x = some r) (fun (x : Int) => [(0, str typed1), (1, str want2), (9, .int .i64 best21), (10, .int .i64 least22), (12, .int .i64 shift29), (13, .int .i64 x), (14, .int .i64 at37), (30, .int .i64 (w64 ((w64 (2 * most3)) + 1))), (31, .int .i64 x23)]) (fun (x : Int) => []) ?_ ?_
                    · clear hk41
                      refine WJ.block ?_
                      refine WJ.seq ?_
                      refine WJ.quiet ?_
                      refine QJ.step (YldS.yld (y_move rfl)) rfl ?_
                      refine QJ.step (YldS.yld (y_move rfl)) rfl ?_
                      refine QJ.step (YldS.yld (y_move rfl)) rfl ?_
                      refine QJ.step (YldS.yld (y_bin rfl rfl rfl)) rfl ?_
                      obtain ⟨r42, h43, hm⟩ := bindS hm
                      refine QJ.step (y_call Try.call46 rfl (RetG.quiet fun w hw => ok_i_byteAt h43 w )) rfl ?_
                      refine QJ.step (YldS.yld (y_move rfl)) rfl ?_
                      refine QJ.step (YldS.yld (y_move rfl)) rfl ?_
                      obtain ⟨r44, h45, hm⟩ := bindS hm
                      refine QJ.step (y_call Try.call46 rfl (RetG.quiet fun w hw => ok_i_byteAt h45 w )) rfl ?_
                      refine QJ.step (YldS.yld (y_bin8 r42 r44 rfl rfl rfl)) rfl ?_
                      refine QJ.done ?_
                      refine PJ.next ?_
                      refine WJ.cond (t := (r42 != r44)) rfl (fun hb46 => ?_) (fun hb46 => ?_)
                      · replace hm := ifT hm hb46
                        refine WJ.quiet ?_
                        refine QJ.step (YldS.yld (y_move rfl)) rfl ?_
                        refine QJ.step (YldS.yld (y_bin rfl rfl rfl)) rfl ?_
                        refine QJ.step (YldS.yld (y_assign rfl)) rfl ?_
                        refine QJ.done ?_
                        refine PJ.block_normal ?_
                        exact PJ.joined (w64 (differ36 + 1)) [] hm ⟨rfl, rfl, rfl, rfl, rfl, rfl, rfl, rfl, rfl, trivial⟩ ⟨List.nodup_nil, rfl⟩
                      · replace hm := ifF hm hb46
                        refine WJ.skip ?_
                        refine PJ.block_normal ?_
                        exact PJ.joined differ36 [] hm ⟨rfl, rfl, rfl, rfl, rfl, rfl, rfl, rfl, rfl, trivial⟩ ⟨List.nodup_nil, rfl⟩
                    · rintro differ39 hm
                      subst hk41
                      refine WJ.quiet ?_
                      refine QJ.step (YldS.yld (y_move rfl)) rfl ?_
                      refine QJ.step (YldS.yld (y_bin rfl rfl rfl)) rfl ?_
                      refine QJ.step (YldS.yld (y_assign rfl)) rfl ?_
                      refine QJ.done ?_
                      exact PJ.round (differ39, w64 (at37 + 1)) [] hm ⟨rfl, rfl, rfl, rfl, rfl, rfl, rfl, rfl, rfl, trivial⟩ ⟨List.nodup_nil, rfl⟩
                  · replace hm := ifF hm hb38
                    refine WJ.exit ?_
                    refine PJ.then_exit (PJ.then_exit (PJ.block_exit ?_))
                    exact PJ.joined differ36 [] hm ⟨rfl, rfl, rfl, rfl, rfl, rfl, rfl, rfl, trivial⟩ ⟨List.nodup_nil, rfl⟩
              · rintro differ33 hm
                subst hk35
                refine WJ.seq ?_
                refine WJ.quiet ?_
                refine QJ.step (YldS.yld (y_move rfl)) rfl ?_
                refine QJ.step (YldS.yld (y_bin rfl rfl rfl)) rfl ?_
                refine QJ.step (YldS.yld (y_move rfl)) rfl ?_
                obtain ⟨t47, h48, hm⟩ := bindS hm
                refine QJ.cut 4 [(0, str typed1), (1, str want2), (9, .int .i64 best21), (10, .int .i64 least22), (12, .int .i64 shift29), (13, .int .i64 differ33), (30, .int .i64 (w64 ((w64 (2 * most3)) + 1))), (31, .int .i64 x23), (64, .bool t47)] ?_ ?_
                · rcases Bool.eq_false_or_eq_true (decide (least22 < 0)) with hb49 | hb49
                  · obtain rfl := orT h48 hb49
                    refine QJ.off rfl rfl (cB hb49) rfl rfl ?_
                    refine QJ.off rfl rfl (cB hb49) rfl rfl ?_
                    refine QJ.off rfl rfl (cB hb49) rfl rfl ?_
                    refine QJ.step (YldS.yld (y_pick_t (cB hb49) rfl)) rfl ?_
                    exact QJ.cut_end ⟨rfl, rfl, rfl, rfl, rfl, rfl, rfl, rfl, rfl, trivial⟩
                  · replace h48 := orF h48 hb49
                    refine QJ.on rfl rfl (cB hb49) (YldS.yld (y_move rfl)) rfl ?_
                    refine QJ.on rfl rfl (cB hb49) (YldS.yld (y_move rfl)) rfl ?_
                    refine QJ.on rfl rfl (cB hb49) (YldS.yld (y_bin rfl rfl rfl)) rfl ?_
                    refine QJ.step (YldS.yld (y_pick_f (cB hb49) rfl)) rfl ?_
                    obtain rfl := Option.some.inj h48
                    exact QJ.cut_end ⟨rfl, rfl, rfl, rfl, rfl, rfl, rfl, rfl, rfl, trivial⟩
                refine QJ.done ?_
                refine PJ.next ?_
                refine WJ.cond (t := t47) rfl (fun hb50 => ?_) (fun hb50 => ?_)
                · replace hm := ifT hm hb50
                  refine WJ.quiet ?_
                  refine QJ.step (YldS.yld (y_move rfl)) rfl ?_
                  refine QJ.step (YldS.yld (y_move rfl)) rfl ?_
                  refine QJ.step (YldS.yld (y_assign rfl)) rfl ?_
                  refine QJ.step (YldS.yld (y_assign rfl)) rfl ?_
                  refine QJ.done ?_
                  refine PJ.block_normal ?_
                  exact PJ.joined (shift29, differ33) [] hm ⟨rfl, rfl, rfl, rfl, rfl, rfl, trivial⟩ ⟨List.nodup_nil, rfl⟩
                · replace hm := ifF hm hb50
                  refine WJ.skip ?_
                  refine PJ.block_normal ?_
                  exact PJ.joined (best21, least22) [] hm ⟨rfl, rfl, rfl, rfl, rfl, rfl, trivial⟩ ⟨List.nodup_nil, rfl⟩
          · rintro ⟨best25, least26⟩ hm
            subst hk28
            refine WJ.quiet ?_
            refine QJ.step (YldS.yld (y_bin rfl rfl rfl)) rfl ?_
            refine QJ.step (YldS.yld (y_move rfl)) rfl ?_
            refine QJ.done ?_
            exact PJ.round (best25, least26, w64 (x23 + 1)) [] hm ⟨rfl, rfl, rfl, rfl, rfl, rfl, trivial⟩ ⟨List.nodup_nil, rfl⟩
        · replace hm := ifF hm hb24
          refine WJ.exit ?_
          refine PJ.then_exit (PJ.then_exit (PJ.block_exit ?_))
          exact PJ.joined (best21, least22) [] hm ⟨rfl, rfl, trivial⟩ ⟨List.nodup_nil, rfl⟩
    · rintro ⟨best17, least18⟩ hm
      subst hk20
      refine WJ.seq ?_
      refine WJ.quiet ?_
      refine QJ.step (YldS.yld (y_move rfl)) rfl ?_
      refine QJ.step (YldS.yld (y_move rfl)) rfl ?_
      refine QJ.step (YldS.yld (y_assign rfl)) rfl ?_
      refine QJ.step (YldS.yld (y_assign rfl)) rfl ?_
      refine QJ.step (YldS.yld (y_assign rfl)) rfl ?_
      refine QJ.done ?_
      refine PJ.next ?_
      refine WJ.ret ?_
      obtain rfl := Option.some.inj hm
      refine PJ.sel (L' := []) [] ⟨List.nodup_nil, rfl⟩ ?_
      exact PJ.retn (vs := [.int .i64 best17, .int .i64 least18, .int .i64 0]) Try.results13 ⟨rfl, rfl, rfl, trivial⟩ ⟨rfl, rfl⟩

set_option maxRecDepth 100000 in
set_option maxHeartbeats 1000000 in
theorem ok_s_l12Wrong {N : Nat} {typed1 : Str} {want2 : Str} {shift3 : Int} {r : Int} (hm : s_l12Wrong N typed1 want2 shift3 = some r) (w : World)  :
    Calls Try.prog 54 #[str typed1, str want2, .int .i64 shift3] w (Ret (cx w) (.int .i64 r)) := by
  unfold s_l12Wrong at hm
  refine Calls.enter [str typed1, str want2, .int .i64 shift3] Try.func54 rfl Try.ntmps54 rfl ?_
  refine WJ.seq ?_
  refine WJ.quiet ?_
  refine QJ.step (YldS.yld (y_assign rfl)) rfl ?_
  refine QJ.done ?_
  refine PJ.next ?_
  refine WJ.seq ?_
  refine WJ.quiet ?_
  refine QJ.step (YldS.yld (y_assign rfl)) rfl ?_
  refine QJ.done ?_
  refine PJ.next ?_
  obtain ⟨k5, hk6, hm⟩ := withK_open hm
  refine WJ.join (X := Int) (fun (x : Int) => k5 x = some r) (fun (x : Int) => [(7, .int .i64 x)]) (fun (x : Int) => []) ?_ ?_
  · clear hk6
    refine WJ.seq ?_
    refine WJ.quiet ?_
    refine QJ.step (YldS.yld (y_assign rfl)) rfl ?_
    refine QJ.done ?_
    refine PJ.next ?_
    refine WJ.block ?_
    refine WJ.sel (L' := (fun (x : Int × Int) => []) (0, (-60))) [] ⟨List.nodup_nil, rfl⟩ ?_
    refine WJ.sub (m' := (fun (x : Int × Int) => [(0, str typed1), (1, str want2), (2, .int .i64 shift3), (7, .int .i64 x.1), (8, .int .i64 x.2)]) (0, (-60))) ⟨rfl, rfl, rfl, rfl, rfl, trivial⟩ ?_
    refine WJ.loop (X := Int × Int) (fun N (x : Int × Int) => s_l12Wrong_l1 k5 typed1 want2 shift3 N x.1 x.2 = some r) (fun (x : Int × Int) => [(0, str typed1), (1, str want2), (2, .int .i64 shift3), (7, .int .i64 x.1), (8, .int .i64 x.2)]) (fun (x : Int × Int) => []) ?_ N (0, (-60)) hm
    · rintro N ⟨n7, at8⟩ hI
      have hm := hI; clear hI
      cases N with
      | zero => cases hm
      | succ N =>
      unfold s_l12Wrong_l1 at hm
      refine WJ.seq ?_
      refine WJ.seq ?_
      refine WJ.quiet ?_
      refine QJ.step (YldS.yld (y_move rfl)) rfl ?_
      refine QJ.step (YldS.yld (y_bin rfl rfl rfl)) rfl ?_
      refine QJ.done ?_
      refine PJ.next ?_
      refine WJ.cond (t := decide (at8 < 120)) rfl (fun hb9 => ?_) (fun hb9 => ?_)
      · replace hm := ifT hm hb9
        refine WJ.skip ?_
        refine PJ.next ?_
        obtain ⟨k12, hk12, hm⟩ := withK_open hm
        refine WJ.join (X := Int) (fun (x : Int) => k12 x = some r) (fun (x : Int) => [(0, str typed1), (1, str want2), (2, .int .i64 shift3), (7, .int .i64 x), (8, .int .i64 at8)]) (fun (x : Int) => []) ?_ ?_
        · clear hk12
          refine WJ.block ?_
          refine WJ.seq ?_
          refine WJ.quiet ?_
          refine QJ.step (YldS.yld (y_move rfl)) rfl ?_
          refine QJ.step (YldS.yld (y_move rfl)) rfl ?_
          refine QJ.step (YldS.yld (y_move rfl)) rfl ?_
          refine QJ.step (YldS.yld (y_bin rfl rfl rfl)) rfl ?_
          obtain ⟨r13, h14, hm⟩ := bindS hm
          refine QJ.step (y_call Try.call48 rfl (RetG.quiet fun w hw => ok_s_l12At h14 w )) rfl ?_
          refine QJ.step (YldS.yld (y_move rfl)) rfl ?_
          refine QJ.step (YldS.yld (y_move rfl)) rfl ?_
          obtain ⟨r15, h16, hm⟩ := bindS hm
          refine QJ.step (y_call Try.call48 rfl (RetG.quiet fun w hw => ok_s_l12At h16 w )) rfl ?_
          refine QJ.step (YldS.yld (y_bin8 r13 r15 rfl rfl rfl)) rfl ?_
          refine QJ.done ?_
          refine PJ.next ?_
          refine WJ.cond (t := (r13 != r15)) rfl (fun hb17 => ?_) (fun hb17 => ?_)
          · replace hm := ifT hm hb17
            refine WJ.quiet ?_
            refine QJ.step (YldS.yld (y_move rfl)) rfl ?_
            refine QJ.step (YldS.yld (y_bin rfl rfl rfl)) rfl ?_
            refine QJ.step (YldS.yld (y_assign rfl)) rfl ?_
            refine QJ.done ?_
            refine PJ.block_normal ?_
            exact PJ.joined (w64 (n7 + 1)) [] hm ⟨rfl, rfl, rfl, rfl, rfl, trivial⟩ ⟨List.nodup_nil, rfl⟩
          · replace hm := ifF hm hb17
            refine WJ.skip ?_
            refine PJ.block_normal ?_
            exact PJ.joined n7 [] hm ⟨rfl, rfl, rfl, rfl, rfl, trivial⟩ ⟨List.nodup_nil, rfl⟩
        · rintro n10 hm
          subst hk12
          refine WJ.quiet ?_
          refine QJ.step (YldS.yld (y_move rfl)) rfl ?_
          refine QJ.step (YldS.yld (y_bin rfl rfl rfl)) rfl ?_
          refine QJ.step (YldS.yld (y_assign rfl)) rfl ?_
          refine QJ.done ?_
          exact PJ.round (n10, w64 (at8 + 1)) [] hm ⟨rfl, rfl, rfl, rfl, rfl, trivial⟩ ⟨List.nodup_nil, rfl⟩
      · replace hm := ifF hm hb9
        refine WJ.exit ?_
        refine PJ.then_exit (PJ.then_exit (PJ.block_exit ?_))
        exact PJ.joined n7 [] hm ⟨rfl, trivial⟩ ⟨List.nodup_nil, rfl⟩
  · rintro n4 hm
    subst hk6
    refine WJ.seq ?_
    refine WJ.quiet ?_
    refine QJ.step (YldS.yld (y_move rfl)) rfl ?_
    refine QJ.step (YldS.yld (y_assign rfl)) rfl ?_
    refine QJ.done ?_
    refine PJ.next ?_
    refine WJ.ret ?_
    obtain rfl := Option.some.inj hm
    refine PJ.sel (L' := []) [] ⟨List.nodup_nil, rfl⟩ ?_
    exact PJ.retn (vs := [.int .i64 n4]) Try.results54 ⟨rfl, trivial⟩ ⟨rfl, rfl⟩

set_option maxRecDepth 100000 in
set_option maxHeartbeats 1000000 in
theorem ok_s_ShiftedMatch {N : Nat} {typed1 : Str} {want2 : Str} {most3 : Int} {r : Int × Int × Int} (hm : s_ShiftedMatch N typed1 want2 most3 = some r) (w : World)  :
    Calls Try.prog 14 #[str typed1, str want2, .int .i64 most3] w (Ret (cx w) (tup [.int .i64 r.1, .int .i64 r.2.1, .int .i64 r.2.2])) := by
  unfold s_ShiftedMatch at hm
  refine Calls.enter [str typed1, str want2, .int .i64 most3] Try.func14 rfl Try.ntmps14 rfl ?_
  refine WJ.seq ?_
  refine WJ.quiet ?_
  refine QJ.step (YldS.yld (y_assign rfl)) rfl ?_
  refine QJ.step (YldS.yld (y_assign rfl)) rfl ?_
  refine QJ.step (YldS.yld (y_assign rfl)) rfl ?_
  refine QJ.done ?_
  refine PJ.next ?_
  refine WJ.seq ?_
  refine WJ.seq ?_
  refine WJ.quiet ?_
  refine QJ.step (YldS.yld (y_move rfl)) rfl ?_
  obtain ⟨r4, h5, hm⟩ := bindS hm
  refine QJ.step (y_call Try.call47 rfl (RetG.quiet fun w hw => ok_s_l12Line h5 w )) rfl ?_
  refine QJ.step (YldS.yld (y_not rfl)) rfl ?_
  refine QJ.step (YldS.yld (y_move rfl)) rfl ?_
  obtain ⟨t6, h7, hm⟩ := bindS hm
  refine QJ.cut 4 [(0, str typed1), (1, str want2), (2, .int .i64 most3), (21, .bool t6)] ?_ ?_
  · rcases Bool.eq_false_or_eq_true (!r4) with hb8 | hb8
    · obtain rfl := orT h7 hb8
      refine QJ.off rfl rfl (cB hb8) rfl rfl ?_
      refine QJ.off rfl rfl (cB hb8) rfl rfl ?_
      refine QJ.off rfl rfl (cB hb8) rfl rfl ?_
      refine QJ.step (YldS.yld (y_pick_t (cB hb8) rfl)) rfl ?_
      exact QJ.cut_end ⟨rfl, rfl, rfl, rfl, trivial⟩
    · replace h7 := orF h7 hb8
      refine QJ.on rfl rfl (cB hb8) (YldS.yld (y_move rfl)) rfl ?_
      obtain ⟨r9, h10, h7⟩ := bindS h7
      refine QJ.on rfl rfl (cB hb8) (y_call Try.call47 rfl (RetG.quiet fun w hw => ok_s_l12Line h10 w )) rfl ?_
      refine QJ.on rfl rfl (cB hb8) (YldS.yld (y_not rfl)) rfl ?_
      refine QJ.step (YldS.yld (y_pick_f (cB hb8) rfl)) rfl ?_
      obtain rfl := Option.some.inj h7
      exact QJ.cut_end ⟨rfl, rfl, rfl, rfl, trivial⟩
  refine QJ.step (YldS.yld (y_move rfl)) rfl ?_
  obtain ⟨t11, h12, hm⟩ := bindS hm
  refine QJ.cut 4 [(0, str typed1), (1, str want2), (2, .int .i64 most3), (26, .bool t11)] ?_ ?_
  · rcases Bool.eq_false_or_eq_true t6 with hb13 | hb13
    · obtain rfl := orT h12 hb13
      refine QJ.off rfl rfl (cB hb13) rfl rfl ?_
      refine QJ.off rfl rfl (cB hb13) rfl rfl ?_
      refine QJ.off rfl rfl (cB hb13) rfl rfl ?_
      refine QJ.step (YldS.yld (y_pick_t (cB hb13) rfl)) rfl ?_
      exact QJ.cut_end ⟨rfl, rfl, rfl, rfl, trivial⟩
    · replace h12 := orF h12 hb13
      refine QJ.on rfl rfl (cB hb13) (YldS.yld (y_move rfl)) rfl ?_
      obtain ⟨r14, h15, h12⟩ := bindS h12
      refine QJ.on rfl rfl (cB hb13) (y_call Try.call53 rfl (RetG.quiet fun w hw => ok_s_l00In h15 w )) rfl ?_
      refine QJ.on rfl rfl (cB hb13) (YldS.yld (y_not rfl)) rfl ?_
      refine QJ.step (YldS.yld (y_pick_f (cB hb13) rfl)) rfl ?_
      obtain rfl := Option.some.inj h12
      exact QJ.cut_end ⟨rfl, rfl, rfl, rfl, trivial⟩
  refine QJ.done ?_
  refine PJ.next ?_
  refine WJ.cond (t := t11) rfl (fun hb16 => ?_) (fun hb16 => ?_)
  · replace hm := ifT hm hb16
    refine WJ.seq ?_
    refine WJ.quiet ?_
    refine QJ.step (YldS.yld (y_assign rfl)) rfl ?_
    refine QJ.step (YldS.yld (y_assign rfl)) rfl ?_
    refine QJ.step (YldS.yld (y_assign rfl)) rfl ?_
    refine QJ.done ?_
    refine PJ.next ?_
    refine WJ.ret ?_
    refine PJ.then_ret ?_
    obtain rfl := Option.some.inj hm
    refine PJ.sel (L' := []) [] ⟨List.nodup_nil, rfl⟩ ?_
    exact PJ.retn (vs := [.int .i64 0, .int .i64 0, .int .i64 2]) Try.results14 ⟨rfl, rfl, rfl, trivial⟩ ⟨rfl, rfl⟩
  · replace hm := ifF hm hb16
    refine WJ.skip ?_
    refine PJ.next ?_
    refine WJ.seq ?_
    refine WJ.quiet ?_
    refine QJ.step (YldS.yld (y_assign rfl)) rfl ?_
    refine QJ.done ?_
    refine PJ.next ?_
    refine WJ.seq ?_
    refine WJ.quiet ?_
    refine QJ.step (YldS.yld (y_move rfl)) rfl ?_
    refine QJ.step (YldS.yld (y_move rfl)) rfl ?_
    obtain ⟨r17, h18, hm⟩ := bindS hm
    refine QJ.step (y_call Try.call54 rfl (RetG.quiet fun w hw => ok_s_l12Wrong h18 w )) rfl ?_
    refine QJ.step (YldS.yld (y_assign rfl)) rfl ?_
    refine QJ.done ?_
    refine PJ.next ?_
    obtain ⟨k21, hk22, hm⟩ := withK_open hm
    refine WJ.join (X := Int × Int) (fun (x : Int × Int) => k21 x.1 x.2 = some r) (fun (x : Int × Int) => [(9, .int .i64 x.1), (10, .int .i64 x.2)]) (fun (x : Int × Int) => []) ?_ ?_
    · clear hk22
      refine WJ.seq ?_
      refine WJ.quiet ?_
      refine QJ.step (YldS.yld (y_assign rfl)) rfl ?_
      refine QJ.done ?_
      refine PJ.next ?_
      refine WJ.block ?_
      refine WJ.sel (L' := (fun (x : Int × Int × Int) => []) (0, r17, 1)) [] ⟨List.nodup_nil, rfl⟩ ?_
      refine WJ.sub (m' := (fun (x : Int × Int × Int) => [(0, str typed1), (1, str want2), (2, .int .i64 most3), (9, .int .i64 x.1), (10, .int .i64 x.2.1), (11, .int .i64 x.2.2)]) (0, r17, 1)) ⟨rfl, rfl, rfl, rfl, rfl, rfl, trivial⟩ ?_
      refine WJ.loop (X := Int × Int × Int) (fun N (x : Int × Int × Int) => s_ShiftedMatch_l1 k21 typed1 want2 most3 N x.1 x.2.1 x.2.2 = some r) (fun (x : Int × Int × Int) => [(0, str typed1), (1, str want2), (2, .int .i64 most3), (9, .int .i64 x.1), (10, .int .i64 x.2.1), (11, .int .i64 x.2.2)]) (fun (x : Int × Int × Int) => []) ?_ N (0, r17, 1) hm
      · rintro N ⟨best23, least24, k25⟩ hI
        have hm := hI; clear hI
        cases N with
        | zero => cases hm
        | succ N =>
        unfold s_ShiftedMatch_l1 at hm
        refine WJ.seq ?_
        refine WJ.seq ?_
        refine WJ.quiet ?_
        refine QJ.step (YldS.yld (y_move rfl)) rfl ?_
        refine QJ.step (YldS.yld (y_move rfl)) rfl ?_
        refine QJ.step (YldS.yld (y_bin rfl rfl rfl)) rfl ?_
        refine QJ.done ?_
        refine PJ.next ?_
        refine WJ.cond (t := decide (k25 ≤ most3)) rfl (fun hb26 => ?_) (fun hb26 => ?_)
        · replace hm := ifT hm hb26
          refine WJ.skip ?_
          refine PJ.next ?_
          obtain ⟨k30, hk30, hm⟩ := withK_open hm
          refine WJ.join (X := Int × Int) (fun (x : Int × Int) => k30 x.1 x.2 = some r) (fun (x : Int × Int) => [(0, str typed1), (1, str want2), (2, .int .i64 most3), (9, .int .i64 x.1), (10, .int .i64 x.2), (11, .int .i64 k25)]) (fun (x : Int × Int) => []) ?_ ?_
          · clear hk30
            refine WJ.block ?_
            refine WJ.seq ?_
            refine WJ.quiet ?_
            refine QJ.step (YldS.yld (y_assign rfl)) rfl ?_
            refine QJ.done ?_
            refine PJ.next ?_
            refine WJ.block ?_
            refine WJ.sel (L' := (fun (x : Int × Int × Int) => []) (best23, least24, (-1))) [] ⟨List.nodup_nil, rfl⟩ ?_
            refine WJ.sub (m' := (fun (x : Int × Int × Int) => [(0, str typed1), (1, str want2), (2, .int .i64 most3), (9, .int .i64 x.1), (10, .int .i64 x.2.1), (11, .int .i64 k25), (12, .int .i64 x.2.2)]) (best23, least24, (-1))) ⟨rfl, rfl, rfl, rfl, rfl, rfl, rfl, trivial⟩ ?_
            refine WJ.loop (X := Int × Int × Int) (fun N (x : Int × Int × Int) => s_ShiftedMatch_l2 k30 typed1 want2 k25 N x.1 x.2.1 x.2.2 = some r) (fun (x : Int × Int × Int) => [(0, str typed1), (1, str want2), (2, .int .i64 most3), (9, .int .i64 x.1), (10, .int .i64 x.2.1), (11, .int .i64 k25), (12, .int .i64 x.2.2)]) (fun (x : Int × Int × Int) => []) ?_ N (best23, least24, (-1)) hm
            · rintro N ⟨best31, least32, sign33⟩ hI
              have hm := hI; clear hI
              cases N with
              | zero => cases hm
              | succ N =>
              unfold s_ShiftedMatch_l2 at hm
              refine WJ.seq ?_
              refine WJ.seq ?_
              refine WJ.quiet ?_
              refine QJ.step (YldS.yld (y_move rfl)) rfl ?_
              refine QJ.step (YldS.yld (y_bin rfl rfl rfl)) rfl ?_
              refine QJ.done ?_
              refine PJ.next ?_
              refine WJ.cond (t := decide (sign33 ≤ 1)) rfl (fun hb34 => ?_) (fun hb34 => ?_)
              · replace hm := ifT hm hb34
                refine WJ.skip ?_
                refine PJ.next ?_
                obtain ⟨k39, hk38, hm⟩ := withK_open hm
                refine WJ.join (X := Int × Int) (fun (x : Int × Int) => k39 x.1 x.2 = some r) (fun (x : Int × Int) => [(0, str typed1), (1, str want2), (2, .int .i64 most3), (9, .int .i64 x.1), (10, .int .i64 x.2), (11, .int .i64 k25), (12, .int .i64 sign33)]) (fun (x : Int × Int) => []) ?_ ?_
                · clear hk38
                  refine WJ.block ?_
                  refine WJ.seq ?_
                  refine WJ.quiet ?_
                  refine QJ.step (YldS.yld (y_move rfl)) rfl ?_
                  refine QJ.step (YldS.yld (y_move rfl)) rfl ?_
                  refine QJ.step (YldS.yld (y_move rfl)) rfl ?_
                  refine QJ.step (YldS.yld (y_move rfl)) rfl ?_
                  refine QJ.step (YldS.yld (y_bin rfl rfl rfl)) rfl ?_
                  obtain ⟨r39, h40, hm⟩ := bindS hm
                  refine QJ.step (y_call Try.call54 rfl (RetG.quiet fun w hw => ok_s_l12Wrong h40 w )) rfl ?_
                  refine QJ.step (YldS.yld (y_assign rfl)) rfl ?_
                  refine QJ.done ?_
                  refine PJ.next ?_
                  refine WJ.seq ?_
                  refine WJ.quiet ?_
                  refine QJ.step (YldS.yld (y_move rfl)) rfl ?_
                  refine QJ.step (YldS.yld (y_move rfl)) rfl ?_
                  refine QJ.step (YldS.yld (y_bin rfl rfl rfl)) rfl ?_
                  refine QJ.done ?_
                  refine PJ.next ?_
                  refine WJ.cond (t := decide (r39 < least32)) rfl (fun hb41 => ?_) (fun hb41 => ?_)
                  · replace hm := ifT hm hb41
                    refine WJ.seq ?_
                    refine WJ.quiet ?_
                    refine QJ.step (YldS.yld (y_move rfl)) rfl ?_
                    refine QJ.step (YldS.yld (y_move rfl)) rfl ?_
                    refine QJ.step (YldS.yld (y_bin rfl rfl rfl)) rfl ?_
                    refine QJ.step (YldS.yld (y_assign rfl)) rfl ?_
                    refine QJ.done ?_
                    refine PJ.next ?_
                    refine WJ.quiet ?_
                    refine QJ.step (YldS.yld (y_move rfl)) rfl ?_
                    refine QJ.step (YldS.yld (y_assign rfl)) rfl ?_
                    refine QJ.done ?_
                    refine PJ.block_normal ?_
                    exact PJ.joined (w64 (sign33 * k25), r39) [] hm ⟨rfl, rfl, rfl, rfl, rfl, rfl, rfl, trivial⟩ ⟨List.nodup_nil, rfl⟩
                  · replace hm := ifF hm hb41
                    refine WJ.skip ?_
                    refine PJ.block_normal ?_
                    exact PJ.joined (best31, least32) [] hm ⟨rfl, rfl, rfl, rfl, rfl, rfl, rfl, trivial⟩ ⟨List.nodup_nil, rfl⟩
                · rintro ⟨best35, least36⟩ hm
                  subst hk38
                  refine WJ.quiet ?_
                  refine QJ.step (YldS.yld (y_move rfl)) rfl ?_
                  refine QJ.step (YldS.yld (y_bin rfl rfl rfl)) rfl ?_
                  refine QJ.step (YldS.yld (y_assign rfl)) rfl ?_
                  refine QJ.done ?_
                  exact PJ.round (best35, least36, w64 (sign33 + 2)) [] hm ⟨rfl, rfl, rfl, rfl, rfl, rfl, rfl, trivial⟩ ⟨List.nodup_nil, rfl⟩
              · replace hm := ifF hm hb34
                refine WJ.exit ?_
                refine PJ.then_exit (PJ.then_exit (PJ.block_exit (PJ.block_normal ?_)))
                exact PJ.joined (best31, least32) [] hm ⟨rfl, rfl, rfl, rfl, rfl, rfl, trivial⟩ ⟨List.nodup_nil, rfl⟩
          · rintro ⟨best27, least28⟩ hm
            subst hk30
            refine WJ.quiet ?_
            refine QJ.step (YldS.yld (y_move rfl)) rfl ?_
            refine QJ.step (YldS.yld (y_bin rfl rfl rfl)) rfl ?_
            refine QJ.step (YldS.yld (y_assign rfl)) rfl ?_
            refine QJ.done ?_
            exact PJ.round (best27, least28, w64 (k25 + 1)) [] hm ⟨rfl, rfl, rfl, rfl, rfl, rfl, trivial⟩ ⟨List.nodup_nil, rfl⟩
        · replace hm := ifF hm hb26
          refine WJ.exit ?_
          refine PJ.then_exit (PJ.then_exit (PJ.block_exit ?_))
          exact PJ.joined (best23, least24) [] hm ⟨rfl, rfl, trivial⟩ ⟨List.nodup_nil, rfl⟩
    · rintro ⟨best19, least20⟩ hm
      subst hk22
      refine WJ.seq ?_
      refine WJ.quiet ?_
      refine QJ.step (YldS.yld (y_move rfl)) rfl ?_
      refine QJ.step (YldS.yld (y_move rfl)) rfl ?_
      refine QJ.step (YldS.yld (y_assign rfl)) rfl ?_
      refine QJ.step (YldS.yld (y_assign rfl)) rfl ?_
      refine QJ.step (YldS.yld (y_assign rfl)) rfl ?_
      refine QJ.done ?_
      refine PJ.next ?_
      refine WJ.ret ?_
      obtain rfl := Option.some.inj hm
      refine PJ.sel (L' := []) [] ⟨List.nodup_nil, rfl⟩ ?_
      exact PJ.retn (vs := [.int .i64 best19, .int .i64 least20, .int .i64 0]) Try.results14 ⟨rfl, rfl, rfl, trivial⟩ ⟨rfl, rfl⟩

set_option maxRecDepth 100000 in
set_option maxHeartbeats 1000000 in
theorem ok_s_l12DrawPlan {N : Nat} {s1 : L00Src} {g2 : Nat} {r : Str × L00Src} (hm : s_l12DrawPlan N s1 = some r) (w : World) (S : Nat → Prop) (v3 : Value) (hr4 : RdS w (Cx.Fz ⟨w, S⟩) v3 fByte.rp s1.code) (hA : (box g2 87 [v3, .int .i64 s1.at_, .int .u64 s1.seed]).holds w S) :
    Calls Try.prog 55 #[pt g2 0] w (RetG ⟨w, S⟩ fun u L => (u = str r.1 ∧ L = [box g2 87 [v3, .int .i64 r.2.at_, .int .u64 r.2.seed]])) := by
  unfold s_l12DrawPlan at hm
  refine Calls.enter1 hA [pt g2 0] Try.func55 rfl Try.ntmps55 rfl ?_
  refine WJ.seq ?_
  refine WJ.quiet ?_
  refine QJ.step (YldS.yld (y_assign rfl)) rfl ?_
  refine QJ.done ?_
  refine PJ.next ?_
  refine WJ.seq ?_
  refine WJ.reg ?_
  refine SJ.buildSlice (R := fByte) (os := []) [] Try.runUnderlying22 Try.sizeOf5 Try.zeroValue5 rfl rfl rfl rfl rfl rfl fun v5 => ?_
  refine SJ.q (YldS.yld (y_assign rfl)) rfl ?_
  refine SJ.nil ?_
  refine PJ.next ?_
  refine WJ.seq ?_
  refine WJ.reg ?_
  refine SJ.q (YldS.yld (y_move rfl)) rfl ?_
  obtain ⟨r6, h7, hm⟩ := bindS hm
  refine SJ.call1 (k := 1) rfl Try.call50 rfl (fun w S hw hA hO => ok_s_l00Src_pick h7 w S _ (hr4.st1 hw hO) hA) rfl ?_
  rintro _ _ ⟨rfl, rfl⟩
  refine SJ.q (YldS.yld (y_assign rfl)) rfl ?_
  refine SJ.nil ?_
  refine PJ.next ?_
  obtain ⟨k11, hk12, hm⟩ := withK_open hm
  refine WJ.join (X := Int × Int × Int) (fun (x : Int × Int × Int) => k11 x.1 x.2.1 x.2.2 = some r) (fun (x : Int × Int × Int) => [(0, pt g2 0), (3, v5), (4, .int .i64 x.2.2)]) (fun (x : Int × Int × Int) => [box g2 87 [v3, .int .i64 x.1, .int .u64 x.2.1], row v5 5 fByte []]) ?_ ?_
  · clear hk12
    refine WJ.seq ?_
    refine WJ.reg ?_
    refine SJ.q (YldS.yld (y_move rfl)) rfl ?_
    obtain ⟨r13, h14, hm⟩ := bindS hm
    refine SJ.call1 (k := 0) rfl Try.call49 rfl (fun w S hw hA hO => ok_s_l00Src_one h14 w S _ (hr4.st1 hw hO) hA) rfl ?_
    rintro _ _ ⟨rfl, rfl⟩
    refine SJ.nil ?_
    refine PJ.next ?_
    refine WJ.cond (t := r13.1) rfl (fun hb15 => ?_) (fun hb15 => ?_)
    · replace hm := ifT hm hb15
      refine WJ.reg ?_
      refine SJ.q (YldS.yld (y_move rfl)) rfl ?_
      obtain ⟨r16, h17, hm⟩ := bindS hm
      refine SJ.call1 (k := 0) rfl Try.call50 rfl (fun w S hw hA hO => ok_s_l00Src_pick h17 w S _ (hr4.st1 hw hO) hA) rfl ?_
      rintro _ _ ⟨rfl, rfl⟩
      refine SJ.q (YldS.yld (y_bin rfl rfl rfl)) rfl ?_
      refine SJ.q (YldS.yld (y_assign rfl)) rfl ?_
      refine SJ.nil ?_
      exact PJ.joined (r16.2.at_, r16.2.seed, w64 (60 + r16.1)) [0, 1] hm ⟨rfl, rfl, rfl, trivial⟩ ⟨by decide, rfl⟩
    · replace hm := ifF hm hb15
      refine WJ.skip ?_
      exact PJ.joined (r13.2.at_, r13.2.seed, r6.1) [0, 1] hm ⟨rfl, rfl, rfl, trivial⟩ ⟨by decide, rfl⟩
  · rintro ⟨x8, x9, n10⟩ hm
    subst hk12
    obtain ⟨k22, hk23, hm⟩ := withK_open hm
    refine WJ.join (X := Int × Int × (List UInt8) × Value) (fun (x : Int × Int × (List UInt8) × Value) => k22 x.1 x.2.1 x.2.2.1 = some r) (fun (x : Int × Int × (List UInt8) × Value) => [(0, pt g2 0), (3, x.2.2.2), (4, .int .i64 n10)]) (fun (x : Int × Int × (List UInt8) × Value) => [box g2 87 [v3, .int .i64 x.1, .int .u64 x.2.1], row x.2.2.2 5 fByte x.2.2.1]) ?_ ?_
    · clear hk23
      refine WJ.seq ?_
      refine WJ.quiet ?_
      refine QJ.step (YldS.yld (y_move rfl)) rfl ?_
      refine QJ.step (YldS.yld (y_assign rfl)) rfl ?_
      refine QJ.done ?_
      refine PJ.next ?_
      refine WJ.block ?_
      refine WJ.sel (L' := (fun (x : Int × Int × (List UInt8) × Value × Int) => [box g2 87 [v3, .int .i64 x.1, .int .u64 x.2.1], row x.2.2.2.1 5 fByte x.2.2.1]) (x8, x9, [], v5, n10)) [0, 1] ⟨by decide, rfl⟩ ?_
      refine WJ.sub (m' := (fun (x : Int × Int × (List UInt8) × Value × Int) => [(0, pt g2 0), (3, x.2.2.2.1), (4, .int .i64 n10), (5, .int .i64 x.2.2.2.2)]) (x8, x9, [], v5, n10)) ⟨rfl, rfl, rfl, rfl, trivial⟩ ?_
      refine WJ.loop (X := Int × Int × (List UInt8) × Value × Int) (fun N (x : Int × Int × (List UInt8) × Value × Int) => s_l12DrawPlan_l1 k22 s1 N x.1 x.2.1 x.2.2.1 x.2.2.2.2 = some r) (fun (x : Int × Int × (List UInt8) × Value × Int) => [(0, pt g2 0), (3, x.2.2.2.1), (4, .int .i64 n10), (5, .int .i64 x.2.2.2.2)]) (fun (x : Int × Int × (List UInt8) × Value × Int) => [box g2 87 [v3, .int .i64 x.1, .int .u64 x.2.1], row x.2.2.2.1 5 fByte x.2.2.1]) ?_ N (x8, x9, [], v5, n10) hm
      · rintro N ⟨x24, x25, l26, v27, k28⟩ hI
        have hm := hI; clear hI
        cases N with
        | zero => cases hm
        | succ N =>
        unfold s_l12DrawPlan_l1 at hm
        refine WJ.seq ?_
        refine WJ.seq ?_
        refine WJ.quiet ?_
        refine QJ.step (YldS.yld (y_move rfl)) rfl ?_
        refine QJ.step (YldS.yld (y_bin rfl rfl rfl)) rfl ?_
        refine QJ.done ?_
        refine PJ.next ?_
        refine WJ.cond (t := decide (k28 > 0)) rfl (fun hb29 => ?_) (fun hb29 => ?_)
        · replace hm := ifT hm hb29
          refine WJ.skip ?_
          refine PJ.next ?_
          refine WJ.seq ?_
          refine WJ.block ?_
          refine WJ.reg ?_
          refine SJ.q (YldS.yld (y_move rfl)) rfl ?_
          refine SJ.q (YldS.yld (y_move rfl)) rfl ?_
          obtain ⟨r30, h31, hm⟩ := bindS hm
          refine SJ.call1 (k := 0) rfl Try.call50 rfl (fun w S hw hA hO => ok_s_l00Src_pick h31 w S _ (hr4.st1 hw hO) hA) rfl ?_
          rintro _ _ ⟨rfl, rfl⟩
          obtain ⟨c32, h33, hm⟩ := bindS hm
          refine SJ.q (YldS.yld (y_idxStr Try.runUnderlying9 rfl rfl h33)) rfl ?_
          refine SJ.buildSlice (R := fByte) (os := [.tmp 22]) [c32] Try.runUnderlying22 Try.sizeOf5 Try.zeroValue5 rfl rfl rfl rfl rfl rfl fun v34 => ?_
          obtain ⟨l35, h36, hm⟩ := bindS hm
          refine SJ.append (k := 2) (R := fByte) h36 rfl Try.underlying22 el5 rfl rfl rfl (fun w hw => (hw.row_rd (k := 0) rfl)) rfl fun v37 => ?_
          refine SJ.q (YldS.yld (y_assign rfl)) rfl ?_
          refine SJ.nil ?_
          refine PJ.block_normal (PJ.next ?_)
          refine WJ.quiet ?_
          refine QJ.step (YldS.yld (y_move rfl)) rfl ?_
          refine QJ.step (YldS.yld (y_bin rfl rfl rfl)) rfl ?_
          refine QJ.step (YldS.yld (y_assign rfl)) rfl ?_
          refine QJ.done ?_
          exact PJ.round (r30.2.at_, r30.2.seed, l35, v37, w64 (k28 - 1)) [1, 2] hm ⟨rfl, rfl, rfl, rfl, trivial⟩ ⟨by decide, rfl⟩
        · replace hm := ifF hm hb29
          refine WJ.exit ?_
          refine PJ.then_exit (PJ.then_exit (PJ.block_exit ?_))
          exact PJ.joined (x24, x25, l26, v27) [0, 1] hm ⟨rfl, rfl, rfl, trivial⟩ ⟨by decide, rfl⟩
    · rintro ⟨x18, x19, l20, v21⟩ hm
      subst hk23
      obtain ⟨k41, hk42, hm⟩ := withK_open hm
      refine WJ.join (X := Int × Int × (List UInt8)) (fun (x : Int × Int × (List UInt8)) => k41 x.1 x.2.1 x.2.2 = some r) (fun (x : Int × Int × (List UInt8)) => [(3, v21)]) (fun (x : Int × Int × (List UInt8)) => [box g2 87 [v3, .int .i64 x.1, .int .u64 x.2.1], row v21 5 fByte x.2.2]) ?_ ?_
      · clear hk42
        refine WJ.seq ?_
        refine WJ.reg ?_
        refine SJ.q (YldS.yld (y_move rfl)) rfl ?_
        refine SJ.q (YldS.yld (y_bin rfl rfl rfl)) rfl ?_
        refine SJ.q (YldS.yld (y_move rfl)) rfl ?_
        obtain ⟨x45, h44, hm⟩ := bindS hm
        refine SJ.cut 3 [(3, v21), (30, .bool x45.1)] [box g2 87 [v3, .int .i64 x45.2.at_, .int .u64 x45.2.seed], row v21 5 fByte l20] ?_ ?_
        · rcases Bool.eq_false_or_eq_true (decide (n10 > 0)) with hb46 | hb46
          · replace h44 := ifT h44 hb46
            refine SJ.on rfl rfl (cB hb46) (SJ.q (YldS.yld (y_move rfl)) rfl ?_)
            obtain ⟨r47, h48, h44⟩ := bindS h44
            refine SJ.on rfl rfl (cB hb46) (SJ.call1 (k := 0) rfl Try.call49 rfl (fun w S hw hA hO => ok_s_l00Src_one h48 w S _ (hr4.st1 hw hO) hA) rfl ?_)
            rintro _ _ ⟨rfl, rfl⟩
            refine SJ.q (YldS.yld (y_pick_t (cB hb46) rfl)) rfl ?_
            obtain rfl := Option.some.inj h44
            exact SJ.cut_end [0, 1] ⟨rfl, rfl, trivial⟩ ⟨by decide, rfl⟩
          · replace h44 := ifF h44 hb46
            obtain rfl := Option.some.inj h44
            refine SJ.off rfl rfl (cB hb46) rfl rfl ?_
            refine SJ.off rfl rfl (cB hb46) rfl rfl ?_
            refine SJ.q (YldS.yld (y_pick_f (cB hb46) rfl)) rfl ?_
            exact SJ.cut_end [0, 1] ⟨rfl, rfl, trivial⟩ ⟨by decide, rfl⟩
        refine SJ.nil ?_
        refine PJ.next ?_
        refine WJ.cond (t := x45.1) rfl (fun hb49 => ?_) (fun hb49 => ?_)
        · replace hm := ifT hm hb49
          refine WJ.reg ?_
          refine SJ.q (YldS.yld (y_move rfl)) rfl ?_
          obtain ⟨e50, h51, hm⟩ := bindS hm
          refine SJ.q (YldS.yld (y_ixRow (k := 1) (R := fByte) rfl Try.runUnderlying22 Try.sizeOf5 rfl rfl h51)) rfl ?_
          refine SJ.storeRL (k := 1) (i := (Int.toNat 0)) (off := 0) (us := [.int .u8 (UInt8.toNat 120 : Int)]) (b := 120) rfl rfl (idx_get h51) rfl rfl Try.sizeOf5 rfl rfl rfl ?_
          refine SJ.nil ?_
          exact PJ.joined (x45.2.at_, x45.2.seed, (List.set l20 (Int.toNat 0) 120)) [0, 1] hm ⟨rfl, trivial⟩ ⟨by decide, rfl⟩
        · replace hm := ifF hm hb49
          refine WJ.skip ?_
          exact PJ.joined (x45.2.at_, x45.2.seed, l20) [0, 1] hm ⟨rfl, trivial⟩ ⟨by decide, rfl⟩
      · rintro ⟨x38, x39, l40⟩ hm
        subst hk42
        refine WJ.seq ?_
        refine WJ.quiet ?_
        refine QJ.step (YldS.yld (y_move rfl)) rfl ?_
        refine QJ.step (YldS.yld (y_b2s Try.underlying22 Try.underlying9 Try.underlying5 (fun w hw => ⟨_, (hw.row_rd (k := 1) rfl)⟩) rfl)) rfl ?_
        refine QJ.step (YldS.yld (y_assign rfl)) rfl ?_
        refine QJ.done ?_
        refine PJ.next ?_
        refine WJ.ret ?_
        obtain rfl := Option.some.inj hm
        refine PJ.sel (L' := [box g2 87 [v3, .int .i64 x38, .int .u64 x39]]) [0] ⟨by decide, rfl⟩ ?_
        exact PJ.retn (vs := [str l40]) Try.results55 ⟨rfl, trivial⟩ ⟨rfl, rfl⟩

set_option maxRecDepth 100000 in
set_option maxHeartbeats 1000000 in
theorem ok_s_DrawWornPlaces {N : Nat} {code1 : List UInt8} {r : (List Str)} (hm : s_DrawWornPlaces N code1 = some r) (w : World) (v2 : Value) (hr3 : RdS w (cx w).Fz v2 fByte.rp code1) :
    Calls Try.prog 15 #[v2] w (RetG (cx w) fun u L => ∃ (u1 : Value), (u = u1 ∧ L = [row u1 9 fStr r])) := by
  unfold s_DrawWornPlaces at hm
  refine Calls.enter [v2] Try.func15 rfl Try.ntmps15 rfl ?_
  refine WJ.seq ?_
  refine WJ.quiet ?_
  refine QJ.step (YldS.yld (y_assign rfl)) rfl ?_
  refine QJ.done ?_
  refine PJ.next ?_
  refine WJ.seq ?_
  refine WJ.reg ?_
  refine SJ.q (YldS.yld (y_move rfl)) rfl ?_
  obtain ⟨r4, h5, hm⟩ := bindS hm
  refine SJ.call Try.call35 rfl (fun w hw => ok_s_l00From h5 w _ (hr3.st hw)) rfl ?_
  rintro _ _ ⟨g6, rfl, rfl⟩
  refine SJ.q (YldS.yld (y_assign rfl)) rfl ?_
  refine SJ.nil ?_
  refine PJ.next ?_
  refine WJ.seq ?_
  refine WJ.reg ?_
  refine SJ.buildSlice (R := fStr) (os := []) [] Try.runUnderlying38 Try.sizeOf9 Try.zeroValue9 rfl rfl rfl rfl rfl rfl fun v7 => ?_
  refine SJ.q (YldS.yld (y_assign rfl)) rfl ?_
  refine SJ.nil ?_
  refine PJ.next ?_
  refine WJ.seq ?_
  refine WJ.reg ?_
  refine SJ.q (YldS.yld (y_move rfl)) rfl ?_
  obtain ⟨r8, h9, hm⟩ := bindS hm
  refine SJ.call1 (k := 1) rfl Try.call50 rfl (fun w S hw hA hO => ok_s_l00Src_pick h9 w S _ (hr3.st1 hw hO) hA) rfl ?_
  rintro _ _ ⟨rfl, rfl⟩
  refine SJ.q (YldS.yld (y_assign rfl)) rfl ?_
  refine SJ.nil ?_
  refine PJ.next ?_
  obtain ⟨k13, hk14, hm⟩ := withK_open hm
  refine WJ.join (X := Int × Int × Int) (fun (x : Int × Int × Int) => k13 x.1 x.2.1 x.2.2 = some r) (fun (x : Int × Int × Int) => [(3, pt g6 0), (4, v7), (5, .int .i64 x.2.2)]) (fun (x : Int × Int × Int) => [box g6 87 [v2, .int .i64 x.1, .int .u64 x.2.1], row v7 9 fStr []]) ?_ ?_
  · clear hk14
    refine WJ.seq ?_
    refine WJ.reg ?_
    refine SJ.q (YldS.yld (y_move rfl)) rfl ?_
    obtain ⟨r15, h16, hm⟩ := bindS hm
    refine SJ.call1 (k := 0) rfl Try.call49 rfl (fun w S hw hA hO => ok_s_l00Src_one h16 w S _ (hr3.st1 hw hO) hA) rfl ?_
    rintro _ _ ⟨rfl, rfl⟩
    refine SJ.nil ?_
    refine PJ.next ?_
    refine WJ.cond (t := r15.1) rfl (fun hb17 => ?_) (fun hb17 => ?_)
    · replace hm := ifT hm hb17
      refine WJ.reg ?_
      refine SJ.q (YldS.yld (y_move rfl)) rfl ?_
      obtain ⟨r18, h19, hm⟩ := bindS hm
      refine SJ.call1 (k := 0) rfl Try.call50 rfl (fun w S hw hA hO => ok_s_l00Src_pick h19 w S _ (hr3.st1 hw hO) hA) rfl ?_
      rintro _ _ ⟨rfl, rfl⟩
      refine SJ.q (YldS.yld (y_bin rfl rfl rfl)) rfl ?_
      refine SJ.q (YldS.yld (y_assign rfl)) rfl ?_
      refine SJ.nil ?_
      exact PJ.joined (r18.2.at_, r18.2.seed, w64 (20 + r18.1)) [0, 1] hm ⟨rfl, rfl, rfl, trivial⟩ ⟨by decide, rfl⟩
    · replace hm := ifF hm hb17
      refine WJ.skip ?_
      exact PJ.joined (r15.2.at_, r15.2.seed, r8.1) [0, 1] hm ⟨rfl, rfl, rfl, trivial⟩ ⟨by decide, rfl⟩
  · rintro ⟨x10, x11, n12⟩ hm
    subst hk14
    obtain ⟨k22, hk23, hm⟩ := withK_open hm
    refine WJ.join (X := (List Str) × Value) (fun (x : (List Str) × Value) => k22 x.1 = some r) (fun (x : (List Str) × Value) => [(4, x.2)]) (fun (x : (List Str) × Value) => [row x.2 9 fStr x.1]) ?_ ?_
    · clear hk23
      refine WJ.seq ?_
      refine WJ.quiet ?_
      refine QJ.step (YldS.yld (y_move rfl)) rfl ?_
      refine QJ.step (YldS.yld (y_assign rfl)) rfl ?_
      refine QJ.done ?_
      refine PJ.next ?_
      refine WJ.block ?_
      refine WJ.sel (L' := (fun (x : Int × Int × (List Str) × Value × Int) => [box g6 87 [v2, .int .i64 x.1, .int .u64 x.2.1], row x.2.2.2.1 9 fStr x.2.2.1]) (x10, x11, [], v7, n12)) [0, 1] ⟨by decide, rfl⟩ ?_
      refine WJ.sub (m' := (fun (x : Int × Int × (List Str) × Value × Int) => [(3, pt g6 0), (4, x.2.2.2.1), (6, .int .i64 x.2.2.2.2)]) (x10, x11, [], v7, n12)) ⟨rfl, rfl, rfl, trivial⟩ ?_
      refine WJ.loop (X := Int × Int × (List Str) × Value × Int) (fun N (x : Int × Int × (List Str) × Value × Int) => s_DrawWornPlaces_l1 k22 code1 N x.1 x.2.1 x.2.2.1 x.2.2.2.2 = some r) (fun (x : Int × Int × (List Str) × Value × Int) => [(3, pt g6 0), (4, x.2.2.2.1), (6, .int .i64 x.2.2.2.2)]) (fun (x : Int × Int × (List Str) × Value × Int) => [box g6 87 [v2, .int .i64 x.1, .int .u64 x.2.1], row x.2.2.2.1 9 fStr x.2.2.1]) ?_ N (x10, x11, [], v7, n12) hm
      · rintro N ⟨x24, x25, l26, v27, k28⟩ hI
        have hm := hI; clear hI
        cases N with
        | zero => cases hm
        | succ N =>
        unfold s_DrawWornPlaces_l1 at hm
        refine WJ.seq ?_
        refine WJ.seq ?_
        refine WJ.quiet ?_
        refine QJ.step (YldS.yld (y_move rfl)) rfl ?_
        refine QJ.step (YldS.yld (y_bin rfl rfl rfl)) rfl ?_
        refine QJ.done ?_
        refine PJ.next ?_
        refine WJ.cond (t := decide (k28 > 0)) rfl (fun hb29 => ?_) (fun hb29 => ?_)
        · replace hm := ifT hm hb29
          refine WJ.skip ?_
          refine PJ.next ?_
          refine WJ.seq ?_
          refine WJ.block ?_
          refine WJ.reg ?_
          refine SJ.q (YldS.yld (y_move rfl)) rfl ?_
          refine SJ.q (YldS.yld (y_move rfl)) rfl ?_
          obtain ⟨r30, h31, hm⟩ := bindS hm
          refine SJ.call1 (k := 0) rfl Try.call55 rfl (fun w S hw hA hO => ok_s_l12DrawPlan h31 w S _ (hr3.st1 hw hO) hA) rfl ?_
          rintro _ _ ⟨rfl, rfl⟩
          refine SJ.buildSlice (R := fStr) (os := [.tmp 24]) [r30.1] Try.runUnderlying38 Try.sizeOf9 Try.zeroValue9 rfl rfl rfl rfl rfl rfl fun v32 => ?_
          obtain ⟨l33, h34, hm⟩ := bindS hm
          refine SJ.append (k := 2) (R := fStr) h34 rfl Try.underlying38 el9 rfl rfl rfl (fun w hw => (hw.row_rd (k := 0) rfl)) rfl fun v35 => ?_
          refine SJ.q (YldS.yld (y_assign rfl)) rfl ?_
          refine SJ.nil ?_
          refine PJ.block_normal (PJ.next ?_)
          refine WJ.quiet ?_
          refine QJ.step (YldS.yld (y_move rfl)) rfl ?_
          refine QJ.step (YldS.yld (y_bin rfl rfl rfl)) rfl ?_
          refine QJ.step (YldS.yld (y_assign rfl)) rfl ?_
          refine QJ.done ?_
          exact PJ.round (r30.2.at_, r30.2.seed, l33, v35, w64 (k28 - 1)) [1, 2] hm ⟨rfl, rfl, rfl, trivial⟩ ⟨by decide, rfl⟩
        · replace hm := ifF hm hb29
          refine WJ.exit ?_
          refine PJ.then_exit (PJ.then_exit (PJ.block_exit ?_))
          exact PJ.joined (l26, v27) [1] hm ⟨rfl, trivial⟩ ⟨by decide, rfl⟩
    · rintro ⟨l20, v21⟩ hm
      subst hk23
      refine WJ.seq ?_
      refine WJ.quiet ?_
      refine QJ.step (YldS.yld (y_move rfl)) rfl ?_
      refine QJ.step (YldS.yld (y_assign rfl)) rfl ?_
      refine QJ.done ?_
      refine PJ.next ?_
      refine WJ.ret ?_
      obtain rfl := Option.some.inj hm
      refine PJ.sel (L' := [row v21 9 fStr l20]) [0] ⟨by decide, rfl⟩ ?_
      exact PJ.retn (vs := [v21]) Try.results15 ⟨rfl, trivial⟩ ⟨_, rfl, rfl⟩

end Go.Proofs.Ythmocnbnlpdggaa
