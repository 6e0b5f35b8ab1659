/-
  The walks: a call hands back what its plain function computes, where that has a value. No other conditions.
-/
import Derived.Test.YtdmnblhhmjbhnaaFnWritersM
import Derived.Test.YtdmnblhhmjbhnaaChecked
namespace Go.Proofs.Ytdmnblhhmjbhnaa
open Go.RowKit Go.Proofs
set_option linter.unusedVariables false
set_option linter.unusedSimpArgs false

theorem follows : Try.prog.follows .mixedOrders = true := by kernel_rfl

def TypeFault.enc (x : TypeFault) : List Value := [str x.letter, .int .i64 x.kind]
def fTypeFault : FRp TypeFault := ⟨2, TypeFault.enc, fun _ => rfl, by decide, fun x u hu => by
  simp only [TypeFault.enc, List.mem_cons, List.not_mem_nil, or_false] at hu
  rcases hu with rfl | rfl <;> rfl⟩

def shWriter : Sh Writer TypeFault 2 := ⟨fun v x => [str x.name, v], fun x => x.faults, 1, fun _ _ => rfl, fun _ _ => rfl, fun v x hv u hu => by
  simp only [List.mem_cons, List.not_mem_nil, or_false] at hu
  rcases hu with rfl | rfl <;> first | rfl | exact hv, by decide⟩

def shL00Src : Sh L00Src UInt8 3 := ⟨fun v x => [v, .int .i64 x.at_, .int .u64 x.seed], fun x => x.code, 0, fun _ _ => rfl, fun _ _ => rfl, fun v x hv u hu => by
  simp only [List.mem_cons, List.not_mem_nil, or_false] at hu
  rcases hu with rfl | rfl | rfl <;> first | rfl | exact hv, by decide⟩

def Seen.enc (x : Seen) : List Value := [str x.letter, .int .i64 x.kind]
def fSeen : FRp Seen := ⟨2, Seen.enc, fun _ => rfl, by decide, fun x u hu => by
  simp only [Seen.enc, List.mem_cons, List.not_mem_nil, or_false] at hu
  rcases hu with rfl | rfl <;> rfl⟩

theorem pl80 : PlacesOk Try.prog 80 [(0, 1), (1, 1), (2, 1)] := ⟨_, Try.runUnderlying80, fun w => by simp [Try.sizeOf3, Try.sizeOf22, Try.sizeOf78]⟩
abbrev fRaw2 : FRp (Raw 2) := fRaw 2 (by decide)
theorem fld80_1 : FieldOk Try.prog 80 1 1 3 0 := ⟨_, _, Try.runUnderlying80, rfl, rfl, rfl, Try.sizeOf3⟩
theorem fld80_0 : FieldOk Try.prog 80 0 0 22 0 := ⟨_, _, Try.runUnderlying80, rfl, rfl, rfl, Try.sizeOf22⟩
theorem fld80_2 : FieldOk Try.prog 80 2 2 78 0 := ⟨_, _, Try.runUnderlying80, rfl, rfl, rfl, Try.sizeOf78⟩
theorem pl36 : PlacesOk Try.prog 36 [(0, 1), (1, 1)] := ⟨_, Try.runUnderlying36, fun w => by simp [Try.sizeOf9, Try.sizeOf34]⟩
theorem fld36_1 : FieldOk Try.prog 36 1 1 34 0 := ⟨_, _, Try.runUnderlying36, rfl, rfl, rfl, Try.sizeOf34⟩
theorem pl49 : PlacesOk Try.prog 49 [(0, 1), (1, 1)] := ⟨_, Try.runUnderlying49, fun w => by simp [Try.sizeOf2, Try.sizeOf9]⟩
set_option maxRecDepth 100000 in
theorem el49 : ElemOk Try.prog 49 2 (fTypeFault.enc (TypeFault.mk [] 0)) := ⟨_, _, Try.type49, rfl, rfl, rfl, by decide⟩
set_option maxRecDepth 100000 in
theorem el36 : ElemOk Try.prog 36 2 (shWriter.enc (.slice none 0 0) (Writer.mk [] [])) := ⟨_, _, Try.type36, rfl, rfl, rfl, by decide⟩
theorem pl55 : PlacesOk Try.prog 55 [(0, 1), (1, 1)] := ⟨_, Try.runUnderlying55, fun w => by simp [Try.sizeOf2, Try.sizeOf9]⟩
theorem fld55_1 : FieldOk Try.prog 55 1 1 2 0 := ⟨_, _, Try.runUnderlying55, rfl, rfl, rfl, Try.sizeOf2⟩
set_option maxRecDepth 100000 in
theorem el55 : ElemOk Try.prog 55 2 (fSeen.enc (Seen.mk [] 0)) := ⟨_, _, Try.type55, rfl, rfl, rfl, by decide⟩
theorem fld36_0 : FieldOk Try.prog 36 0 0 9 0 := ⟨_, _, Try.runUnderlying36, rfl, rfl, rfl, Try.sizeOf9⟩
theorem fld49_0 : FieldOk Try.prog 49 0 0 9 0 := ⟨_, _, Try.runUnderlying49, rfl, rfl, rfl, Try.sizeOf9⟩
theorem fld49_1 : FieldOk Try.prog 49 1 1 2 0 := ⟨_, _, Try.runUnderlying49, rfl, rfl, rfl, Try.sizeOf2⟩
theorem fld55_0 : FieldOk Try.prog 55 0 0 9 0 := ⟨_, _, Try.runUnderlying55, rfl, rfl, rfl, Try.sizeOf9⟩
set_option maxRecDepth 100000 in
theorem el2 : ElemOk Try.prog 2 1 (fI64.enc 0) := ⟨_, _, Try.type2, rfl, rfl, rfl, by decide⟩
set_option maxRecDepth 100000 in
theorem zv63 : ∀ w, (zeroValue 63).run Try.prog w = .ok (.agg (List.toArray (encs fBool (List.replicate 256 false)))) w := fun w => by
  rw [Try.zeroValue63]
  refine congrArg (fun z => Result.ok (Value.agg z) w) ?_
  kernel_rfl
set_option maxRecDepth 100000 in
theorem el5 : ElemOk Try.prog 5 1 (fByte.enc 0) := ⟨_, _, Try.type5, rfl, rfl, rfl, by decide⟩
set_option maxRecDepth 100000 in
theorem el9 : ElemOk Try.prog 9 1 (fStr.enc []) := ⟨_, _, Try.type9, rfl, rfl, rfl, by decide⟩

set_option maxRecDepth 100000 in
set_option maxHeartbeats 1000000 in
theorem ok_w_a2Long {code1 : List UInt8} {more4 : List UInt8} {r : Bool} (hm : w_a2Long code1 more4 = some r) (w : World) (v2 : Value) (hr3 : RdS w (cx w).Fz v2 fByte.rp code1) (v5 : Value) (hr6 : RdS w (cx w).Fz v5 fByte.rp more4) :
    Calls Try.prog 5 #[v2, v5] w (Ret (cx w) (.bool r)) := by
  unfold w_a2Long at hm
  refine Calls.enter [v2, v5] Try.func5 rfl Try.ntmps5 rfl ?_
  refine WJ.seq ?_
  refine WJ.quiet ?_
  refine QJ.step (YldS.yld (y_assign rfl)) rfl ?_
  refine QJ.done ?_
  refine PJ.next ?_
  refine WJ.seq ?_
  refine WJ.quiet ?_
  refine QJ.step (YldS.yld (y_move rfl)) rfl ?_
  refine QJ.step (YldS.yld (y_lenS Try.runUnderlying22 hr3 rfl)) rfl ?_
  refine QJ.step (YldS.yld (y_bin rfl rfl rfl)) rfl ?_
  refine QJ.step (YldS.yld (y_move rfl)) rfl ?_
  obtain ⟨t7, h8, hm⟩ := bindS hm
  refine QJ.cut 4 [(12, .bool t7)] ?_ ?_
  · rcases Bool.eq_false_or_eq_true (decide ((List.length code1 : Int) > 3000)) with hb9 | hb9
    · obtain rfl := orT h8 hb9
      refine QJ.off rfl rfl (cB hb9) rfl rfl ?_
      refine QJ.off rfl rfl (cB hb9) rfl rfl ?_
      refine QJ.off rfl rfl (cB hb9) rfl rfl ?_
      refine QJ.step (YldS.yld (y_pick_t (cB hb9) rfl)) rfl ?_
      exact QJ.cut_end ⟨rfl, trivial⟩
    · replace h8 := orF h8 hb9
      refine QJ.on rfl rfl (cB hb9) (YldS.yld (y_move rfl)) rfl ?_
      refine QJ.on rfl rfl (cB hb9) (YldS.yld (y_lenS Try.runUnderlying22 hr6 rfl)) rfl ?_
      refine QJ.on rfl rfl (cB hb9) (YldS.yld (y_bin rfl rfl rfl)) rfl ?_
      refine QJ.step (YldS.yld (y_pick_f (cB hb9) rfl)) rfl ?_
      obtain rfl := Option.some.inj h8
      exact QJ.cut_end ⟨rfl, trivial⟩
  refine QJ.step (YldS.yld (y_assign rfl)) rfl ?_
  refine QJ.done ?_
  refine PJ.next ?_
  refine WJ.ret ?_
  obtain rfl := Option.some.inj hm
  refine PJ.sel (L' := []) [] ⟨List.nodup_nil, rfl⟩ ?_
  exact PJ.retn (vs := [.bool t7]) Try.results5 ⟨rfl, trivial⟩ ⟨rfl, rfl⟩

set_option maxRecDepth 100000 in
set_option maxHeartbeats 1000000 in
theorem ok_s_l00From {code1 : List UInt8} {r : L00Src} (hm : s_l00From code1 = some r) (w : World) (v2 : Value) (hr3 : RdS w (cx w).Fz v2 fByte.rp code1) :
    Calls Try.prog 20 #[v2] w (RetG (cx w) fun u L => ∃ (u1 : Nat), (u = pt u1 0 ∧ L = [box u1 80 [v2, .int .i64 r.at_, .int .u64 r.seed]])) := by
  unfold s_l00From at hm
  refine Calls.enter [v2] Try.func20 rfl Try.ntmps20 rfl ?_
  refine WJ.seq ?_
  refine WJ.quiet ?_
  refine QJ.step (YldS.yld (y_assign rfl)) rfl ?_
  refine QJ.done ?_
  refine PJ.next ?_
  refine WJ.seq ?_
  refine WJ.reg ?_
  refine SJ.q (YldS.yld (y_move rfl)) rfl ?_
  refine SJ.q (YldS.yld (y_build (parts := [(0, .tmp 3)]) (places := [(0, 1), (1, 1), (2, 1)]) (r := [v2, .int .i64 0, .int .u64 0]) pl80 Try.zeroValue80 rfl rfl (show _ = [(0, [v2])] from by simp only [List.map, RdS.cells1 hr3]) rfl)) rfl ?_
  refine SJ.box (cs := [v2, .int .i64 0, .int .u64 0]) rfl rfl rfl fun g4 => ?_
  refine SJ.q (YldS.yld (y_assign rfl)) rfl ?_
  refine SJ.nil ?_
  refine PJ.next ?_
  refine WJ.ret ?_
  obtain rfl := Option.some.inj hm
  refine PJ.sel (L' := [box g4 80 [v2, .int .i64 0, .int .u64 0]]) [0] ⟨by decide, rfl⟩ ?_
  exact PJ.retn (vs := [pt g4 0]) Try.results20 ⟨rfl, trivial⟩ ⟨_, rfl, rfl⟩

set_option maxRecDepth 100000 in
set_option maxHeartbeats 1000000 in
theorem ok_s_l00Src_next {s1 : L00Src} {g2 : Nat} {r : Int × L00Src} (hm : s_l00Src_next s1 = some r) (w : World) (S : Nat → Prop) (v3 : Value) (hr4 : RdS w (Cx.Fz ⟨w, S⟩) v3 fByte.rp s1.code) (hA : (box g2 80 [v3, .int .i64 s1.at_, .int .u64 s1.seed]).holds w S) :
    Calls Try.prog 38 #[pt g2 0] w (RetG ⟨w, S⟩ fun u L => (u = .int .i64 r.1 ∧ L = [box g2 80 [v3, .int .i64 r.2.at_, .int .u64 r.2.seed]])) := by
  unfold s_l00Src_next at hm
  refine Calls.enter1 hA [pt g2 0] Try.func38 rfl Try.ntmps38 rfl ?_
  refine WJ.seq ?_
  refine WJ.quiet ?_
  refine QJ.step (YldS.yld (y_assign rfl)) rfl ?_
  refine QJ.done ?_
  refine PJ.next ?_
  refine WJ.seq ?_
  refine WJ.quiet ?_
  refine QJ.step (YldS.yld (y_assign rfl)) rfl ?_
  refine QJ.done ?_
  refine PJ.next ?_
  obtain ⟨kj6, hk7, hm⟩ := withK_open hm
  refine WJ.join (X := Int) (fun (x : Int) => kj6 x = some r) (fun (x : Int) => [(0, pt g2 0), (3, .int .i64 x)]) (fun (x : Int) => [box g2 80 [v3, .int .i64 s1.at_, .int .u64 s1.seed]]) ?_ ?_
  · clear hk7
    refine WJ.seq ?_
    refine WJ.quiet_draw follows (by kernel_rfl) ?_
    refine QJ.step (YldS.yld (y_move rfl)) rfl ?_
    refine QJ.step (YldS.yld (y_nil rfl)) rfl ?_
    refine QJ.step (YldS.yld (y_fldB (o := 0) fld80_1 rfl)) rfl ?_
    refine QJ.step (YldS.yld (y_loadB (k := 0) (off := 1) (v := .int .i64 s1.at_) rfl Try.isAgg3 rfl rfl)) rfl ?_
    refine QJ.step (YldS.yld (y_move rfl)) rfl ?_
    refine QJ.step (YldS.yld (y_nil rfl)) rfl ?_
    refine QJ.step (YldS.yld (y_fldB (o := 0) fld80_0 rfl)) rfl ?_
    refine QJ.step (YldS.yld (y_loadB (k := 0) (off := 0) (v := v3) rfl Try.isAgg22 rfl rfl)) rfl ?_
    refine QJ.step (YldS.yld (y_lenS Try.runUnderlying22 hr4 rfl)) rfl ?_
    refine QJ.step (YldS.yld (y_bin rfl rfl rfl)) rfl ?_
    refine QJ.done ?_
    refine PJ.next ?_
    refine WJ.cond (t := decide (s1.at_ < (List.length s1.code : Int))) rfl (fun hb8 => ?_) (fun hb8 => ?_)
    · replace hm := ifT hm hb8
      refine WJ.quiet_draw follows (by kernel_rfl) ?_
      refine QJ.step (YldS.yld (y_move rfl)) rfl ?_
      refine QJ.step (YldS.yld (y_nil rfl)) rfl ?_
      refine QJ.step (YldS.yld (y_fldB (o := 0) fld80_0 rfl)) rfl ?_
      refine QJ.step (YldS.yld (y_loadB (k := 0) (off := 0) (v := v3) rfl Try.isAgg22 rfl rfl)) rfl ?_
      refine QJ.step (YldS.yld (y_move rfl)) rfl ?_
      refine QJ.step (YldS.yld (y_nil rfl)) rfl ?_
      refine QJ.step (YldS.yld (y_fldB (o := 0) fld80_1 rfl)) rfl ?_
      refine QJ.step (YldS.yld (y_loadB (k := 0) (off := 1) (v := .int .i64 s1.at_) rfl Try.isAgg3 rfl rfl)) rfl ?_
      obtain ⟨e9, h10, hm⟩ := bindS hm
      obtain ⟨ad11, _, rfl, ha12, hy13⟩ := hr4.elem h10
      refine QJ.step (YldS.yld (hy13 Try.runUnderlying22 Try.sizeOf5 rfl rfl)) rfl ?_
      refine QJ.step (YldS.yld (y_load1 (v := .int .u8 (UInt8.toNat e9 : Int)) Try.isAgg5 ha12 St.frozenC rfl)) rfl ?_
      refine QJ.step (YldS.yld (y_conv8 Try.runUnderlying5 Try.runUnderlying3 rfl)) rfl ?_
      refine QJ.step (YldS.yld (y_assign rfl)) rfl ?_
      refine QJ.done ?_
      exact PJ.joined (UInt8.toNat e9 : Int) [0] hm ⟨rfl, rfl, trivial⟩ ⟨by decide, rfl⟩
    · replace hm := ifF hm hb8
      refine WJ.skip ?_
      exact PJ.joined 0 [0] hm ⟨rfl, rfl, trivial⟩ ⟨by decide, rfl⟩
  · rintro b5 hm
    subst hk7
    refine WJ.seq ?_
    refine WJ.reg ?_
    refine SJ.q (YldS.yld (y_move rfl)) rfl ?_
    refine SJ.q (YldS.yld (y_nil rfl)) rfl ?_
    refine SJ.q (YldS.yld (y_fldB (o := 0) fld80_1 rfl)) rfl ?_
    refine SJ.q (YldS.yld (y_loadB (k := 0) (off := 1) (v := .int .i64 s1.at_) rfl Try.isAgg3 rfl rfl)) rfl ?_
    refine SJ.q (YldS.yld (y_bin rfl rfl rfl)) rfl ?_
    refine SJ.q (YldS.yld (y_nil rfl)) rfl ?_
    refine SJ.q (YldS.yld (y_fldB (o := 0) fld80_1 rfl)) rfl ?_
    refine SJ.storeL (k := 0) (off := 1) (us := [.int .i64 (w64 (s1.at_ + 1))]) rfl rfl rfl rfl Try.sizeOf3 rfl rfl ?_
    refine SJ.nil ?_
    refine PJ.next ?_
    refine WJ.seq ?_
    refine WJ.reg ?_
    refine SJ.q (YldS.yld (y_move rfl)) rfl ?_
    refine SJ.q (YldS.yld (y_move rfl)) rfl ?_
    refine SJ.q (YldS.yld (y_nil rfl)) rfl ?_
    refine SJ.q (YldS.yld (y_fldB (o := 0) fld80_2 rfl)) rfl ?_
    refine SJ.q (YldS.yld (y_loadB (k := 0) (off := 2) (v := .int .u64 s1.seed) rfl Try.isAgg78 rfl rfl)) rfl ?_
    refine SJ.q (YldS.yld (y_bin rfl rfl rfl)) rfl ?_
    refine SJ.q (YldS.yld (y_move rfl)) rfl ?_
    refine SJ.q (YldS.yld (y_convI Try.runUnderlying3 Try.runUnderlying78 rfl)) rfl ?_
    refine SJ.q (YldS.yld (y_bin rfl rfl rfl)) rfl ?_
    refine SJ.q (YldS.yld (y_bin rfl rfl rfl)) rfl ?_
    refine SJ.q (YldS.yld (y_nil rfl)) rfl ?_
    refine SJ.q (YldS.yld (y_fldB (o := 0) fld80_2 rfl)) rfl ?_
    refine SJ.storeL (k := 0) (off := 2) (us := [.int .u64 (IntKind.u64.wrap ((IntKind.u64.wrap ((IntKind.u64.wrap (s1.seed * 6364136223846793005)) + (IntKind.u64.wrap b5))) + 1442695040888963407))]) rfl rfl rfl rfl Try.sizeOf78 rfl rfl ?_
    refine SJ.nil ?_
    refine PJ.next ?_
    refine WJ.seq ?_
    refine WJ.seq ?_
    refine WJ.quiet_draw follows (by kernel_rfl) ?_
    refine QJ.step (YldS.yld (y_move rfl)) rfl ?_
    refine QJ.step (YldS.yld (y_nil rfl)) rfl ?_
    refine QJ.step (YldS.yld (y_fldB (o := 0) fld80_1 rfl)) rfl ?_
    refine QJ.step (YldS.yld (y_loadB (k := 0) (off := 1) (v := .int .i64 (w64 (s1.at_ + 1))) rfl Try.isAgg3 rfl rfl)) rfl ?_
    refine QJ.step (YldS.yld (y_move rfl)) rfl ?_
    refine QJ.step (YldS.yld (y_nil rfl)) rfl ?_
    refine QJ.step (YldS.yld (y_fldB (o := 0) fld80_0 rfl)) rfl ?_
    refine QJ.step (YldS.yld (y_loadB (k := 0) (off := 0) (v := v3) rfl Try.isAgg22 rfl rfl)) rfl ?_
    refine QJ.step (YldS.yld (y_lenS Try.runUnderlying22 hr4 rfl)) rfl ?_
    refine QJ.step (YldS.yld (y_bin rfl rfl rfl)) rfl ?_
    refine QJ.done ?_
    refine PJ.next ?_
    refine WJ.cond (t := decide ((w64 (s1.at_ + 1)) ≤ (List.length s1.code : Int))) rfl (fun hb14 => ?_) (fun hb14 => ?_)
    · replace hm := ifT hm hb14
      refine WJ.seq ?_
      refine WJ.quiet ?_
      refine QJ.step (YldS.yld (y_move rfl)) rfl ?_
      refine QJ.step (YldS.yld (y_assign rfl)) rfl ?_
      refine QJ.done ?_
      refine PJ.next ?_
      refine WJ.ret ?_
      refine PJ.then_ret ?_
      obtain rfl := Option.some.inj hm
      refine PJ.sel (L' := [box g2 80 [v3, .int .i64 (w64 (s1.at_ + 1)), .int .u64 (IntKind.u64.wrap ((IntKind.u64.wrap ((IntKind.u64.wrap (s1.seed * 6364136223846793005)) + (IntKind.u64.wrap b5))) + 1442695040888963407))]]) [0] ⟨by decide, rfl⟩ ?_
      exact PJ.retn (vs := [.int .i64 b5]) Try.results38 ⟨rfl, trivial⟩ ⟨rfl, rfl⟩
    · replace hm := ifF hm hb14
      refine WJ.skip ?_
      refine PJ.next ?_
      refine WJ.seq ?_
      refine WJ.quiet ?_
      refine QJ.step (YldS.yld (y_move rfl)) rfl ?_
      refine QJ.step (YldS.yld (y_nil rfl)) rfl ?_
      refine QJ.step (YldS.yld (y_fldB (o := 0) fld80_2 rfl)) rfl ?_
      refine QJ.step (YldS.yld (y_loadB (k := 0) (off := 2) (v := .int .u64 (IntKind.u64.wrap ((IntKind.u64.wrap ((IntKind.u64.wrap (s1.seed * 6364136223846793005)) + (IntKind.u64.wrap b5))) + 1442695040888963407))) rfl Try.isAgg78 rfl rfl)) rfl ?_
      refine QJ.step (YldS.yld (y_shru rfl rfl rfl)) rfl ?_
      refine QJ.step (YldS.yld (y_andu rfl rfl rfl)) rfl ?_
      refine QJ.step (YldS.yld (y_convI Try.runUnderlying78 Try.runUnderlying2 rfl)) rfl ?_
      refine QJ.step (YldS.yld (y_assign rfl)) rfl ?_
      refine QJ.done ?_
      refine PJ.next ?_
      refine WJ.ret ?_
      obtain rfl := Option.some.inj hm
      refine PJ.sel (L' := [box g2 80 [v3, .int .i64 (w64 (s1.at_ + 1)), .int .u64 (IntKind.u64.wrap ((IntKind.u64.wrap ((IntKind.u64.wrap (s1.seed * 6364136223846793005)) + (IntKind.u64.wrap b5))) + 1442695040888963407))]]) [0] ⟨by decide, rfl⟩ ?_
      exact PJ.retn (vs := [.int .i64 (w64 (uand (ushr (IntKind.u64.wrap ((IntKind.u64.wrap ((IntKind.u64.wrap (s1.seed * 6364136223846793005)) + (IntKind.u64.wrap b5))) + 1442695040888963407)) 40) 255))]) Try.results38 ⟨rfl, trivial⟩ ⟨rfl, rfl⟩

set_option maxRecDepth 100000 in
set_option maxHeartbeats 1000000 in
theorem ok_s_l00Src_pick {s1 : L00Src} {n5 : Int} {g2 : Nat} {r : Int × L00Src} (hm : s_l00Src_pick s1 n5 = some r) (w : World) (S : Nat → Prop) (v3 : Value) (hr4 : RdS w (Cx.Fz ⟨w, S⟩) v3 fByte.rp s1.code) (hA : (box g2 80 [v3, .int .i64 s1.at_, .int .u64 s1.seed]).holds w S) :
    Calls Try.prog 21 #[pt g2 0, .int .i64 n5] w (RetG ⟨w, S⟩ fun u L => (u = .int .i64 r.1 ∧ L = [box g2 80 [v3, .int .i64 r.2.at_, .int .u64 r.2.seed]])) := by
  unfold s_l00Src_pick at hm
  refine Calls.enter1 hA [pt g2 0, .int .i64 n5] Try.func21 rfl Try.ntmps21 rfl ?_
  refine WJ.seq ?_
  refine WJ.quiet ?_
  refine QJ.step (YldS.yld (y_assign rfl)) rfl ?_
  refine QJ.done ?_
  refine PJ.next ?_
  refine WJ.seq ?_
  refine WJ.seq ?_
  refine WJ.quiet ?_
  refine QJ.step (YldS.yld (y_move rfl)) rfl ?_
  refine QJ.step (YldS.yld (y_bin rfl rfl rfl)) rfl ?_
  refine QJ.done ?_
  refine PJ.next ?_
  refine WJ.cond (t := decide (n5 ≤ 1)) rfl (fun hb6 => ?_) (fun hb6 => ?_)
  · replace hm := ifT hm hb6
    refine WJ.seq ?_
    refine WJ.quiet ?_
    refine QJ.step (YldS.yld (y_assign rfl)) rfl ?_
    refine QJ.done ?_
    refine PJ.next ?_
    refine WJ.ret ?_
    refine PJ.then_ret ?_
    obtain rfl := Option.some.inj hm
    refine PJ.sel (L' := [box g2 80 [v3, .int .i64 s1.at_, .int .u64 s1.seed]]) [0] ⟨by decide, rfl⟩ ?_
    exact PJ.retn (vs := [.int .i64 0]) Try.results21 ⟨rfl, trivial⟩ ⟨rfl, rfl⟩
  · replace hm := ifF hm hb6
    refine WJ.skip ?_
    refine PJ.next ?_
    refine WJ.seq ?_
    refine WJ.reg ?_
    refine SJ.q (YldS.yld (y_move rfl)) rfl ?_
    obtain ⟨r7, h8, hm⟩ := bindS hm
    refine SJ.call1 (k := 0) rfl Try.call38 rfl (fun w S hw hA hO => ok_s_l00Src_next h8 w S _ (hr4.st1 hw hO) hA) rfl ?_
    rintro _ _ ⟨rfl, rfl⟩
    refine SJ.q (YldS.yld (y_assign rfl)) rfl ?_
    refine SJ.nil ?_
    refine PJ.next ?_
    obtain ⟨kj12, hk13, hm⟩ := withK_open hm
    refine WJ.join (X := Int × Int × Int) (fun (x : Int × Int × Int) => kj12 x.1 x.2.1 x.2.2 = some r) (fun (x : Int × Int × Int) => [(1, .int .i64 n5), (5, .int .i64 x.2.2)]) (fun (x : Int × Int × Int) => [box g2 80 [v3, .int .i64 x.1, .int .u64 x.2.1]]) ?_ ?_
    · clear hk13
      refine WJ.seq ?_
      refine WJ.quiet ?_
      refine QJ.step (YldS.yld (y_move rfl)) rfl ?_
      refine QJ.step (YldS.yld (y_bin rfl rfl rfl)) rfl ?_
      refine QJ.done ?_
      refine PJ.next ?_
      refine WJ.cond (t := decide (n5 > 200)) rfl (fun hb14 => ?_) (fun hb14 => ?_)
      · replace hm := ifT hm hb14
        refine WJ.reg ?_
        refine SJ.q (YldS.yld (y_move rfl)) rfl ?_
        refine SJ.q (YldS.yld (y_bin rfl rfl rfl)) rfl ?_
        refine SJ.q (YldS.yld (y_move rfl)) rfl ?_
        obtain ⟨r15, h16, hm⟩ := bindS hm
        refine SJ.call1 (k := 0) rfl Try.call38 rfl (fun w S hw hA hO => ok_s_l00Src_next h16 w S _ (hr4.st1 hw hO) hA) rfl ?_
        rintro _ _ ⟨rfl, rfl⟩
        refine SJ.q (YldS.yld (y_bin rfl rfl rfl)) rfl ?_
        refine SJ.q (YldS.yld (y_assign rfl)) rfl ?_
        refine SJ.nil ?_
        exact PJ.joined (r15.2.at_, r15.2.seed, w64 ((w64 (r7.1 * 256)) + r15.1)) [0] hm ⟨rfl, rfl, trivial⟩ ⟨by decide, rfl⟩
      · replace hm := ifF hm hb14
        refine WJ.skip ?_
        exact PJ.joined (r7.2.at_, r7.2.seed, r7.1) [0] hm ⟨rfl, rfl, trivial⟩ ⟨by decide, rfl⟩
    · rintro ⟨x9, x10, x11⟩ hm
      subst hk13
      refine WJ.seq ?_
      refine WJ.quiet ?_
      refine QJ.step (YldS.yld (y_move rfl)) rfl ?_
      refine QJ.step (YldS.yld (y_move rfl)) rfl ?_
      obtain ⟨q17, h18, hm⟩ := bindS hm
      refine QJ.step (YldS.yld (y_rem' h18 rfl rfl)) rfl ?_
      refine QJ.step (YldS.yld (y_assign rfl)) rfl ?_
      refine QJ.done ?_
      refine PJ.next ?_
      refine WJ.ret ?_
      obtain rfl := Option.some.inj hm
      refine PJ.sel (L' := [box g2 80 [v3, .int .i64 x9, .int .u64 x10]]) [0] ⟨by decide, rfl⟩ ?_
      exact PJ.retn (vs := [.int .i64 q17]) Try.results21 ⟨rfl, trivial⟩ ⟨rfl, rfl⟩

set_option maxRecDepth 100000 in
set_option maxHeartbeats 1000000 in
theorem ok_s_l00Src_one {s1 : L00Src} {n5 : Int} {g2 : Nat} {r : Bool × L00Src} (hm : s_l00Src_one s1 n5 = some r) (w : World) (S : Nat → Prop) (v3 : Value) (hr4 : RdS w (Cx.Fz ⟨w, S⟩) v3 fByte.rp s1.code) (hA : (box g2 80 [v3, .int .i64 s1.at_, .int .u64 s1.seed]).holds w S) :
    Calls Try.prog 46 #[pt g2 0, .int .i64 n5] w (RetG ⟨w, S⟩ fun u L => (u = .bool r.1 ∧ L = [box g2 80 [v3, .int .i64 r.2.at_, .int .u64 r.2.seed]])) := by
  unfold s_l00Src_one at hm
  refine Calls.enter1 hA [pt g2 0, .int .i64 n5] Try.func46 rfl Try.ntmps46 rfl ?_
  refine WJ.seq ?_
  refine WJ.quiet ?_
  refine QJ.step (YldS.yld (y_assign rfl)) rfl ?_
  refine QJ.done ?_
  refine PJ.next ?_
  refine WJ.seq ?_
  refine WJ.reg ?_
  refine SJ.q (YldS.yld (y_move rfl)) rfl ?_
  refine SJ.q (YldS.yld (y_move rfl)) rfl ?_
  obtain ⟨r6, h7, hm⟩ := bindS hm
  refine SJ.call1 (k := 0) rfl Try.call21 rfl (fun w S hw hA hO => ok_s_l00Src_pick h7 w S _ (hr4.st1 hw hO) hA) rfl ?_
  rintro _ _ ⟨rfl, rfl⟩
  refine SJ.q (YldS.yld (y_bin rfl rfl rfl)) rfl ?_
  refine SJ.q (YldS.yld (y_assign rfl)) rfl ?_
  refine SJ.nil ?_
  refine PJ.next ?_
  refine WJ.ret ?_
  obtain rfl := Option.some.inj hm
  refine PJ.sel (L' := [box g2 80 [v3, .int .i64 r6.2.at_, .int .u64 r6.2.seed]]) [0] ⟨by decide, rfl⟩ ?_
  exact PJ.retn (vs := [.bool (r6.1 == 0)]) Try.results46 ⟨rfl, trivial⟩ ⟨rfl, rfl⟩

set_option maxRecDepth 100000 in
set_option maxHeartbeats 1000000 in
theorem ok_s_l15New {N : Nat} {s1 : L00Src} {name5 : Str} {g2 : Nat} {r : Writer × L00Src} (hm : s_l15New N s1 name5 = some r) (w : World) (S : Nat → Prop) (v3 : Value) (hr4 : RdS w (Cx.Fz ⟨w, S⟩) v3 fByte.rp s1.code) (hA : (box g2 80 [v3, .int .i64 s1.at_, .int .u64 s1.seed]).holds w S) :
    Calls Try.prog 37 #[pt g2 0, str name5] w (RetG ⟨w, S⟩ fun u L => ∃ (u1 : Value), (u = .agg #[str r.1.name, u1] ∧ L = [box g2 80 [v3, .int .i64 r.2.at_, .int .u64 r.2.seed], row u1 49 fTypeFault r.1.faults])) := by
  unfold s_l15New at hm
  refine Calls.enter1 hA [pt g2 0, str name5] Try.func37 rfl Try.ntmps37 rfl ?_
  refine WJ.seq ?_
  refine WJ.reg ?_
  refine SJ.alloc (cs := [str [], .slice none 0 0]) Try.zeroValue36 rfl rfl fun g6 => ?_
  refine SJ.nil_row 49 fTypeFault ?_
  refine SJ.nil ?_
  refine PJ.next ?_
  refine WJ.seq ?_
  refine WJ.reg ?_
  refine SJ.q (YldS.yld (y_move rfl)) rfl ?_
  refine SJ.q (YldS.yld (y_build (parts := [(0, .tmp 8)]) (places := [(0, 1), (1, 1)]) (r := [str name5, .slice none 0 0]) pl36 Try.zeroValue36 rfl rfl rfl rfl)) rfl ?_
  refine SJ.alloc (cs := [str [], .slice none 0 0]) Try.zeroValue36 rfl rfl fun g7 => ?_
  refine SJ.nil_row 49 fTypeFault ?_
  refine SJ.storeL (k := 1) (off := 0) (us := [str name5, .slice none 0 0]) rfl rfl rfl rfl Try.sizeOf36 rfl rfl ?_
  refine SJ.nil_row 49 fTypeFault ?_
  refine SJ.erase 1 ?_
  refine SJ.nil ?_
  refine PJ.next ?_
  refine WJ.seq ?_
  refine WJ.reg ?_
  refine SJ.buildSlice (R := fStr) (os := [.const (str [97]), .const (str [101]), .const (str [110]), .const (str [114]), .const (str [116]), .const (str [126])]) ([[97], [101], [110], [114], [116], [126]] : List Str) Try.runUnderlying39 Try.sizeOf9 Try.zeroValue9 rfl rfl rfl rfl rfl rfl fun v8 => ?_
  refine SJ.q (YldS.yld (y_assign rfl)) rfl ?_
  refine SJ.nil ?_
  refine PJ.next ?_
  obtain ⟨kj14, hk15, hm⟩ := withK_open hm
  refine WJ.join (X := (List TypeFault) × Value × Str × Int × Int) (fun (x : (List TypeFault) × Value × Str × Int × Int) => kj14 x.1 x.2.2.1 x.2.2.2.1 x.2.2.2.2 = some r) (fun (x : (List TypeFault) × Value × Str × Int × Int) => [(4, pt g6 0), (5, pt g7 0)]) (fun (x : (List TypeFault) × Value × Str × Int × Int) => [row x.2.1 49 fTypeFault x.1, box g7 36 [str x.2.2.1, x.2.1], row (.slice none 0 0) 49 fTypeFault [], box g6 36 [str [], (.slice none 0 0)], box g2 80 [v3, .int .i64 x.2.2.2.1, .int .u64 x.2.2.2.2]]) ?_ ?_
  · clear hk15
    refine WJ.seq ?_
    refine WJ.quiet ?_
    refine QJ.step (YldS.yld (y_assign rfl)) rfl ?_
    refine QJ.done ?_
    refine PJ.next ?_
    refine WJ.block ?_
    refine WJ.sel (L' := (fun (x : (List TypeFault) × Value × Str × Int × Int × Int) => [row v8 9 fStr ([[97], [101], [110], [114], [116], [126]] : List Str), row x.2.1 49 fTypeFault x.1, box g7 36 [str x.2.2.1, x.2.1], row (.slice none 0 0) 49 fTypeFault [], box g6 36 [str [], (.slice none 0 0)], box g2 80 [v3, .int .i64 x.2.2.2.1, .int .u64 x.2.2.2.2.1]]) ([], (.slice none 0 0), name5, s1.at_, s1.seed, 0)) [0, 1, 2, 3, 4, 5] ⟨by decide, rfl⟩ ?_
    refine WJ.sub (m' := (fun (x : (List TypeFault) × Value × Str × Int × Int × Int) => [(0, pt g2 0), (4, pt g6 0), (5, pt g7 0), (6, v8), (7, .int .i64 x.2.2.2.2.2)]) ([], (.slice none 0 0), name5, s1.at_, s1.seed, 0)) ⟨rfl, rfl, rfl, rfl, rfl, trivial⟩ ?_
    refine WJ.loop (X := (List TypeFault) × Value × Str × Int × Int × Int) (fun N (x : (List TypeFault) × Value × Str × Int × Int × Int) => s_l15New_l1 kj14 s1 N x.1 x.2.2.1 x.2.2.2.1 x.2.2.2.2.1 x.2.2.2.2.2 = some r) (fun (x : (List TypeFault) × Value × Str × Int × Int × Int) => [(0, pt g2 0), (4, pt g6 0), (5, pt g7 0), (6, v8), (7, .int .i64 x.2.2.2.2.2)]) (fun (x : (List TypeFault) × Value × Str × Int × Int × Int) => [row v8 9 fStr ([[97], [101], [110], [114], [116], [126]] : List Str), row x.2.1 49 fTypeFault x.1, box g7 36 [str x.2.2.1, x.2.1], row (.slice none 0 0) 49 fTypeFault [], box g6 36 [str [], (.slice none 0 0)], box g2 80 [v3, .int .i64 x.2.2.2.1, .int .u64 x.2.2.2.2.1]]) ?_ N ([], (.slice none 0 0), name5, s1.at_, s1.seed, 0) hm
    · rintro N ⟨l16, v17, x18, x19, x20, i21⟩ hI
      have hm := hI; clear hI
      cases N with
      | zero => cases hm
      | succ N =>
      unfold s_l15New_l1 at hm
      refine WJ.seq ?_
      refine WJ.seq ?_
      refine WJ.quiet ?_
      refine QJ.step (YldS.yld (y_move rfl)) rfl ?_
      refine QJ.step (YldS.yld (y_move rfl)) rfl ?_
      refine QJ.step (YldS.yld (y_lenRow (k := 0) rfl Try.runUnderlying39 rfl)) rfl ?_
      refine QJ.step (YldS.yld (y_bin rfl rfl rfl)) rfl ?_
      refine QJ.done ?_
      refine PJ.next ?_
      refine WJ.cond (t := decide (i21 < (List.length ([[97], [101], [110], [114], [116], [126]] : List Str) : Int))) rfl (fun hb22 => ?_) (fun hb22 => ?_)
      · replace hm := ifT hm hb22
        refine WJ.skip ?_
        refine PJ.next ?_
        obtain ⟨kj28, hk29, hm⟩ := withK_open hm
        refine WJ.join (X := Int × Int × (List TypeFault) × Value × Str) (fun (x : Int × Int × (List TypeFault) × Value × Str) => kj28 x.1 x.2.1 x.2.2.1 x.2.2.2.2 = some r) (fun (x : Int × Int × (List TypeFault) × Value × Str) => [(0, pt g2 0), (4, pt g6 0), (5, pt g7 0), (6, v8), (7, .int .i64 i21)]) (fun (x : Int × Int × (List TypeFault) × Value × Str) => [box g2 80 [v3, .int .i64 x.1, .int .u64 x.2.1], row v8 9 fStr ([[97], [101], [110], [114], [116], [126]] : List Str), row x.2.2.2.1 49 fTypeFault x.2.2.1, box g7 36 [str x.2.2.2.2, x.2.2.2.1], row (.slice none 0 0) 49 fTypeFault [], box g6 36 [str [], (.slice none 0 0)]]) ?_ ?_
        · clear hk29
          refine WJ.block ?_
          refine WJ.seq ?_
          refine WJ.reg ?_
          refine SJ.q (YldS.yld (y_move rfl)) rfl ?_
          obtain ⟨r30, h31, hm⟩ := bindS hm
          refine SJ.call1 (k := 5) rfl Try.call46 rfl (fun w S hw hA hO => ok_s_l00Src_one h31 w S _ (hr4.st1 hw hO) hA) rfl ?_
          rintro _ _ ⟨rfl, rfl⟩
          refine SJ.nil ?_
          refine PJ.next ?_
          refine WJ.cond (t := r30.1) rfl (fun hb32 => ?_) (fun hb32 => ?_)
          · replace hm := ifT hm hb32
            obtain ⟨e33, h34, hm⟩ := bindS hm
            obtain ⟨r35, h36, hm⟩ := bindS hm
            obtain ⟨l38, h39, hm⟩ := bindS hm
            refine WJ.draws (N := 14) (listed0 := #[false, false, false, false, false, false, false, false, false, false, false, false, false, false]) [row v8 9 fStr ([[97], [101], [110], [114], [116], [126]] : List Str), row (.slice none 0 0) 49 fTypeFault [], box g6 36 [str [], (.slice none 0 0)]] follows rfl rfl ?_
            refine RJ.first 0 (listed' := #[true, false, false, false, false, false, false, false, false, false, false, false, false, false]) [1, 4, 5] rfl (by kernel_rfl) rfl ⟨by decide, rfl⟩ (y_fldB (o := 0) fld36_1 rfl) rfl ?_
            refine RJ.first 2 (listed' := #[true, false, true, false, false, false, false, false, false, false, false, false, false, false]) [1, 4, 5] rfl (by kernel_rfl) rfl ⟨by decide, rfl⟩ (y_move rfl) rfl ?_
            refine RJ.first 3 (listed' := #[true, false, true, true, false, false, false, false, false, false, false, false, false, false]) [1, 4, 5] rfl (by kernel_rfl) rfl ⟨by decide, rfl⟩ (y_move rfl) rfl ?_
            refine RJ.first 4 (listed' := #[true, false, true, true, true, false, false, false, false, false, false, false, false, false]) [1, 4, 5] rfl (by kernel_rfl) rfl ⟨by decide, rfl⟩ (y_ixRow (k := 0) (R := fStr) rfl Try.runUnderlying39 Try.sizeOf9 rfl rfl h34) rfl ?_
            refine RJ.first 5 (listed' := #[true, false, true, true, true, true, false, false, false, false, false, false, false, false]) [1, 4, 5] rfl (by kernel_rfl) rfl ⟨by decide, rfl⟩ (y_loadR (k := 0) (i := (Int.toNat i21)) (off := 0) (u := str e33) rfl Try.isAgg9 rfl (idx_get h34) rfl) rfl ?_
            refine RJ.first 6 (listed' := #[true, false, true, true, true, true, true, false, false, false, false, false, false, false]) [1, 4, 5] rfl (by kernel_rfl) rfl ⟨by decide, rfl⟩ (y_move rfl) rfl ?_
            refine RJ.hold (X := Value) 3 #[true, true, true, true, true, true, true, true, true, true, true, false, false, false] (fun (x : Value) => [(0, pt g2 0), (4, pt g6 0), (5, pt g7 0), (6, v8), (7, .int .i64 i21), (20, v17), (29, x)]) (fun (x : Value) => [row x 49 fTypeFault [(TypeFault.mk e33 (w64 (1 + r35.1)))], box g2 80 [v3, .int .i64 r35.2.at_, .int .u64 r35.2.seed], row v8 9 fStr ([[97], [101], [110], [114], [116], [126]] : List Str), row v17 49 fTypeFault l16, box g7 36 [str x18, v17], row (.slice none 0 0) 49 fTypeFault [], box g6 36 [str [], (.slice none 0 0)]]) ?_ ?_
            · rintro v37
              refine RJ.step1 11 [2, 5, 6] (by kernel_rfl) ⟨by decide, rfl⟩ ?_
              refine RO.of (listed' := #[true, true, true, true, true, true, true, true, true, true, true, true, false, false]) rfl rfl ?_
              refine SJ.append (k := 3) (R := fTypeFault) h39 rfl Try.underlying34 el49 rfl rfl rfl (fun w hw => (hw.row_rd (k := 0) rfl)) rfl fun v40 => ?_
              refine SJ.nil ?_
              refine PJ.draw ?_
              refine RJ.first 12 (listed' := #[true, true, true, true, true, true, true, true, true, true, true, true, true, false]) [2, 5, 6] rfl (by kernel_rfl) rfl ⟨by decide, rfl⟩ (y_fldB (o := 0) fld36_1 rfl) rfl ?_
              refine RJ.step1 13 [2, 5, 6] (by kernel_rfl) ⟨by decide, rfl⟩ ?_
              refine RO.of (listed' := #[true, true, true, true, true, true, true, true, true, true, true, true, true, true]) rfl rfl ?_
              refine SJ.rowCells (k := 3) rfl fun hc41 => ?_
              refine SJ.storeL (k := 4) (off := 1) (us := [v40]) rfl rfl rfl hc41.1 Try.sizeOf34 rfl (by simp [hc41.2]) ?_
              refine SJ.nil ?_
              refine PJ.draw ?_
              refine RJ.fin [2, 5, 6] (by kernel_rfl) ⟨by decide, rfl⟩ ?_
              refine PJ.block_normal ?_
              exact PJ.joined (r35.2.at_, r35.2.seed, l38, v40, x18) [1, 2, 3, 4, 5, 6] hm ⟨rfl, rfl, rfl, rfl, rfl, trivial⟩ ⟨by decide, rfl⟩
            · intro hD42
              refine RJ.step2 1 7 [1, 4, 5] (by kernel_rfl) ⟨by decide, rfl⟩ ?_ ?_
              · refine RO.of (listed' := #[true, true, true, true, true, true, true, false, false, false, false, false, false, false]) rfl rfl ?_
                refine SJ.q (YldS.yld (y_loadB (k := 3) (off := 1) (v := v17) rfl Try.isAgg34 rfl rfl)) rfl ?_
                refine SJ.nil ?_
                refine PJ.draw ?_
                refine RJ.step1 7 [1, 4, 5] (by kernel_rfl) ⟨by decide, rfl⟩ ?_
                refine RO.of (listed' := #[true, true, true, true, true, true, true, true, false, false, false, false, false, false]) rfl rfl ?_
                refine SJ.call1 (k := 0) rfl Try.call21 rfl (fun w S hw hA hO => ok_s_l00Src_pick h36 w S _ (hr4.st1 hw hO) hA) rfl ?_
                rintro _ _ ⟨rfl, rfl⟩
                refine SJ.nil ?_
                refine PJ.draw ?_
                refine RJ.first 8 (listed' := #[true, true, true, true, true, true, true, true, true, false, false, false, false, false]) [1, 4, 5] rfl (by kernel_rfl) rfl ⟨by decide, rfl⟩ (y_bin rfl rfl rfl) rfl ?_
                refine RJ.first 9 (listed' := #[true, true, true, true, true, true, true, true, true, true, false, false, false, false]) [1, 4, 5] rfl (by kernel_rfl) rfl ⟨by decide, rfl⟩ (y_build (parts := [(0, .tmp 24), (1, .tmp 27)]) (places := [(0, 1), (1, 1)]) (r := [str ((TypeFault.mk e33 (w64 (1 + r35.1))).letter), .int .i64 ((TypeFault.mk e33 (w64 (1 + r35.1))).kind)]) pl49 Try.zeroValue49 rfl rfl rfl rfl) rfl ?_
                refine RJ.step1 10 [1, 4, 5] (by kernel_rfl) ⟨by decide, rfl⟩ ?_
                refine RO.of (listed' := #[true, true, true, true, true, true, true, true, true, true, true, false, false, false]) rfl rfl ?_
                refine SJ.buildSlice (R := fTypeFault) (os := [.tmp 28]) [(TypeFault.mk e33 (w64 (1 + r35.1)))] Try.runUnderlying34 Try.sizeOf49 Try.zeroValue49 rfl rfl rfl rfl rfl rfl fun v37 => ?_
                refine SJ.nil ?_
                refine PJ.draw ?_
                exact RJ.weak (hD42 v37) [0, 1, 2, 3, 4, 5, 6] ⟨rfl, rfl, rfl, rfl, rfl, rfl, rfl, trivial⟩ ⟨by decide, rfl⟩
              · refine RO.of (listed' := #[true, false, true, true, true, true, true, true, false, false, false, false, false, false]) rfl rfl ?_
                refine SJ.call1 (k := 0) rfl Try.call21 rfl (fun w S hw hA hO => ok_s_l00Src_pick h36 w S _ (hr4.st1 hw hO) hA) rfl ?_
                rintro _ _ ⟨rfl, rfl⟩
                refine SJ.nil ?_
                refine PJ.draw ?_
                refine RJ.first 8 (listed' := #[true, false, true, true, true, true, true, true, true, false, false, false, false, false]) [1, 4, 5] rfl (by kernel_rfl) rfl ⟨by decide, rfl⟩ (y_bin rfl rfl rfl) rfl ?_
                refine RJ.first 9 (listed' := #[true, false, true, true, true, true, true, true, true, true, false, false, false, false]) [1, 4, 5] rfl (by kernel_rfl) rfl ⟨by decide, rfl⟩ (y_build (parts := [(0, .tmp 24), (1, .tmp 27)]) (places := [(0, 1), (1, 1)]) (r := [str ((TypeFault.mk e33 (w64 (1 + r35.1))).letter), .int .i64 ((TypeFault.mk e33 (w64 (1 + r35.1))).kind)]) pl49 Try.zeroValue49 rfl rfl rfl rfl) rfl ?_
                refine RJ.step2 1 10 [1, 4, 5] (by kernel_rfl) ⟨by decide, rfl⟩ ?_ ?_
                · refine RO.of (listed' := #[true, true, true, true, true, true, true, true, true, true, false, false, false, false]) rfl rfl ?_
                  refine SJ.q (YldS.yld (y_loadB (k := 3) (off := 1) (v := v17) rfl Try.isAgg34 rfl rfl)) rfl ?_
                  refine SJ.nil ?_
                  refine PJ.draw ?_
                  refine RJ.step1 10 [1, 4, 5] (by kernel_rfl) ⟨by decide, rfl⟩ ?_
                  refine RO.of (listed' := #[true, true, true, true, true, true, true, true, true, true, true, false, false, false]) rfl rfl ?_
                  refine SJ.buildSlice (R := fTypeFault) (os := [.tmp 28]) [(TypeFault.mk e33 (w64 (1 + r35.1)))] Try.runUnderlying34 Try.sizeOf49 Try.zeroValue49 rfl rfl rfl rfl rfl rfl fun v37 => ?_
                  refine SJ.nil ?_
                  refine PJ.draw ?_
                  exact RJ.weak (hD42 v37) [0, 1, 2, 3, 4, 5, 6] ⟨rfl, rfl, rfl, rfl, rfl, rfl, rfl, trivial⟩ ⟨by decide, rfl⟩
                · refine RO.of (listed' := #[true, false, true, true, true, true, true, true, true, true, true, false, false, false]) rfl rfl ?_
                  refine SJ.buildSlice (R := fTypeFault) (os := [.tmp 28]) [(TypeFault.mk e33 (w64 (1 + r35.1)))] Try.runUnderlying34 Try.sizeOf49 Try.zeroValue49 rfl rfl rfl rfl rfl rfl fun v37 => ?_
                  refine SJ.nil ?_
                  refine PJ.draw ?_
                  refine RJ.step1 1 [2, 5, 6] (by kernel_rfl) ⟨by decide, rfl⟩ ?_
                  refine RO.of (listed' := #[true, true, true, true, true, true, true, true, true, true, true, false, false, false]) rfl rfl ?_
                  refine SJ.q (YldS.yld (y_loadB (k := 4) (off := 1) (v := v17) rfl Try.isAgg34 rfl rfl)) rfl ?_
                  refine SJ.nil ?_
                  refine PJ.draw ?_
                  exact RJ.weak (hD42 v37) [0, 1, 2, 3, 4, 5, 6] ⟨rfl, rfl, rfl, rfl, rfl, rfl, rfl, trivial⟩ ⟨by decide, rfl⟩
          · replace hm := ifF hm hb32
            refine WJ.skip ?_
            refine PJ.block_normal ?_
            exact PJ.joined (r30.2.at_, r30.2.seed, l16, v17, x18) [0, 1, 2, 3, 4, 5] hm ⟨rfl, rfl, rfl, rfl, rfl, trivial⟩ ⟨by decide, rfl⟩
        · rintro ⟨x23, x24, l25, v26, x27⟩ hm
          subst hk29
          refine WJ.quiet ?_
          refine QJ.step (YldS.yld (y_move rfl)) rfl ?_
          refine QJ.step (YldS.yld (y_bin rfl rfl rfl)) rfl ?_
          refine QJ.step (YldS.yld (y_assign rfl)) rfl ?_
          refine QJ.done ?_
          exact PJ.round (l25, v26, x27, x23, x24, w64 (i21 + 1)) [1, 2, 3, 4, 5, 0] hm ⟨rfl, rfl, rfl, rfl, rfl, trivial⟩ ⟨by decide, rfl⟩
      · replace hm := ifF hm hb22
        refine WJ.exit ?_
        refine PJ.then_exit (PJ.then_exit (PJ.block_exit ?_))
        exact PJ.joined (l16, v17, x18, x19, x20) [1, 2, 3, 4, 5] hm ⟨rfl, rfl, trivial⟩ ⟨by decide, rfl⟩
  · rintro ⟨l9, v10, x11, x12, x13⟩ hm
    subst hk15
    refine WJ.seq ?_
    refine WJ.reg ?_
    refine SJ.q (YldS.yld (y_loadBN (k := 1) (off := 0) (us := [str x11, v10]) rfl Try.isAgg36 Try.sizeOf36 rfl rfl)) rfl ?_
    refine SJ.rowCells (k := 0) rfl fun hc43 => ?_
    refine SJ.storeL (k := 3) (off := 0) (us := [str x11, v10]) rfl rfl rfl rfl Try.sizeOf36 rfl (by simp only [List.all_cons, hc43.2]; rfl) ?_
    refine SJ.erase 2 ?_
    refine SJ.nil ?_
    refine PJ.next ?_
    refine WJ.ret ?_
    obtain rfl := Option.some.inj hm
    exact PJ.retn_sel (vs := [.agg #[str x11, v10]]) Try.results37 ⟨⟨2, g6, 36, [str x11, v10], rfl, rfl, .inl ⟨Try.isAgg36, Try.sizeOf36, rfl⟩⟩, trivial⟩ [3, 0] ⟨by decide, rfl⟩ ⟨_, rfl, rfl⟩

set_option maxRecDepth 100000 in
set_option maxHeartbeats 1000000 in
theorem ok_s_l15Draw {N : Nat} {s1 : L00Src} {g2 : Nat} {r : (List Writer) × L00Src} (hm : s_l15Draw N s1 = some r) (w : World) (S : Nat → Prop) (v3 : Value) (hr4 : RdS w (Cx.Fz ⟨w, S⟩) v3 fByte.rp s1.code) (hA : (box g2 80 [v3, .int .i64 s1.at_, .int .u64 s1.seed]).holds w S) :
    Calls Try.prog 19 #[pt g2 0] w (RetG ⟨w, S⟩ fun u L => ∃ (u1 : Value) (u2 : List (Raw 2)), (u = u1 ∧ L = [box g2 80 [v3, .int .i64 r.2.at_, .int .u64 r.2.seed], row u1 36 fRaw2 u2, ins shWriter 49 fTypeFault u2 r.1])) := by
  unfold s_l15Draw at hm
  refine Calls.enter1 hA [pt g2 0] Try.func19 rfl Try.ntmps19 rfl ?_
  refine WJ.seq ?_
  refine WJ.quiet ?_
  refine QJ.step (YldS.yld (y_assign rfl)) rfl ?_
  refine QJ.done ?_
  refine PJ.next ?_
  refine WJ.seq ?_
  refine WJ.reg ?_
  refine SJ.buildSlice (R := fStr) (os := [.const (str [97, 100, 108, 101, 114, 45, 55]), .const (str [105, 100, 101, 97, 108]), .const (str [109, 105, 103, 110, 111, 110]), .const (str [111, 108, 121, 109, 112, 105, 97]), .const (str [114, 111, 121, 97, 108])]) ([[97, 100, 108, 101, 114, 45, 55], [105, 100, 101, 97, 108], [109, 105, 103, 110, 111, 110], [111, 108, 121, 109, 112, 105, 97], [114, 111, 121, 97, 108]] : List Str) Try.runUnderlying39 Try.sizeOf9 Try.zeroValue9 rfl rfl rfl rfl rfl rfl fun v5 => ?_
  refine SJ.q (YldS.yld (y_assign rfl)) rfl ?_
  refine SJ.nil ?_
  refine PJ.next ?_
  refine WJ.seq ?_
  refine WJ.reg ?_
  refine SJ.buildSlice (R := fRaw2) (os := []) ([] : List (Raw 2)) Try.runUnderlying24 Try.sizeOf36 Try.zeroValue36 rfl rfl rfl rfl rfl rfl fun v6 => ?_
  refine SJ.ins_nil shWriter 49 fTypeFault ?_
  refine SJ.q (YldS.yld (y_assign rfl)) rfl ?_
  refine SJ.nil ?_
  refine PJ.next ?_
  obtain ⟨kj12, hk13, hm⟩ := withK_open hm
  refine WJ.join (X := Int × Int × (List Writer) × (List (Raw 2)) × Value) (fun (x : Int × Int × (List Writer) × (List (Raw 2)) × Value) => kj12 x.1 x.2.1 x.2.2.1 = some r) (fun (x : Int × Int × (List Writer) × (List (Raw 2)) × Value) => [(4, x.2.2.2.2)]) (fun (x : Int × Int × (List Writer) × (List (Raw 2)) × Value) => [box g2 80 [v3, .int .i64 x.1, .int .u64 x.2.1], ins shWriter 49 fTypeFault x.2.2.2.1 x.2.2.1, row x.2.2.2.2 36 fRaw2 x.2.2.2.1]) ?_ ?_
  · clear hk13
    refine WJ.seq ?_
    refine WJ.reg ?_
    refine SJ.q (YldS.yld (y_move rfl)) rfl ?_
    obtain ⟨r14, h15, hm⟩ := bindS hm
    refine SJ.call1 (k := 3) rfl Try.call21 rfl (fun w S hw hA hO => ok_s_l00Src_pick h15 w S _ (hr4.st1 hw hO) hA) rfl ?_
    rintro _ _ ⟨rfl, rfl⟩
    refine SJ.q (YldS.yld (y_assign rfl)) rfl ?_
    refine SJ.nil ?_
    refine PJ.next ?_
    refine WJ.block ?_
    refine WJ.sel (L' := (fun (x : Int × Int × (List Writer) × (List (Raw 2)) × Value × Int) => [box g2 80 [v3, .int .i64 x.1, .int .u64 x.2.1], ins shWriter 49 fTypeFault x.2.2.2.1 x.2.2.1, row x.2.2.2.2.1 36 fRaw2 x.2.2.2.1, row v5 9 fStr ([[97, 100, 108, 101, 114, 45, 55], [105, 100, 101, 97, 108], [109, 105, 103, 110, 111, 110], [111, 108, 121, 109, 112, 105, 97], [114, 111, 121, 97, 108]] : List Str)]) (r14.2.at_, r14.2.seed, ([] : List Writer), ([] : List (Raw 2)), v6, r14.1)) [0, 1, 2, 3] ⟨by decide, rfl⟩ ?_
    refine WJ.sub (m' := (fun (x : Int × Int × (List Writer) × (List (Raw 2)) × Value × Int) => [(0, pt g2 0), (3, v5), (4, x.2.2.2.2.1), (5, .int .i64 x.2.2.2.2.2)]) (r14.2.at_, r14.2.seed, ([] : List Writer), ([] : List (Raw 2)), v6, r14.1)) ⟨rfl, rfl, rfl, rfl, trivial⟩ ?_
    refine WJ.loop (X := Int × Int × (List Writer) × (List (Raw 2)) × Value × Int) (fun N (x : Int × Int × (List Writer) × (List (Raw 2)) × Value × Int) => s_l15Draw_l1 kj12 s1 N x.1 x.2.1 x.2.2.1 x.2.2.2.2.2 = some r) (fun (x : Int × Int × (List Writer) × (List (Raw 2)) × Value × Int) => [(0, pt g2 0), (3, v5), (4, x.2.2.2.2.1), (5, .int .i64 x.2.2.2.2.2)]) (fun (x : Int × Int × (List Writer) × (List (Raw 2)) × Value × Int) => [box g2 80 [v3, .int .i64 x.1, .int .u64 x.2.1], ins shWriter 49 fTypeFault x.2.2.2.1 x.2.2.1, row x.2.2.2.2.1 36 fRaw2 x.2.2.2.1, row v5 9 fStr ([[97, 100, 108, 101, 114, 45, 55], [105, 100, 101, 97, 108], [109, 105, 103, 110, 111, 110], [111, 108, 121, 109, 112, 105, 97], [114, 111, 121, 97, 108]] : List Str)]) ?_ N (r14.2.at_, r14.2.seed, ([] : List Writer), ([] : List (Raw 2)), v6, r14.1) hm
    · rintro N ⟨x16, x17, l18, vs19, v20, k21⟩ hI
      have hm := hI; clear hI
      cases N with
      | zero => cases hm
      | succ N =>
      unfold s_l15Draw_l1 at hm
      refine WJ.seq ?_
      refine WJ.seq ?_
      refine WJ.quiet ?_
      refine QJ.step (YldS.yld (y_move rfl)) rfl ?_
      refine QJ.step (YldS.yld (y_bin rfl rfl rfl)) rfl ?_
      refine QJ.done ?_
      refine PJ.next ?_
      refine WJ.cond (t := decide (k21 > 0)) rfl (fun hb22 => ?_) (fun hb22 => ?_)
      · replace hm := ifT hm hb22
        refine WJ.skip ?_
        refine PJ.next ?_
        refine WJ.seq ?_
        refine WJ.block ?_
        refine WJ.reg ?_
        refine SJ.q (YldS.yld (y_move rfl)) rfl ?_
        refine SJ.q (YldS.yld (y_move rfl)) rfl ?_
        refine SJ.q (YldS.yld (y_move rfl)) rfl ?_
        refine SJ.q (YldS.yld (y_move rfl)) rfl ?_
        refine SJ.q (YldS.yld (y_lenSh (k := 2) (j := 1) rfl rfl Try.runUnderlying24 rfl)) rfl ?_
        obtain ⟨e23, h24, hm⟩ := bindS hm
        refine SJ.q (YldS.yld (y_ixRow (k := 3) (R := fStr) rfl Try.runUnderlying39 Try.sizeOf9 rfl rfl h24)) rfl ?_
        refine SJ.q (YldS.yld (y_loadR (k := 3) (i := (Int.toNat (List.length l18 : Int))) (off := 0) (u := str e23) rfl Try.isAgg9 rfl (idx_get h24) rfl)) rfl ?_
        obtain ⟨r25, h26, hm⟩ := bindS hm
        refine SJ.call1 (k := 0) rfl Try.call37 rfl (fun w S hw hA hO => ok_s_l15New h26 w S _ (hr4.st1 hw hO) hA) rfl ?_
        rintro _ _ ⟨v27, rfl, rfl⟩
        refine SJ.rowCells (k := 1) rfl fun hc28 => ?_
        refine SJ.buildSlice (R := fRaw2) (os := [.tmp 21]) ([mkRaw (n := 2) (shWriter.enc v27 (Writer.mk r25.1.name r25.1.faults)) (shWriter.len _ _) (shWriter.one _ _ hc28.2)] : List (Raw 2)) Try.runUnderlying24 Try.sizeOf36 Try.zeroValue36 rfl rfl rfl rfl rfl rfl fun v29 => ?_
        refine SJ.ins_nil shWriter 49 fTypeFault ?_
        refine SJ.sel (L' := [row v27 49 fTypeFault r25.1.faults, ins shWriter 49 fTypeFault [] ([] : List Writer), row v29 36 fRaw2 ([mkRaw (n := 2) (shWriter.enc v27 (Writer.mk r25.1.name r25.1.faults)) (shWriter.len _ _) (shWriter.one _ _ hc28.2)] : List (Raw 2)), box g2 80 [v3, .int .i64 r25.2.at_, .int .u64 r25.2.seed], ins shWriter 49 fTypeFault vs19 l18, row v20 36 fRaw2 vs19, row v5 9 fStr ([[97, 100, 108, 101, 114, 45, 55], [105, 100, 101, 97, 108], [109, 105, 103, 110, 111, 110], [111, 108, 121, 109, 112, 105, 97], [114, 111, 121, 97, 108]] : List Str)]) [3, 0, 1, 2, 4, 5, 6] ⟨by decide, rfl⟩ ?_
        refine SJ.star ?_
        refine SJ.conv0 (fun w S h => ins_push (H := shWriter) (lx := r25.1.faults) (y := mkRaw (n := 2) (shWriter.enc v27 (Writer.mk r25.1.name r25.1.faults)) (shWriter.len _ _) (shWriter.one _ _ hc28.2)) (x := (Writer.mk r25.1.name r25.1.faults)) rfl rfl h) ?_
        refine SJ.conv0 (B := ins shWriter 49 fTypeFault ([mkRaw (n := 2) (shWriter.enc v27 (Writer.mk r25.1.name r25.1.faults)) (shWriter.len _ _) (shWriter.one _ _ hc28.2)] : List (Raw 2)) ([(Writer.mk r25.1.name r25.1.faults)] : List Writer)) (fun w S h => h) ?_
        refine SJ.ins_len 3 rfl fun hl30 => ?_
        refine SJ.ins_len 0 rfl fun hl31 => ?_
        obtain ⟨l32, h33, hm⟩ := bindS hm
        refine SJ.append (k := 4) (R := fRaw2) (app_raw h33 hl30.1 hl31.1) rfl Try.underlying24 el36 rfl rfl rfl (fun w hw => (hw.row_rd (k := 1) rfl)) rfl fun v34 => ?_
        refine SJ.sel (L' := [ins shWriter 49 fTypeFault vs19 l18, ins shWriter 49 fTypeFault ([mkRaw (n := 2) (shWriter.enc v27 (Writer.mk r25.1.name r25.1.faults)) (shWriter.len _ _) (shWriter.one _ _ hc28.2)] : List (Raw 2)) ([(Writer.mk r25.1.name r25.1.faults)] : List Writer), row v29 36 fRaw2 ([mkRaw (n := 2) (shWriter.enc v27 (Writer.mk r25.1.name r25.1.faults)) (shWriter.len _ _) (shWriter.one _ _ hc28.2)] : List (Raw 2)), box g2 80 [v3, .int .i64 r25.2.at_, .int .u64 r25.2.seed], row v34 36 fRaw2 (vs19 ++ ([mkRaw (n := 2) (shWriter.enc v27 (Writer.mk r25.1.name r25.1.faults)) (shWriter.len _ _) (shWriter.one _ _ hc28.2)] : List (Raw 2))), row v5 9 fStr ([[97, 100, 108, 101, 114, 45, 55], [105, 100, 101, 97, 108], [109, 105, 103, 110, 111, 110], [111, 108, 121, 109, 112, 105, 97], [114, 111, 121, 97, 108]] : List Str)]) [3, 0, 1, 2, 4, 5] ⟨by decide, rfl⟩ ?_
        refine SJ.star ?_
        refine SJ.conv0 (fun w S h => ins_app h33 h) ?_
        refine SJ.q (YldS.yld (y_assign rfl)) rfl ?_
        refine SJ.nil ?_
        refine PJ.block_normal (PJ.next ?_)
        refine WJ.quiet ?_
        refine QJ.step (YldS.yld (y_move rfl)) rfl ?_
        refine QJ.step (YldS.yld (y_bin rfl rfl rfl)) rfl ?_
        refine QJ.step (YldS.yld (y_assign rfl)) rfl ?_
        refine QJ.done ?_
        exact PJ.round (r25.2.at_, r25.2.seed, l32, (vs19 ++ ([mkRaw (n := 2) (shWriter.enc v27 (Writer.mk r25.1.name r25.1.faults)) (shWriter.len _ _) (shWriter.one _ _ hc28.2)] : List (Raw 2))), v34, w64 (k21 - 1)) [2, 0, 3, 4] hm ⟨rfl, rfl, rfl, rfl, trivial⟩ ⟨by decide, rfl⟩
      · replace hm := ifF hm hb22
        refine WJ.exit ?_
        refine PJ.then_exit (PJ.then_exit (PJ.block_exit ?_))
        exact PJ.joined (x16, x17, l18, vs19, v20) [0, 1, 2] hm ⟨rfl, trivial⟩ ⟨by decide, rfl⟩
  · rintro ⟨x7, x8, l9, vs10, v11⟩ hm
    subst hk13
    refine WJ.seq ?_
    refine WJ.quiet ?_
    refine QJ.step (YldS.yld (y_move rfl)) rfl ?_
    refine QJ.step (YldS.yld (y_assign rfl)) rfl ?_
    refine QJ.done ?_
    refine PJ.next ?_
    refine WJ.ret ?_
    obtain rfl := Option.some.inj hm
    refine PJ.sel (L' := [box g2 80 [v3, .int .i64 x7, .int .u64 x8], row v11 36 fRaw2 vs10, ins shWriter 49 fTypeFault vs10 l9]) [0, 2, 1] ⟨by decide, rfl⟩ ?_
    exact PJ.retn (vs := [v11]) Try.results19 ⟨rfl, trivial⟩ ⟨_, _, rfl, rfl⟩

set_option maxRecDepth 100000 in
set_option maxHeartbeats 1000000 in
theorem ok_s_A2Writers {N : Nat} {code1 : List UInt8} {r : (List Writer)} (hm : s_A2Writers N code1 = some r) (w : World) (v2 : Value) (hr3 : RdS w (cx w).Fz v2 fByte.rp code1) :
    Calls Try.prog 6 #[v2] w (RetG (cx w) fun u L => ∃ (u1 : Value) (u2 : List (Raw 2)), (u = u1 ∧ L = [row u1 36 fRaw2 u2, ins shWriter 49 fTypeFault u2 r])) := by
  unfold s_A2Writers at hm
  refine Calls.enter [v2] Try.func6 rfl Try.ntmps6 rfl ?_
  refine WJ.seq ?_
  refine WJ.quiet ?_
  refine QJ.step (YldS.yld (y_assign rfl)) rfl ?_
  refine QJ.done ?_
  refine PJ.next ?_
  refine WJ.seq ?_
  refine WJ.reg ?_
  refine SJ.q (YldS.yld (y_move rfl)) rfl ?_
  obtain ⟨r4, h5, hm⟩ := bindS hm
  refine SJ.call Try.call20 rfl (fun w hw => ok_s_l00From h5 w _ (hr3.st hw)) rfl ?_
  rintro _ _ ⟨g6, rfl, rfl⟩
  obtain ⟨r7, h8, hm⟩ := bindS hm
  refine SJ.call1 (k := 0) rfl Try.call19 rfl (fun w S hw hA hO => ok_s_l15Draw h8 w S _ (hr3.st1 hw hO) hA) rfl ?_
  rintro v9 _ ⟨_, vs10, rfl, rfl⟩
  refine SJ.q (YldS.yld (y_assign rfl)) rfl ?_
  refine SJ.nil ?_
  refine PJ.next ?_
  refine WJ.ret ?_
  obtain rfl := Option.some.inj hm
  refine PJ.sel (L' := [row v9 36 fRaw2 vs10, ins shWriter 49 fTypeFault vs10 r7.1]) [1, 2] ⟨by decide, rfl⟩ ?_
  exact PJ.retn (vs := [v9]) Try.results6 ⟨rfl, trivial⟩ ⟨_, _, rfl, rfl⟩

set_option maxRecDepth 100000 in
set_option maxHeartbeats 1000000 in
theorem ok_s_l00Src_text {s1 : L00Src} {list5 : List Str} {g2 : Nat} {r : Str × L00Src} (hm : s_l00Src_text s1 list5 = some r) (w : World) (S : Nat → Prop) (v3 : Value) (hr4 : RdS w (Cx.Fz ⟨w, S⟩) v3 fByte.rp s1.code) (v6 : Value) (hr7 : RdS w (Cx.Fz ⟨w, S⟩) v6 fStr.rp list5) (hA : (box g2 80 [v3, .int .i64 s1.at_, .int .u64 s1.seed]).holds w S) :
    Calls Try.prog 22 #[pt g2 0, v6] w (RetG ⟨w, S⟩ fun u L => (u = str r.1 ∧ L = [box g2 80 [v3, .int .i64 r.2.at_, .int .u64 r.2.seed]])) := by
  unfold s_l00Src_text at hm
  refine Calls.enter1 hA [pt g2 0, v6] Try.func22 rfl Try.ntmps22 rfl ?_
  refine WJ.seq ?_
  refine WJ.quiet ?_
  refine QJ.step (YldS.yld (y_assign rfl)) rfl ?_
  refine QJ.done ?_
  refine PJ.next ?_
  refine WJ.seq ?_
  refine WJ.reg ?_
  refine SJ.q (YldS.yld (y_move rfl)) rfl ?_
  refine SJ.q (YldS.yld (y_move rfl)) rfl ?_
  refine SJ.q (YldS.yld (y_move rfl)) rfl ?_
  refine SJ.q (YldS.yld (y_lenS Try.runUnderlying39 hr7 rfl)) rfl ?_
  obtain ⟨r8, h9, hm⟩ := bindS hm
  refine SJ.call1 (k := 0) rfl Try.call21 rfl (fun w S hw hA hO => ok_s_l00Src_pick h9 w S _ (hr4.st1 hw hO) hA) rfl ?_
  rintro _ _ ⟨rfl, rfl⟩
  obtain ⟨e10, h11, hm⟩ := bindS hm
  obtain ⟨ad12, _, rfl, ha13, hy14⟩ := hr7.elem h11
  refine SJ.q (YldS.yld (hy14 Try.runUnderlying39 Try.sizeOf9 rfl rfl)) rfl ?_
  refine SJ.q (YldS.yld (y_load1 (v := str e10) Try.isAgg9 ha13 St.frozenC rfl)) rfl ?_
  refine SJ.q (YldS.yld (y_assign rfl)) rfl ?_
  refine SJ.nil ?_
  refine PJ.next ?_
  refine WJ.ret ?_
  obtain rfl := Option.some.inj hm
  refine PJ.sel (L' := [box g2 80 [v3, .int .i64 r8.2.at_, .int .u64 r8.2.seed]]) [0] ⟨by decide, rfl⟩ ?_
  exact PJ.retn (vs := [str e10]) Try.results22 ⟨rfl, trivial⟩ ⟨rfl, rfl⟩

set_option maxRecDepth 100000 in
set_option maxHeartbeats 1000000 in
theorem ok_s_A2Page {N : Nat} {code1 : List UInt8} {r : (List Seen)} (hm : s_A2Page N code1 = some r) (w : World) (v2 : Value) (hr3 : RdS w (cx w).Fz v2 fByte.rp code1) :
    Calls Try.prog 7 #[v2] w (RetG (cx w) fun u L => ∃ (u1 : Value), (u = u1 ∧ L = [row u1 55 fSeen r])) := by
  unfold s_A2Page at hm
  refine Calls.enter [v2] Try.func7 rfl Try.ntmps7 rfl ?_
  refine WJ.seq ?_
  refine WJ.quiet ?_
  refine QJ.step (YldS.yld (y_assign rfl)) rfl ?_
  refine QJ.done ?_
  refine PJ.next ?_
  refine WJ.seq ?_
  refine WJ.reg ?_
  refine SJ.q (YldS.yld (y_move rfl)) rfl ?_
  obtain ⟨r4, h5, hm⟩ := bindS hm
  refine SJ.call Try.call20 rfl (fun w hw => ok_s_l00From h5 w _ (hr3.st hw)) rfl ?_
  rintro _ _ ⟨g6, rfl, rfl⟩
  refine SJ.q (YldS.yld (y_assign rfl)) rfl ?_
  refine SJ.nil ?_
  refine PJ.next ?_
  refine WJ.seq ?_
  refine WJ.reg ?_
  refine SJ.buildSlice (R := fSeen) (os := []) [] Try.runUnderlying26 Try.sizeOf55 Try.zeroValue55 rfl rfl rfl rfl rfl rfl fun v7 => ?_
  refine SJ.q (YldS.yld (y_assign rfl)) rfl ?_
  refine SJ.nil ?_
  refine PJ.next ?_
  obtain ⟨kj10, hk11, hm⟩ := withK_open hm
  refine WJ.join (X := (List Seen) × Value) (fun (x : (List Seen) × Value) => kj10 x.1 = some r) (fun (x : (List Seen) × Value) => [(4, x.2)]) (fun (x : (List Seen) × Value) => [row x.2 55 fSeen x.1]) ?_ ?_
  · clear hk11
    refine WJ.seq ?_
    refine WJ.reg ?_
    refine SJ.q (YldS.yld (y_move rfl)) rfl ?_
    obtain ⟨r12, h13, hm⟩ := bindS hm
    refine SJ.call1 (k := 1) rfl Try.call21 rfl (fun w S hw hA hO => ok_s_l00Src_pick h13 w S _ (hr3.st1 hw hO) hA) rfl ?_
    rintro _ _ ⟨rfl, rfl⟩
    refine SJ.q (YldS.yld (y_assign rfl)) rfl ?_
    refine SJ.nil ?_
    refine PJ.next ?_
    refine WJ.block ?_
    refine WJ.sel (L' := (fun (x : Int × Int × (List Seen) × Value × Int) => [box g6 80 [v2, .int .i64 x.1, .int .u64 x.2.1], row x.2.2.2.1 55 fSeen x.2.2.1]) (r12.2.at_, r12.2.seed, [], v7, r12.1)) [0, 1] ⟨by decide, rfl⟩ ?_
    refine WJ.sub (m' := (fun (x : Int × Int × (List Seen) × Value × Int) => [(3, pt g6 0), (4, x.2.2.2.1), (5, .int .i64 x.2.2.2.2)]) (r12.2.at_, r12.2.seed, [], v7, r12.1)) ⟨rfl, rfl, rfl, trivial⟩ ?_
    refine WJ.loop (X := Int × Int × (List Seen) × Value × Int) (fun N (x : Int × Int × (List Seen) × Value × Int) => s_A2Page_l1 kj10 code1 N x.1 x.2.1 x.2.2.1 x.2.2.2.2 = some r) (fun (x : Int × Int × (List Seen) × Value × Int) => [(3, pt g6 0), (4, x.2.2.2.1), (5, .int .i64 x.2.2.2.2)]) (fun (x : Int × Int × (List Seen) × Value × Int) => [box g6 80 [v2, .int .i64 x.1, .int .u64 x.2.1], row x.2.2.2.1 55 fSeen x.2.2.1]) ?_ N (r12.2.at_, r12.2.seed, [], v7, r12.1) hm
    · rintro N ⟨x14, x15, l16, v17, k18⟩ hI
      have hm := hI; clear hI
      cases N with
      | zero => cases hm
      | succ N =>
      unfold s_A2Page_l1 at hm
      refine WJ.seq ?_
      refine WJ.seq ?_
      refine WJ.quiet ?_
      refine QJ.step (YldS.yld (y_move rfl)) rfl ?_
      refine QJ.step (YldS.yld (y_bin rfl rfl rfl)) rfl ?_
      refine QJ.done ?_
      refine PJ.next ?_
      refine WJ.cond (t := decide (k18 > 0)) rfl (fun hb19 => ?_) (fun hb19 => ?_)
      · replace hm := ifT hm hb19
        refine WJ.skip ?_
        refine PJ.next ?_
        refine WJ.seq ?_
        refine WJ.block ?_
        refine WJ.seq ?_
        refine WJ.reg ?_
        refine SJ.q (YldS.yld (y_move rfl)) rfl ?_
        refine SJ.buildSlice (R := fStr) (os := [.const (str [97]), .const (str [101]), .const (str [110]), .const (str [114]), .const (str [116]), .const (str [120])]) ([[97], [101], [110], [114], [116], [120]] : List Str) Try.runUnderlying39 Try.sizeOf9 Try.zeroValue9 rfl rfl rfl rfl rfl rfl fun v20 => ?_
        obtain ⟨r21, h22, hm⟩ := bindS hm
        refine SJ.call2 (k := 1) rfl Try.call22 rfl (fun w S hw hA hO hB => ok_s_l00Src_text h22 w S _ (hr3.st1 hw hO) _ (hB.row_rd (j := 0) (k := 1) rfl rfl) hA) rfl ?_
        rintro _ _ ⟨rfl, rfl⟩
        refine SJ.q (YldS.yld (y_build (parts := [(0, .tmp 18)]) (places := [(0, 1), (1, 1)]) (r := [str ((Seen.mk r21.1 0).letter), .int .i64 ((Seen.mk r21.1 0).kind)]) pl55 Try.zeroValue55 rfl rfl rfl rfl)) rfl ?_
        refine SJ.alloc (cs := [str [], .int .i64 0]) Try.zeroValue55 rfl rfl fun g23 => ?_
        refine SJ.storeL (k := 0) (off := 0) (us := [str ((Seen.mk r21.1 0).letter), .int .i64 ((Seen.mk r21.1 0).kind)]) rfl rfl rfl rfl Try.sizeOf55 rfl rfl ?_
        refine SJ.nil ?_
        refine PJ.next ?_
        refine WJ.seq ?_
        refine WJ.reg ?_
        refine SJ.q (YldS.yld (y_move rfl)) rfl ?_
        obtain ⟨r24, h25, hm⟩ := bindS hm
        refine SJ.call1 (k := 1) rfl Try.call21 rfl (fun w S hw hA hO => ok_s_l00Src_pick h25 w S _ (hr3.st1 hw hO) hA) rfl ?_
        rintro _ _ ⟨rfl, rfl⟩
        refine SJ.q (YldS.yld (y_fldB (o := 0) fld55_1 rfl)) rfl ?_
        refine SJ.storeL (k := 1) (off := 1) (us := [.int .i64 r24.1]) rfl rfl rfl rfl Try.sizeOf2 rfl rfl ?_
        refine SJ.nil ?_
        refine PJ.next ?_
        refine WJ.reg ?_
        refine SJ.q (YldS.yld (y_move rfl)) rfl ?_
        refine SJ.q (YldS.yld (y_loadBN (k := 1) (off := 0) (us := [str ((Seen.mk r21.1 0).letter), .int .i64 r24.1]) rfl Try.isAgg55 Try.sizeOf55 rfl rfl)) rfl ?_
        refine SJ.buildSlice (R := fSeen) (os := [.tmp 24]) [(Seen.mk ((Seen.mk r21.1 0).letter) r24.1)] Try.runUnderlying26 Try.sizeOf55 Try.zeroValue55 rfl rfl rfl rfl rfl rfl fun v26 => ?_
        obtain ⟨l27, h28, hm⟩ := bindS hm
        refine SJ.append (k := 4) (R := fSeen) h28 rfl Try.underlying26 el55 rfl rfl rfl (fun w hw => (hw.row_rd (k := 0) rfl)) rfl fun v29 => ?_
        refine SJ.q (YldS.yld (y_assign rfl)) rfl ?_
        refine SJ.nil ?_
        refine PJ.block_normal (PJ.next ?_)
        refine WJ.quiet ?_
        refine QJ.step (YldS.yld (y_move rfl)) rfl ?_
        refine QJ.step (YldS.yld (y_bin rfl rfl rfl)) rfl ?_
        refine QJ.step (YldS.yld (y_assign rfl)) rfl ?_
        refine QJ.done ?_
        exact PJ.round (r24.2.at_, r24.2.seed, l27, v29, w64 (k18 - 1)) [1, 4] hm ⟨rfl, rfl, rfl, trivial⟩ ⟨by decide, rfl⟩
      · replace hm := ifF hm hb19
        refine WJ.exit ?_
        refine PJ.then_exit (PJ.then_exit (PJ.block_exit ?_))
        exact PJ.joined (l16, v17) [1] hm ⟨rfl, trivial⟩ ⟨by decide, rfl⟩
  · rintro ⟨l8, v9⟩ hm
    subst hk11
    refine WJ.seq ?_
    refine WJ.quiet ?_
    refine QJ.step (YldS.yld (y_move rfl)) rfl ?_
    refine QJ.step (YldS.yld (y_assign rfl)) rfl ?_
    refine QJ.done ?_
    refine PJ.next ?_
    refine WJ.ret ?_
    obtain rfl := Option.some.inj hm
    refine PJ.sel (L' := [row v9 55 fSeen l8]) [0] ⟨by decide, rfl⟩ ?_
    exact PJ.retn (vs := [v9]) Try.results7 ⟨rfl, trivial⟩ ⟨_, rfl, rfl⟩

set_option maxRecDepth 100000 in
set_option maxHeartbeats 1000000 in
theorem ok_i_isDigit {b1 : UInt8} {r : Bool} (hm : i_isDigit b1 = some r) (w : World)  :
    Calls Try.prog 47 #[.int .u8 (UInt8.toNat b1 : Int)] w (Ret (cx w) (.bool r)) := by
  unfold i_isDigit at hm
  refine Calls.enter [.int .u8 (UInt8.toNat b1 : Int)] Try.func47 rfl Try.ntmps47 rfl ?_
  refine WJ.seq ?_
  refine WJ.quiet ?_
  refine QJ.step (YldS.yld (y_assign rfl)) rfl ?_
  refine QJ.done ?_
  refine PJ.next ?_
  refine WJ.seq ?_
  refine WJ.quiet ?_
  refine QJ.step (YldS.yld (y_move rfl)) rfl ?_
  refine QJ.step (YldS.yld (y_bin8 b1 (48 : UInt8) rfl rfl rfl)) rfl ?_
  refine QJ.step (YldS.yld (y_move rfl)) rfl ?_
  obtain ⟨t2, h3, hm⟩ := bindS hm
  refine QJ.cut 3 [(8, .bool t2)] ?_ ?_
  · rcases Bool.eq_false_or_eq_true (decide (b1 ≥ (48 : UInt8))) with hb4 | hb4
    · replace h3 := andT h3 hb4
      refine QJ.on rfl rfl (cB hb4) (YldS.yld (y_move rfl)) rfl ?_
      refine QJ.on rfl rfl (cB hb4) (YldS.yld (y_bin8 b1 (57 : UInt8) rfl rfl rfl)) rfl ?_
      refine QJ.step (YldS.yld (y_pick_t (cB hb4) rfl)) rfl ?_
      obtain rfl := Option.some.inj h3
      exact QJ.cut_end ⟨rfl, trivial⟩
    · obtain rfl := andF h3 hb4
      refine QJ.off rfl rfl (cB hb4) rfl rfl ?_
      refine QJ.off rfl rfl (cB hb4) rfl rfl ?_
      refine QJ.step (YldS.yld (y_pick_f (cB hb4) rfl)) rfl ?_
      exact QJ.cut_end ⟨rfl, trivial⟩
  refine QJ.step (YldS.yld (y_assign rfl)) rfl ?_
  refine QJ.done ?_
  refine PJ.next ?_
  refine WJ.ret ?_
  obtain rfl := Option.some.inj hm
  refine PJ.sel (L' := []) [] ⟨List.nodup_nil, rfl⟩ ?_
  exact PJ.retn (vs := [.bool t2]) Try.results47 ⟨rfl, trivial⟩ ⟨rfl, rfl⟩

set_option maxRecDepth 100000 in
set_option maxHeartbeats 1000000 in
theorem ok_i_IsName {N : Nat} {s1 : Str} {r : Bool} (hm : i_IsName N s1 = some r) (w : World)  :
    Calls Try.prog 40 #[str s1] w (Ret (cx w) (.bool r)) := by
  unfold i_IsName at hm
  refine Calls.enter [str s1] Try.func40 rfl Try.ntmps40 rfl ?_
  refine WJ.seq ?_
  refine WJ.quiet ?_
  refine QJ.step (YldS.yld (y_assign rfl)) rfl ?_
  refine QJ.done ?_
  refine PJ.next ?_
  refine WJ.seq ?_
  refine WJ.seq ?_
  refine WJ.quiet ?_
  refine QJ.step (YldS.yld (y_move rfl)) rfl ?_
  refine QJ.step (YldS.yld (y_lenStr Try.runUnderlying9 rfl)) rfl ?_
  refine QJ.step (YldS.yld (y_bin rfl rfl rfl)) rfl ?_
  refine QJ.step (YldS.yld (y_move rfl)) rfl ?_
  obtain ⟨t2, h3, hm⟩ := bindS hm
  refine QJ.cut 4 [(0, str s1), (12, .bool t2)] ?_ ?_
  · rcases Bool.eq_false_or_eq_true ((List.length s1 : Int) == 0) with hb4 | hb4
    · obtain rfl := orT h3 hb4
      refine QJ.off rfl rfl (cB hb4) rfl rfl ?_
      refine QJ.off rfl rfl (cB hb4) rfl rfl ?_
      refine QJ.off rfl rfl (cB hb4) rfl rfl ?_
      refine QJ.step (YldS.yld (y_pick_t (cB hb4) rfl)) rfl ?_
      exact QJ.cut_end ⟨rfl, rfl, trivial⟩
    · replace h3 := orF h3 hb4
      refine QJ.on rfl rfl (cB hb4) (YldS.yld (y_move rfl)) rfl ?_
      refine QJ.on rfl rfl (cB hb4) (YldS.yld (y_lenStr Try.runUnderlying9 rfl)) rfl ?_
      refine QJ.on rfl rfl (cB hb4) (YldS.yld (y_bin rfl rfl rfl)) rfl ?_
      refine QJ.step (YldS.yld (y_pick_f (cB hb4) rfl)) rfl ?_
      obtain rfl := Option.some.inj h3
      exact QJ.cut_end ⟨rfl, rfl, trivial⟩
  refine QJ.done ?_
  refine PJ.next ?_
  refine WJ.cond (t := t2) rfl (fun hb5 => ?_) (fun hb5 => ?_)
  · replace hm := ifT hm hb5
    refine WJ.seq ?_
    refine WJ.quiet ?_
    refine QJ.step (YldS.yld (y_assign rfl)) rfl ?_
    refine QJ.done ?_
    refine PJ.next ?_
    refine WJ.ret ?_
    refine PJ.then_ret ?_
    obtain rfl := Option.some.inj hm
    refine PJ.sel (L' := []) [] ⟨List.nodup_nil, rfl⟩ ?_
    exact PJ.retn (vs := [.bool false]) Try.results40 ⟨rfl, trivial⟩ ⟨rfl, rfl⟩
  · replace hm := ifF hm hb5
    refine WJ.skip ?_
    refine PJ.next ?_
    obtain ⟨kj6, hk7, hm⟩ := withK_open hm
    refine WJ.join (X := Unit) (fun (_ : Unit) => kj6  = some r) (fun (_ : Unit) => []) (fun (_ : Unit) => []) ?_ ?_
    · clear hk7
      refine WJ.seq ?_
      refine WJ.quiet ?_
      refine QJ.step (YldS.yld (y_move rfl)) rfl ?_
      refine QJ.step (YldS.yld (y_lenStr Try.runUnderlying9 rfl)) rfl ?_
      refine QJ.step (YldS.yld (y_move rfl)) rfl ?_
      refine QJ.done ?_
      refine PJ.next ?_
      refine WJ.block ?_
      refine WJ.sel (L' := (fun (x : Int) => []) 0) [] ⟨List.nodup_nil, rfl⟩ ?_
      refine WJ.sub (m' := (fun (x : Int) => [(0, str s1), (14, .int .i64 (List.length s1 : Int)), (15, .int .i64 x)]) 0) ⟨rfl, rfl, rfl, trivial⟩ ?_
      refine WJ.loop (X := Int) (fun N (x : Int) => i_IsName_l1 kj6 s1 N x = some r) (fun (x : Int) => [(0, str s1), (14, .int .i64 (List.length s1 : Int)), (15, .int .i64 x)]) (fun (x : Int) => []) ?_ N 0 hm
      · rintro N x8 hI
        have hm := hI; clear hI
        cases N with
        | zero => cases hm
        | succ N =>
        unfold i_IsName_l1 at hm
        refine WJ.seq ?_
        refine WJ.quiet ?_
        refine QJ.step (YldS.yld (y_bin rfl rfl rfl)) rfl ?_
        refine QJ.done ?_
        refine PJ.next ?_
        refine WJ.seq ?_
        refine WJ.cond (t := decide (x8 < (List.length s1 : Int))) rfl (fun hb9 => ?_) (fun hb9 => ?_)
        · replace hm := ifT hm hb9
          refine WJ.skip ?_
          refine PJ.next ?_
          refine WJ.seq ?_
          refine WJ.block ?_
          refine WJ.seq ?_
          refine WJ.quiet ?_
          refine QJ.step (YldS.yld (y_move rfl)) rfl ?_
          refine QJ.step (YldS.yld (y_assign rfl)) rfl ?_
          refine QJ.done ?_
          refine PJ.next ?_
          refine WJ.seq ?_
          refine WJ.quiet ?_
          refine QJ.step (YldS.yld (y_move rfl)) rfl ?_
          refine QJ.step (YldS.yld (y_move rfl)) rfl ?_
          obtain ⟨c10, h11, hm⟩ := bindS hm
          refine QJ.step (YldS.yld (y_idxStr Try.runUnderlying9 rfl rfl h11)) rfl ?_
          refine QJ.step (YldS.yld (y_bin8 c10 (97 : UInt8) rfl rfl rfl)) rfl ?_
          refine QJ.step (YldS.yld (y_move rfl)) rfl ?_
          obtain ⟨t12, h13, hm⟩ := bindS hm
          refine QJ.cut 5 [(0, str s1), (3, .int .i64 x8), (14, .int .i64 (List.length s1 : Int)), (15, .int .i64 x8), (27, .bool t12)] ?_ ?_
          · rcases Bool.eq_false_or_eq_true (decide (c10 ≥ (97 : UInt8))) with hb14 | hb14
            · replace h13 := andT h13 hb14
              refine QJ.on rfl rfl (cB hb14) (YldS.yld (y_move rfl)) rfl ?_
              refine QJ.on rfl rfl (cB hb14) (YldS.yld (y_move rfl)) rfl ?_
              obtain ⟨c15, h16, h13⟩ := bindS h13
              refine QJ.on rfl rfl (cB hb14) (YldS.yld (y_idxStr Try.runUnderlying9 rfl rfl h16)) rfl ?_
              refine QJ.on rfl rfl (cB hb14) (YldS.yld (y_bin8 c15 (122 : UInt8) rfl rfl rfl)) rfl ?_
              refine QJ.step (YldS.yld (y_pick_t (cB hb14) rfl)) rfl ?_
              obtain rfl := Option.some.inj h13
              exact QJ.cut_end ⟨rfl, rfl, rfl, rfl, rfl, trivial⟩
            · obtain rfl := andF h13 hb14
              refine QJ.off rfl rfl (cB hb14) rfl rfl ?_
              refine QJ.off rfl rfl (cB hb14) rfl rfl ?_
              refine QJ.off rfl rfl (cB hb14) rfl rfl ?_
              refine QJ.off rfl rfl (cB hb14) rfl rfl ?_
              refine QJ.step (YldS.yld (y_pick_f (cB hb14) rfl)) rfl ?_
              exact QJ.cut_end ⟨rfl, rfl, rfl, rfl, rfl, trivial⟩
          refine QJ.step (YldS.yld (y_assign rfl)) rfl ?_
          refine QJ.done ?_
          refine PJ.next ?_
          refine WJ.seq ?_
          refine WJ.quiet ?_
          refine QJ.step (YldS.yld (y_move rfl)) rfl ?_
          refine QJ.step (YldS.yld (y_not rfl)) rfl ?_
          refine QJ.step (YldS.yld (y_move rfl)) rfl ?_
          obtain ⟨t17, h18, hm⟩ := bindS hm
          refine QJ.cut 16 [(0, str s1), (14, .int .i64 (List.length s1 : Int)), (15, .int .i64 x8), (46, .bool t17)] ?_ ?_
          · rcases Bool.eq_false_or_eq_true (!t12) with hb19 | hb19
            · replace h18 := andT h18 hb19
              refine QJ.on rfl rfl (cB hb19) (YldS.yld (y_move rfl)) rfl ?_
              refine QJ.on rfl rfl (cB hb19) (YldS.yld (y_bin rfl rfl rfl)) rfl ?_
              refine QJ.on rfl rfl (cB hb19) (YldS.yld (y_move rfl)) rfl ?_
              obtain ⟨t20, h21, h18⟩ := bindS h18
              refine QJ.cut 12 [(0, str s1), (14, .int .i64 (List.length s1 : Int)), (15, .int .i64 x8), (30, .bool (!t12)), (45, .bool t20)] ?_ ?_
              · rcases Bool.eq_false_or_eq_true (x8 == 0) with hb22 | hb22
                · obtain rfl := orT h21 hb22
                  refine QJ.off rfl rfl (cB hb22) rfl rfl ?_
                  refine QJ.off rfl rfl (cB hb22) rfl rfl ?_
                  refine QJ.off rfl rfl (cB hb22) rfl rfl ?_
                  refine QJ.off rfl rfl (cB hb22) rfl rfl ?_
                  refine QJ.off rfl rfl (cB hb22) rfl rfl ?_
                  refine QJ.off_undef rfl rfl rfl rfl ?_
                  refine QJ.off_undef rfl rfl rfl rfl ?_
                  refine QJ.off_undef rfl rfl rfl rfl ?_
                  refine QJ.off_undef rfl rfl rfl rfl ?_
                  refine QJ.off_undef rfl rfl rfl rfl ?_
                  refine QJ.off rfl rfl (cB hb22) rfl rfl ?_
                  refine QJ.on rfl rfl (cB hb19) (YldS.yld (y_pick_t (cB hb22) rfl)) rfl ?_
                  exact QJ.cut_end ⟨rfl, rfl, rfl, rfl, rfl, trivial⟩
                · replace h21 := orF h21 hb22
                  refine QJ.on rfl rfl (cB hb22) (YldS.yld (y_move rfl)) rfl ?_
                  refine QJ.on rfl rfl (cB hb22) (YldS.yld (y_move rfl)) rfl ?_
                  obtain ⟨c23, h24, h21⟩ := bindS h21
                  refine QJ.on rfl rfl (cB hb22) (YldS.yld (y_idxStr Try.runUnderlying9 rfl rfl h24)) rfl ?_
                  refine QJ.on rfl rfl (cB hb22) (YldS.yld (y_bin8 c23 (45 : UInt8) rfl rfl rfl)) rfl ?_
                  refine QJ.on rfl rfl (cB hb22) (YldS.yld (y_move rfl)) rfl ?_
                  obtain ⟨t25, h26, h21⟩ := bindS h21
                  refine QJ.cut 6 [(0, str s1), (14, .int .i64 (List.length s1 : Int)), (15, .int .i64 x8), (30, .bool (!t12)), (33, .bool (x8 == 0)), (44, .bool t25)] ?_ ?_
                  · rcases Bool.eq_false_or_eq_true (c23 != (45 : UInt8)) with hb27 | hb27
                    · replace h26 := andT h26 hb27
                      refine QJ.on rfl rfl (cB hb27) (YldS.yld (y_move rfl)) rfl ?_
                      refine QJ.on rfl rfl (cB hb27) (YldS.yld (y_move rfl)) rfl ?_
                      obtain ⟨c28, h29, h26⟩ := bindS h26
                      refine QJ.on rfl rfl (cB hb27) (YldS.yld (y_idxStr Try.runUnderlying9 rfl rfl h29)) rfl ?_
                      obtain ⟨r30, h31, h26⟩ := bindS h26
                      refine QJ.on rfl rfl (cB hb27) (y_call Try.call47 rfl (RetG.quiet fun w hw => ok_i_isDigit h31 w )) rfl ?_
                      refine QJ.on rfl rfl (cB hb27) (YldS.yld (y_not rfl)) rfl ?_
                      refine QJ.on rfl rfl (cB hb22) (YldS.yld (y_pick_t (cB hb27) rfl)) rfl ?_
                      obtain rfl := Option.some.inj h26
                      exact QJ.cut_end ⟨rfl, rfl, rfl, rfl, rfl, rfl, trivial⟩
                    · obtain rfl := andF h26 hb27
                      refine QJ.off rfl rfl (cB hb27) rfl rfl ?_
                      refine QJ.off rfl rfl (cB hb27) rfl rfl ?_
                      refine QJ.off rfl rfl (cB hb27) rfl rfl ?_
                      refine QJ.off rfl rfl (cB hb27) rfl rfl ?_
                      refine QJ.off rfl rfl (cB hb27) rfl rfl ?_
                      refine QJ.on rfl rfl (cB hb22) (YldS.yld (y_pick_f (cB hb27) rfl)) rfl ?_
                      exact QJ.cut_end ⟨rfl, rfl, rfl, rfl, rfl, rfl, trivial⟩
                  refine QJ.on rfl rfl (cB hb19) (YldS.yld (y_pick_f (cB hb22) rfl)) rfl ?_
                  obtain rfl := Option.some.inj h21
                  exact QJ.cut_end ⟨rfl, rfl, rfl, rfl, rfl, trivial⟩
              refine QJ.step (YldS.yld (y_pick_t (cB hb19) rfl)) rfl ?_
              obtain rfl := Option.some.inj h18
              exact QJ.cut_end ⟨rfl, rfl, rfl, rfl, trivial⟩
            · obtain rfl := andF h18 hb19
              refine QJ.off rfl rfl (cB hb19) rfl rfl ?_
              refine QJ.off rfl rfl (cB hb19) rfl rfl ?_
              refine QJ.off rfl rfl (cB hb19) rfl rfl ?_
              refine QJ.off_undef rfl rfl rfl rfl ?_
              refine QJ.off_undef rfl rfl rfl rfl ?_
              refine QJ.off_undef rfl rfl rfl rfl ?_
              refine QJ.off_undef rfl rfl rfl rfl ?_
              refine QJ.off_undef rfl rfl rfl rfl ?_
              refine QJ.off_undef rfl rfl rfl rfl ?_
              refine QJ.off_undef rfl rfl rfl rfl ?_
              refine QJ.off_undef rfl rfl rfl rfl ?_
              refine QJ.off_undef rfl rfl rfl rfl ?_
              refine QJ.off_undef rfl rfl rfl rfl ?_
              refine QJ.off_undef rfl rfl rfl rfl ?_
              refine QJ.off rfl rfl (cB hb19) rfl rfl ?_
              refine QJ.step (YldS.yld (y_pick_f (cB hb19) rfl)) rfl ?_
              exact QJ.cut_end ⟨rfl, rfl, rfl, rfl, trivial⟩
          refine QJ.done ?_
          refine PJ.next ?_
          refine WJ.cond (t := t17) rfl (fun hb32 => ?_) (fun hb32 => ?_)
          · replace hm := ifT hm hb32
            refine WJ.seq ?_
            refine WJ.quiet ?_
            refine QJ.step (YldS.yld (y_assign rfl)) rfl ?_
            refine QJ.done ?_
            refine PJ.next ?_
            refine WJ.ret ?_
            refine PJ.block_ret (PJ.then_ret (PJ.then_ret (PJ.block_ret (PJ.then_ret ?_))))
            obtain rfl := Option.some.inj hm
            refine PJ.sel (L' := []) [] ⟨List.nodup_nil, rfl⟩ ?_
            exact PJ.retn (vs := [.bool false]) Try.results40 ⟨rfl, trivial⟩ ⟨rfl, rfl⟩
          · replace hm := ifF hm hb32
            refine WJ.skip ?_
            refine PJ.block_normal (PJ.next ?_)
            refine WJ.quiet ?_
            refine QJ.step (YldS.yld (y_bin rfl rfl rfl)) rfl ?_
            refine QJ.step (YldS.yld (y_move rfl)) rfl ?_
            refine QJ.done ?_
            exact PJ.round (w64 (x8 + 1)) [] hm ⟨rfl, rfl, rfl, trivial⟩ ⟨List.nodup_nil, rfl⟩
        · replace hm := ifF hm hb9
          refine WJ.exit ?_
          refine PJ.then_exit (PJ.then_exit (PJ.block_exit ?_))
          exact PJ.joined () [] hm trivial ⟨List.nodup_nil, rfl⟩
    · rintro _ hm
      subst hk7
      refine WJ.seq ?_
      refine WJ.quiet ?_
      refine QJ.step (YldS.yld (y_assign rfl)) rfl ?_
      refine QJ.done ?_
      refine PJ.next ?_
      refine WJ.ret ?_
      obtain rfl := Option.some.inj hm
      refine PJ.sel (L' := []) [] ⟨List.nodup_nil, rfl⟩ ?_
      exact PJ.retn (vs := [.bool true]) Try.results40 ⟨rfl, trivial⟩ ⟨rfl, rfl⟩

set_option maxRecDepth 100000 in
set_option maxHeartbeats 1000000 in
theorem ok_i_isText {N : Nat} {s1 : Str} {low2 : UInt8} {most3 : Int} {r : Bool} (hm : i_isText N s1 low2 most3 = some r) (w : World)  :
    Calls Try.prog 27 #[str s1, .int .u8 (UInt8.toNat low2 : Int), .int .i64 most3] w (Ret (cx w) (.bool r)) := by
  unfold i_isText at hm
  refine Calls.enter [str s1, .int .u8 (UInt8.toNat low2 : Int), .int .i64 most3] Try.func27 rfl Try.ntmps27 rfl ?_
  refine WJ.seq ?_
  refine WJ.quiet ?_
  refine QJ.step (YldS.yld (y_assign rfl)) rfl ?_
  refine QJ.done ?_
  refine PJ.next ?_
  refine WJ.seq ?_
  refine WJ.seq ?_
  refine WJ.quiet ?_
  refine QJ.step (YldS.yld (y_move rfl)) rfl ?_
  refine QJ.step (YldS.yld (y_lenStr Try.runUnderlying9 rfl)) rfl ?_
  refine QJ.step (YldS.yld (y_move rfl)) rfl ?_
  refine QJ.step (YldS.yld (y_bin rfl rfl rfl)) rfl ?_
  refine QJ.done ?_
  refine PJ.next ?_
  refine WJ.cond (t := decide ((List.length s1 : Int) > most3)) rfl (fun hb4 => ?_) (fun hb4 => ?_)
  · replace hm := ifT hm hb4
    refine WJ.seq ?_
    refine WJ.quiet ?_
    refine QJ.step (YldS.yld (y_assign rfl)) rfl ?_
    refine QJ.done ?_
    refine PJ.next ?_
    refine WJ.ret ?_
    refine PJ.then_ret ?_
    obtain rfl := Option.some.inj hm
    refine PJ.sel (L' := []) [] ⟨List.nodup_nil, rfl⟩ ?_
    exact PJ.retn (vs := [.bool false]) Try.results27 ⟨rfl, trivial⟩ ⟨rfl, rfl⟩
  · replace hm := ifF hm hb4
    refine WJ.skip ?_
    refine PJ.next ?_
    obtain ⟨kj5, hk6, hm⟩ := withK_open hm
    refine WJ.join (X := Unit) (fun (_ : Unit) => kj5  = some r) (fun (_ : Unit) => []) (fun (_ : Unit) => []) ?_ ?_
    · clear hk6
      refine WJ.seq ?_
      refine WJ.quiet ?_
      refine QJ.step (YldS.yld (y_move rfl)) rfl ?_
      refine QJ.step (YldS.yld (y_lenStr Try.runUnderlying9 rfl)) rfl ?_
      refine QJ.step (YldS.yld (y_move rfl)) rfl ?_
      refine QJ.done ?_
      refine PJ.next ?_
      refine WJ.block ?_
      refine WJ.sel (L' := (fun (x : Int) => []) 0) [] ⟨List.nodup_nil, rfl⟩ ?_
      refine WJ.sub (m' := (fun (x : Int) => [(0, str s1), (1, .int .u8 (UInt8.toNat low2 : Int)), (13, .int .i64 (List.length s1 : Int)), (14, .int .i64 x)]) 0) ⟨rfl, rfl, rfl, rfl, trivial⟩ ?_
      refine WJ.loop (X := Int) (fun N (x : Int) => i_isText_l1 kj5 s1 low2 N x = some r) (fun (x : Int) => [(0, str s1), (1, .int .u8 (UInt8.toNat low2 : Int)), (13, .int .i64 (List.length s1 : Int)), (14, .int .i64 x)]) (fun (x : Int) => []) ?_ N 0 hm
      · rintro N x7 hI
        have hm := hI; clear hI
        cases N with
        | zero => cases hm
        | succ N =>
        unfold i_isText_l1 at hm
        refine WJ.seq ?_
        refine WJ.quiet ?_
        refine QJ.step (YldS.yld (y_bin rfl rfl rfl)) rfl ?_
        refine QJ.done ?_
        refine PJ.next ?_
        refine WJ.seq ?_
        refine WJ.cond (t := decide (x7 < (List.length s1 : Int))) rfl (fun hb8 => ?_) (fun hb8 => ?_)
        · replace hm := ifT hm hb8
          refine WJ.skip ?_
          refine PJ.next ?_
          refine WJ.seq ?_
          refine WJ.block ?_
          refine WJ.seq ?_
          refine WJ.quiet ?_
          refine QJ.step (YldS.yld (y_move rfl)) rfl ?_
          refine QJ.step (YldS.yld (y_assign rfl)) rfl ?_
          refine QJ.done ?_
          refine PJ.next ?_
          refine WJ.seq ?_
          refine WJ.quiet ?_
          refine QJ.step (YldS.yld (y_move rfl)) rfl ?_
          refine QJ.step (YldS.yld (y_move rfl)) rfl ?_
          obtain ⟨c9, h10, hm⟩ := bindS hm
          refine QJ.step (YldS.yld (y_idxStr Try.runUnderlying9 rfl rfl h10)) rfl ?_
          refine QJ.step (YldS.yld (y_move rfl)) rfl ?_
          refine QJ.step (YldS.yld (y_bin8 c9 low2 rfl rfl rfl)) rfl ?_
          refine QJ.step (YldS.yld (y_move rfl)) rfl ?_
          obtain ⟨t11, h12, hm⟩ := bindS hm
          refine QJ.cut 5 [(0, str s1), (1, .int .u8 (UInt8.toNat low2 : Int)), (13, .int .i64 (List.length s1 : Int)), (14, .int .i64 x7), (27, .bool t11)] ?_ ?_
          · rcases Bool.eq_false_or_eq_true (decide (c9 < low2)) with hb13 | hb13
            · obtain rfl := orT h12 hb13
              refine QJ.off rfl rfl (cB hb13) rfl rfl ?_
              refine QJ.off rfl rfl (cB hb13) rfl rfl ?_
              refine QJ.off rfl rfl (cB hb13) rfl rfl ?_
              refine QJ.off rfl rfl (cB hb13) rfl rfl ?_
              refine QJ.step (YldS.yld (y_pick_t (cB hb13) rfl)) rfl ?_
              exact QJ.cut_end ⟨rfl, rfl, rfl, rfl, rfl, trivial⟩
            · replace h12 := orF h12 hb13
              refine QJ.on rfl rfl (cB hb13) (YldS.yld (y_move rfl)) rfl ?_
              refine QJ.on rfl rfl (cB hb13) (YldS.yld (y_move rfl)) rfl ?_
              obtain ⟨c14, h15, h12⟩ := bindS h12
              refine QJ.on rfl rfl (cB hb13) (YldS.yld (y_idxStr Try.runUnderlying9 rfl rfl h15)) rfl ?_
              refine QJ.on rfl rfl (cB hb13) (YldS.yld (y_bin8 c14 (126 : UInt8) rfl rfl rfl)) rfl ?_
              refine QJ.step (YldS.yld (y_pick_f (cB hb13) rfl)) rfl ?_
              obtain rfl := Option.some.inj h12
              exact QJ.cut_end ⟨rfl, rfl, rfl, rfl, rfl, trivial⟩
          refine QJ.done ?_
          refine PJ.next ?_
          refine WJ.cond (t := t11) rfl (fun hb16 => ?_) (fun hb16 => ?_)
          · replace hm := ifT hm hb16
            refine WJ.seq ?_
            refine WJ.quiet ?_
            refine QJ.step (YldS.yld (y_assign rfl)) rfl ?_
            refine QJ.done ?_
            refine PJ.next ?_
            refine WJ.ret ?_
            refine PJ.block_ret (PJ.then_ret (PJ.then_ret (PJ.block_ret (PJ.then_ret ?_))))
            obtain rfl := Option.some.inj hm
            refine PJ.sel (L' := []) [] ⟨List.nodup_nil, rfl⟩ ?_
            exact PJ.retn (vs := [.bool false]) Try.results27 ⟨rfl, trivial⟩ ⟨rfl, rfl⟩
          · replace hm := ifF hm hb16
            refine WJ.skip ?_
            refine PJ.block_normal (PJ.next ?_)
            refine WJ.quiet ?_
            refine QJ.step (YldS.yld (y_bin rfl rfl rfl)) rfl ?_
            refine QJ.step (YldS.yld (y_move rfl)) rfl ?_
            refine QJ.done ?_
            exact PJ.round (w64 (x7 + 1)) [] hm ⟨rfl, rfl, rfl, rfl, trivial⟩ ⟨List.nodup_nil, rfl⟩
        · replace hm := ifF hm hb8
          refine WJ.exit ?_
          refine PJ.then_exit (PJ.then_exit (PJ.block_exit ?_))
          exact PJ.joined () [] hm trivial ⟨List.nodup_nil, rfl⟩
    · rintro _ hm
      subst hk6
      refine WJ.seq ?_
      refine WJ.quiet ?_
      refine QJ.step (YldS.yld (y_assign rfl)) rfl ?_
      refine QJ.done ?_
      refine PJ.next ?_
      refine WJ.ret ?_
      obtain rfl := Option.some.inj hm
      refine PJ.sel (L' := []) [] ⟨List.nodup_nil, rfl⟩ ?_
      exact PJ.retn (vs := [.bool true]) Try.results27 ⟨rfl, trivial⟩ ⟨rfl, rfl⟩

set_option maxRecDepth 100000 in
set_option maxHeartbeats 1000000 in
theorem ok_i_isLetter {N : Nat} {s1 : Str} {r : Bool} (hm : i_isLetter N s1 = some r) (w : World)  :
    Calls Try.prog 36 #[str s1] w (Ret (cx w) (.bool r)) := by
  unfold i_isLetter at hm
  refine Calls.enter [str s1] Try.func36 rfl Try.ntmps36 rfl ?_
  refine WJ.seq ?_
  refine WJ.quiet ?_
  refine QJ.step (YldS.yld (y_assign rfl)) rfl ?_
  refine QJ.done ?_
  refine PJ.next ?_
  refine WJ.seq ?_
  refine WJ.quiet ?_
  refine QJ.step (YldS.yld (y_move rfl)) rfl ?_
  refine QJ.step (YldS.yld (y_lenStr Try.runUnderlying9 rfl)) rfl ?_
  refine QJ.step (YldS.yld (y_bin rfl rfl rfl)) rfl ?_
  refine QJ.step (YldS.yld (y_move rfl)) rfl ?_
  obtain ⟨t2, h3, hm⟩ := bindS hm
  refine QJ.cut 3 [(9, .bool t2)] ?_ ?_
  · rcases Bool.eq_false_or_eq_true ((List.length s1 : Int) == 1) with hb4 | hb4
    · replace h3 := andT h3 hb4
      refine QJ.on rfl rfl (cB hb4) (YldS.yld (y_move rfl)) rfl ?_
      obtain ⟨r5, h6, h3⟩ := bindS h3
      refine QJ.on rfl rfl (cB hb4) (y_call Try.call27 rfl (RetG.quiet fun w hw => ok_i_isText h6 w )) rfl ?_
      refine QJ.step (YldS.yld (y_pick_t (cB hb4) rfl)) rfl ?_
      obtain rfl := Option.some.inj h3
      exact QJ.cut_end ⟨rfl, trivial⟩
    · obtain rfl := andF h3 hb4
      refine QJ.off rfl rfl (cB hb4) rfl rfl ?_
      refine QJ.off rfl rfl (cB hb4) rfl rfl ?_
      refine QJ.step (YldS.yld (y_pick_f (cB hb4) rfl)) rfl ?_
      exact QJ.cut_end ⟨rfl, trivial⟩
  refine QJ.step (YldS.yld (y_assign rfl)) rfl ?_
  refine QJ.done ?_
  refine PJ.next ?_
  refine WJ.ret ?_
  obtain rfl := Option.some.inj hm
  refine PJ.sel (L' := []) [] ⟨List.nodup_nil, rfl⟩ ?_
  exact PJ.retn (vs := [.bool t2]) Try.results36 ⟨rfl, trivial⟩ ⟨rfl, rfl⟩

set_option maxRecDepth 100000 in
set_option maxHeartbeats 1000000 in
theorem ok_i_between {n1 : Int} {low2 : Int} {high3 : Int} {r : Bool} (hm : i_between n1 low2 high3 = some r) (w : World)  :
    Calls Try.prog 39 #[.int .i64 n1, .int .i64 low2, .int .i64 high3] w (Ret (cx w) (.bool r)) := by
  unfold i_between at hm
  refine Calls.enter [.int .i64 n1, .int .i64 low2, .int .i64 high3] Try.func39 rfl Try.ntmps39 rfl ?_
  refine WJ.seq ?_
  refine WJ.quiet ?_
  refine QJ.step (YldS.yld (y_assign rfl)) rfl ?_
  refine QJ.done ?_
  refine PJ.next ?_
  refine WJ.seq ?_
  refine WJ.quiet ?_
  refine QJ.step (YldS.yld (y_move rfl)) rfl ?_
  refine QJ.step (YldS.yld (y_move rfl)) rfl ?_
  refine QJ.step (YldS.yld (y_bin rfl rfl rfl)) rfl ?_
  refine QJ.step (YldS.yld (y_move rfl)) rfl ?_
  obtain ⟨t4, h5, hm⟩ := bindS hm
  refine QJ.cut 4 [(14, .bool t4)] ?_ ?_
  · rcases Bool.eq_false_or_eq_true (decide (n1 ≥ low2)) with hb6 | hb6
    · replace h5 := andT h5 hb6
      refine QJ.on rfl rfl (cB hb6) (YldS.yld (y_move rfl)) rfl ?_
      refine QJ.on rfl rfl (cB hb6) (YldS.yld (y_move rfl)) rfl ?_
      refine QJ.on rfl rfl (cB hb6) (YldS.yld (y_bin rfl rfl rfl)) rfl ?_
      refine QJ.step (YldS.yld (y_pick_t (cB hb6) rfl)) rfl ?_
      obtain rfl := Option.some.inj h5
      exact QJ.cut_end ⟨rfl, trivial⟩
    · obtain rfl := andF h5 hb6
      refine QJ.off rfl rfl (cB hb6) rfl rfl ?_
      refine QJ.off rfl rfl (cB hb6) rfl rfl ?_
      refine QJ.off rfl rfl (cB hb6) rfl rfl ?_
      refine QJ.step (YldS.yld (y_pick_f (cB hb6) rfl)) rfl ?_
      exact QJ.cut_end ⟨rfl, trivial⟩
  refine QJ.step (YldS.yld (y_assign rfl)) rfl ?_
  refine QJ.done ?_
  refine PJ.next ?_
  refine WJ.ret ?_
  obtain rfl := Option.some.inj hm
  refine PJ.sel (L' := []) [] ⟨List.nodup_nil, rfl⟩ ?_
  exact PJ.retn (vs := [.bool t4]) Try.results39 ⟨rfl, trivial⟩ ⟨rfl, rfl⟩

set_option maxRecDepth 100000 in
set_option maxHeartbeats 1000000 in
theorem ok_i_validWriter {N : Nat} {w1 : Writer} {r : Bool} (hm : i_validWriter N w1 = some r) (w : World) (v2 : Value) (hr3 : RdS w (cx w).Fz v2 fTypeFault.rp w1.faults) :
    Calls Try.prog 26 #[.agg #[str w1.name, v2]] w (Ret (cx w) (.bool r)) := by
  unfold i_validWriter at hm
  refine Calls.enter [.agg #[str w1.name, v2]] Try.func26 rfl Try.ntmps26 rfl ?_
  refine WJ.seq ?_
  refine WJ.reg ?_
  refine SJ.box (cs := [str w1.name, v2]) rfl rfl rfl fun g4 => ?_
  refine SJ.q (YldS.yld (y_assign rfl)) rfl ?_
  refine SJ.nil ?_
  refine PJ.next ?_
  refine WJ.seq ?_
  refine WJ.seq ?_
  refine WJ.quiet ?_
  refine QJ.step (YldS.yld (y_fldB (o := 0) fld36_0 rfl)) rfl ?_
  refine QJ.step (YldS.yld (y_loadB (k := 0) (off := 0) (v := str w1.name) rfl Try.isAgg9 rfl rfl)) rfl ?_
  obtain ⟨r5, h6, hm⟩ := bindS hm
  refine QJ.step (y_call Try.call40 rfl (RetG.quiet fun w hw => ok_i_IsName h6 w )) rfl ?_
  refine QJ.step (YldS.yld (y_not rfl)) rfl ?_
  refine QJ.step (YldS.yld (y_move rfl)) rfl ?_
  obtain ⟨t7, h8, hm⟩ := bindS hm
  refine QJ.cut 5 [(1, pt g4 0), (14, .bool t7)] ?_ ?_
  · rcases Bool.eq_false_or_eq_true (!r5) with hb9 | hb9
    · obtain rfl := orT h8 hb9
      refine QJ.off rfl rfl (cB hb9) rfl rfl ?_
      refine QJ.off rfl rfl (cB hb9) rfl rfl ?_
      refine QJ.off rfl rfl (cB hb9) rfl rfl ?_
      refine QJ.off rfl rfl (cB hb9) rfl rfl ?_
      refine QJ.step (YldS.yld (y_pick_t (cB hb9) rfl)) rfl ?_
      exact QJ.cut_end ⟨rfl, rfl, trivial⟩
    · replace h8 := orF h8 hb9
      refine QJ.on rfl rfl (cB hb9) (YldS.yld (y_fldB (o := 0) fld36_1 rfl)) rfl ?_
      refine QJ.on rfl rfl (cB hb9) (YldS.yld (y_loadB (k := 0) (off := 1) (v := v2) rfl Try.isAgg34 rfl rfl)) rfl ?_
      refine QJ.on rfl rfl (cB hb9) (YldS.yld (y_lenS Try.runUnderlying34 hr3 rfl)) rfl ?_
      refine QJ.on rfl rfl (cB hb9) (YldS.yld (y_bin rfl rfl rfl)) rfl ?_
      refine QJ.step (YldS.yld (y_pick_f (cB hb9) rfl)) rfl ?_
      obtain rfl := Option.some.inj h8
      exact QJ.cut_end ⟨rfl, rfl, trivial⟩
  refine QJ.done ?_
  refine PJ.next ?_
  refine WJ.cond (t := t7) rfl (fun hb10 => ?_) (fun hb10 => ?_)
  · replace hm := ifT hm hb10
    refine WJ.seq ?_
    refine WJ.quiet ?_
    refine QJ.step (YldS.yld (y_assign rfl)) rfl ?_
    refine QJ.done ?_
    refine PJ.next ?_
    refine WJ.ret ?_
    refine PJ.then_ret ?_
    obtain rfl := Option.some.inj hm
    refine PJ.sel (L' := []) [] ⟨List.nodup_nil, rfl⟩ ?_
    exact PJ.retn (vs := [.bool false]) Try.results26 ⟨rfl, trivial⟩ ⟨rfl, rfl⟩
  · replace hm := ifF hm hb10
    refine WJ.skip ?_
    refine PJ.next ?_
    obtain ⟨kj11, hk12, hm⟩ := withK_open hm
    refine WJ.join (X := Unit) (fun (_ : Unit) => kj11  = some r) (fun (_ : Unit) => []) (fun (_ : Unit) => []) ?_ ?_
    · clear hk12
      refine WJ.seq ?_
      refine WJ.quiet ?_
      refine QJ.step (YldS.yld (y_fldB (o := 0) fld36_1 rfl)) rfl ?_
      refine QJ.step (YldS.yld (y_loadB (k := 0) (off := 1) (v := v2) rfl Try.isAgg34 rfl rfl)) rfl ?_
      refine QJ.step (YldS.yld (y_lenS Try.runUnderlying34 hr3 rfl)) rfl ?_
      refine QJ.step (YldS.yld (y_move rfl)) rfl ?_
      refine QJ.done ?_
      refine PJ.next ?_
      refine WJ.block ?_
      refine WJ.sel (L' := (fun (x : Int) => [box g4 36 [str w1.name, v2]]) 0) [0] ⟨by decide, rfl⟩ ?_
      refine WJ.sub (m' := (fun (x : Int) => [(1, pt g4 0), (16, v2), (17, .int .i64 (List.length w1.faults : Int)), (18, .int .i64 x)]) 0) ⟨rfl, rfl, rfl, rfl, trivial⟩ ?_
      refine WJ.loop (X := Int) (fun N (x : Int) => i_validWriter_l1 kj11 w1 N x = some r) (fun (x : Int) => [(1, pt g4 0), (16, v2), (17, .int .i64 (List.length w1.faults : Int)), (18, .int .i64 x)]) (fun (x : Int) => [box g4 36 [str w1.name, v2]]) ?_ N 0 hm
      · rintro N x13 hI
        have hm := hI; clear hI
        cases N with
        | zero => cases hm
        | succ N =>
        unfold i_validWriter_l1 at hm
        refine WJ.seq ?_
        refine WJ.quiet ?_
        refine QJ.step (YldS.yld (y_bin rfl rfl rfl)) rfl ?_
        refine QJ.done ?_
        refine PJ.next ?_
        refine WJ.seq ?_
        refine WJ.cond (t := decide (x13 < (List.length w1.faults : Int))) rfl (fun hb14 => ?_) (fun hb14 => ?_)
        · replace hm := ifT hm hb14
          refine WJ.skip ?_
          refine PJ.next ?_
          refine WJ.seq ?_
          refine WJ.block ?_
          refine WJ.seq ?_
          refine WJ.reg ?_
          refine SJ.q (YldS.yld (y_move rfl)) rfl ?_
          obtain ⟨e15, h16, hm⟩ := bindS hm
          obtain ⟨ad17, _, rfl, ha18, hy19⟩ := hr3.elem h16
          refine SJ.q (YldS.yld (hy19 Try.runUnderlying34 Try.sizeOf49 rfl rfl)) rfl ?_
          refine SJ.q (YldS.yld (y_loadN Try.isAgg49 Try.sizeOf49 rfl ha18 St.frozenC rfl)) rfl ?_
          refine SJ.alloc (cs := [str [], .int .i64 0]) Try.zeroValue49 rfl rfl fun g20 => ?_
          refine SJ.q (YldS.yld (y_assign rfl)) rfl ?_
          refine SJ.storeL (k := 0) (off := 0) (us := [str e15.letter, .int .i64 e15.kind]) rfl rfl rfl rfl Try.sizeOf49 rfl rfl ?_
          refine SJ.nil ?_
          refine PJ.next ?_
          refine WJ.seq ?_
          refine WJ.quiet_draw follows (by kernel_rfl) ?_
          refine QJ.step (YldS.yld (y_fldB (o := 0) fld49_0 rfl)) rfl ?_
          refine QJ.step (YldS.yld (y_loadB (k := 0) (off := 0) (v := str e15.letter) rfl Try.isAgg9 rfl rfl)) rfl ?_
          obtain ⟨r21, h22, hm⟩ := bindS hm
          refine QJ.step (y_call Try.call36 rfl (RetG.quiet fun w hw => ok_i_isLetter h22 w )) rfl ?_
          refine QJ.step (YldS.yld (y_not rfl)) rfl ?_
          refine QJ.step (YldS.yld (y_move rfl)) rfl ?_
          obtain ⟨t23, h24, hm⟩ := bindS hm
          refine QJ.cut 5 [(1, pt g4 0), (3, .int .i64 x13), (4, pt g20 0), (16, v2), (17, .int .i64 (List.length w1.faults : Int)), (18, .int .i64 x13), (32, .bool t23)] ?_ ?_
          · rcases Bool.eq_false_or_eq_true (!r21) with hb25 | hb25
            · obtain rfl := orT h24 hb25
              refine QJ.off rfl rfl (cB hb25) rfl rfl ?_
              refine QJ.off rfl rfl (cB hb25) rfl rfl ?_
              refine QJ.off rfl rfl (cB hb25) rfl rfl ?_
              refine QJ.off rfl rfl (cB hb25) rfl rfl ?_
              refine QJ.step (YldS.yld (y_pick_t (cB hb25) rfl)) rfl ?_
              exact QJ.cut_end ⟨rfl, rfl, rfl, rfl, rfl, rfl, rfl, trivial⟩
            · replace h24 := orF h24 hb25
              refine QJ.on rfl rfl (cB hb25) (YldS.yld (y_fldB (o := 0) fld49_1 rfl)) rfl ?_
              refine QJ.on rfl rfl (cB hb25) (YldS.yld (y_loadB (k := 0) (off := 1) (v := .int .i64 e15.kind) rfl Try.isAgg2 rfl rfl)) rfl ?_
              obtain ⟨r26, h27, h24⟩ := bindS h24
              refine QJ.on rfl rfl (cB hb25) (y_call Try.call39 rfl (RetG.quiet fun w hw => ok_i_between h27 w )) rfl ?_
              refine QJ.on rfl rfl (cB hb25) (YldS.yld (y_not rfl)) rfl ?_
              refine QJ.step (YldS.yld (y_pick_f (cB hb25) rfl)) rfl ?_
              obtain rfl := Option.some.inj h24
              exact QJ.cut_end ⟨rfl, rfl, rfl, rfl, rfl, rfl, rfl, trivial⟩
          refine QJ.step (YldS.yld (y_move rfl)) rfl ?_
          obtain ⟨t28, h29, hm⟩ := bindS hm
          refine QJ.cut 15 [(1, pt g4 0), (16, v2), (17, .int .i64 (List.length w1.faults : Int)), (18, .int .i64 x13), (48, .bool t28)] ?_ ?_
          · rcases Bool.eq_false_or_eq_true t23 with hb30 | hb30
            · obtain rfl := orT h29 hb30
              refine QJ.off rfl rfl (cB hb30) rfl rfl ?_
              refine QJ.off rfl rfl (cB hb30) rfl rfl ?_
              refine QJ.off rfl rfl (cB hb30) rfl rfl ?_
              refine QJ.off_undef rfl rfl rfl rfl ?_
              refine QJ.off_undef rfl rfl rfl rfl ?_
              refine QJ.off_undef rfl rfl rfl rfl ?_
              refine QJ.off_undef rfl rfl rfl rfl ?_
              refine QJ.off_undef rfl rfl rfl rfl ?_
              refine QJ.off_undef rfl rfl rfl rfl ?_
              refine QJ.off_undef rfl rfl rfl rfl ?_
              refine QJ.off_undef rfl rfl rfl rfl ?_
              refine QJ.off_undef rfl rfl rfl rfl ?_
              refine QJ.off_undef rfl rfl rfl rfl ?_
              refine QJ.off rfl rfl (cB hb30) rfl rfl ?_
              refine QJ.step (YldS.yld (y_pick_t (cB hb30) rfl)) rfl ?_
              exact QJ.cut_end ⟨rfl, rfl, rfl, rfl, rfl, trivial⟩
            · replace h29 := orF h29 hb30
              refine QJ.on rfl rfl (cB hb30) (YldS.yld (y_move rfl)) rfl ?_
              refine QJ.on rfl rfl (cB hb30) (YldS.yld (y_bin rfl rfl rfl)) rfl ?_
              refine QJ.on rfl rfl (cB hb30) (YldS.yld (y_move rfl)) rfl ?_
              obtain ⟨t31, h32, h29⟩ := bindS h29
              refine QJ.cut 11 [(1, pt g4 0), (16, v2), (17, .int .i64 (List.length w1.faults : Int)), (18, .int .i64 x13), (33, .bool t23), (47, .bool t31)] ?_ ?_
              · rcases Bool.eq_false_or_eq_true (decide (x13 > 0)) with hb33 | hb33
                · replace h32 := andT h32 hb33
                  refine QJ.on rfl rfl (cB hb33) (YldS.yld (y_fldB (o := 0) fld49_0 rfl)) rfl ?_
                  refine QJ.on rfl rfl (cB hb33) (YldS.yld (y_loadB (k := 0) (off := 0) (v := str e15.letter) rfl Try.isAgg9 rfl rfl)) rfl ?_
                  refine QJ.on rfl rfl (cB hb33) (YldS.yld (y_fldB (o := 0) fld36_1 rfl)) rfl ?_
                  refine QJ.on rfl rfl (cB hb33) (YldS.yld (y_loadB (k := 1) (off := 1) (v := v2) rfl Try.isAgg34 rfl rfl)) rfl ?_
                  refine QJ.on rfl rfl (cB hb33) (YldS.yld (y_move rfl)) rfl ?_
                  refine QJ.on rfl rfl (cB hb33) (YldS.yld (y_bin rfl rfl rfl)) rfl ?_
                  obtain ⟨e34, h35, h32⟩ := bindS h32
                  obtain ⟨ad36, _, rfl, ha37, hy38⟩ := hr3.elem h35
                  refine QJ.on rfl rfl (cB hb33) (YldS.yld (hy38 Try.runUnderlying34 Try.sizeOf49 rfl rfl)) rfl ?_
                  refine QJ.on rfl rfl (cB hb33) (YldS.yld (y_fld (ad := ad36) fld49_0 rfl)) rfl ?_
                  refine QJ.on rfl rfl (cB hb33) (YldS.yld (y_load1 (v := str e34.letter) Try.isAgg9 (ha37.sub 0 1) St.frozenC rfl)) rfl ?_
                  refine QJ.on rfl rfl (cB hb33) (YldS.yld (y_binS rfl rfl rfl)) rfl ?_
                  refine QJ.on rfl rfl (cB hb30) (YldS.yld (y_pick_t (cB hb33) rfl)) rfl ?_
                  obtain rfl := Option.some.inj h32
                  exact QJ.cut_end ⟨rfl, rfl, rfl, rfl, rfl, rfl, trivial⟩
                · obtain rfl := andF h32 hb33
                  refine QJ.off rfl rfl (cB hb33) rfl rfl ?_
                  refine QJ.off rfl rfl (cB hb33) rfl rfl ?_
                  refine QJ.off rfl rfl (cB hb33) rfl rfl ?_
                  refine QJ.off rfl rfl (cB hb33) rfl rfl ?_
                  refine QJ.off rfl rfl (cB hb33) rfl rfl ?_
                  refine QJ.off rfl rfl (cB hb33) rfl rfl ?_
                  refine QJ.off rfl rfl (cB hb33) rfl rfl ?_
                  refine QJ.off rfl rfl (cB hb33) rfl rfl ?_
                  refine QJ.off rfl rfl (cB hb33) rfl rfl ?_
                  refine QJ.off rfl rfl (cB hb33) rfl rfl ?_
                  refine QJ.on rfl rfl (cB hb30) (YldS.yld (y_pick_f (cB hb33) rfl)) rfl ?_
                  exact QJ.cut_end ⟨rfl, rfl, rfl, rfl, rfl, rfl, trivial⟩
              refine QJ.step (YldS.yld (y_pick_f (cB hb30) rfl)) rfl ?_
              obtain rfl := Option.some.inj h29
              exact QJ.cut_end ⟨rfl, rfl, rfl, rfl, rfl, trivial⟩
          refine QJ.done ?_
          refine PJ.next ?_
          refine WJ.cond (t := t28) rfl (fun hb39 => ?_) (fun hb39 => ?_)
          · replace hm := ifT hm hb39
            refine WJ.seq ?_
            refine WJ.quiet ?_
            refine QJ.step (YldS.yld (y_assign rfl)) rfl ?_
            refine QJ.done ?_
            refine PJ.next ?_
            refine WJ.ret ?_
            refine PJ.block_ret (PJ.then_ret (PJ.then_ret (PJ.block_ret (PJ.then_ret ?_))))
            obtain rfl := Option.some.inj hm
            refine PJ.sel (L' := []) [] ⟨List.nodup_nil, rfl⟩ ?_
            exact PJ.retn (vs := [.bool false]) Try.results26 ⟨rfl, trivial⟩ ⟨rfl, rfl⟩
          · replace hm := ifF hm hb39
            refine WJ.skip ?_
            refine PJ.block_normal (PJ.next ?_)
            refine WJ.quiet ?_
            refine QJ.step (YldS.yld (y_bin rfl rfl rfl)) rfl ?_
            refine QJ.step (YldS.yld (y_move rfl)) rfl ?_
            refine QJ.done ?_
            exact PJ.round (w64 (x13 + 1)) [1] hm ⟨rfl, rfl, rfl, rfl, trivial⟩ ⟨by decide, rfl⟩
        · replace hm := ifF hm hb14
          refine WJ.exit ?_
          refine PJ.then_exit (PJ.then_exit (PJ.block_exit ?_))
          exact PJ.joined () [] hm trivial ⟨List.nodup_nil, rfl⟩
    · rintro _ hm
      subst hk12
      refine WJ.seq ?_
      refine WJ.quiet ?_
      refine QJ.step (YldS.yld (y_assign rfl)) rfl ?_
      refine QJ.done ?_
      refine PJ.next ?_
      refine WJ.ret ?_
      obtain rfl := Option.some.inj hm
      refine PJ.sel (L' := []) [] ⟨List.nodup_nil, rfl⟩ ?_
      exact PJ.retn (vs := [.bool true]) Try.results26 ⟨rfl, trivial⟩ ⟨rfl, rfl⟩

set_option maxRecDepth 100000 in
set_option maxHeartbeats 1000000 in
theorem ok_i_ValidWriters {N : Nat} {list1 : List Writer} {r : Bool} (hm : i_ValidWriters N list1 = some r) (w : World) (v2 : Value) (hr3 : RdS w (cx w).Fz v2 (shWriter.rp fTypeFault.rp) list1) :
    Calls Try.prog 23 #[v2] w (Ret (cx w) (.bool r)) := by
  unfold i_ValidWriters at hm
  refine Calls.enter [v2] Try.func23 rfl Try.ntmps23 rfl ?_
  refine WJ.seq ?_
  refine WJ.quiet ?_
  refine QJ.step (YldS.yld (y_assign rfl)) rfl ?_
  refine QJ.done ?_
  refine PJ.next ?_
  refine WJ.seq ?_
  refine WJ.reg ?_
  refine SJ.makeMap rfl fun g4 => ?_
  refine SJ.q (YldS.yld (y_assign rfl)) rfl ?_
  refine SJ.nil ?_
  refine PJ.next ?_
  obtain ⟨kj5, hk6, hm⟩ := withK_open hm
  refine WJ.join (X := Unit) (fun (_ : Unit) => kj5  = some r) (fun (_ : Unit) => [(0, v2)]) (fun (_ : Unit) => []) ?_ ?_
  · clear hk6
    refine WJ.seq ?_
    refine WJ.quiet ?_
    refine QJ.step (YldS.yld (y_move rfl)) rfl ?_
    refine QJ.step (YldS.yld (y_lenS Try.runUnderlying24 hr3 rfl)) rfl ?_
    refine QJ.step (YldS.yld (y_move rfl)) rfl ?_
    refine QJ.done ?_
    refine PJ.next ?_
    refine WJ.block ?_
    refine WJ.sel (L' := (fun (x : (List (Str × Bool)) × Int) => [mp g4 x.1]) ([], 0)) [0] ⟨by decide, rfl⟩ ?_
    refine WJ.sub (m' := (fun (x : (List (Str × Bool)) × Int) => [(0, v2), (3, .map (some g4)), (7, v2), (8, .int .i64 (List.length list1 : Int)), (9, .int .i64 x.2)]) ([], 0)) ⟨rfl, rfl, rfl, rfl, rfl, trivial⟩ ?_
    refine WJ.loop (X := (List (Str × Bool)) × Int) (fun N (x : (List (Str × Bool)) × Int) => i_ValidWriters_l1 kj5 list1 N x.1 x.2 = some r) (fun (x : (List (Str × Bool)) × Int) => [(0, v2), (3, .map (some g4)), (7, v2), (8, .int .i64 (List.length list1 : Int)), (9, .int .i64 x.2)]) (fun (x : (List (Str × Bool)) × Int) => [mp g4 x.1]) ?_ N ([], 0) hm
    · rintro N ⟨mp7, x8⟩ hI
      have hm := hI; clear hI
      cases N with
      | zero => cases hm
      | succ N =>
      unfold i_ValidWriters_l1 at hm
      refine WJ.seq ?_
      refine WJ.quiet ?_
      refine QJ.step (YldS.yld (y_bin rfl rfl rfl)) rfl ?_
      refine QJ.done ?_
      refine PJ.next ?_
      refine WJ.seq ?_
      refine WJ.cond (t := decide (x8 < (List.length list1 : Int))) rfl (fun hb9 => ?_) (fun hb9 => ?_)
      · replace hm := ifT hm hb9
        refine WJ.skip ?_
        refine PJ.next ?_
        refine WJ.seq ?_
        refine WJ.block ?_
        refine WJ.seq ?_
        refine WJ.reg ?_
        obtain ⟨e10, h11, hm⟩ := bindS hm
        obtain ⟨ad12, _, ⟨v15, rfl, hr16⟩, ha13, hy14⟩ := hr3.elem h11
        refine SJ.q (YldS.yld (hy14 Try.runUnderlying24 Try.sizeOf36 rfl rfl)) rfl ?_
        refine SJ.q (YldS.yld (y_loadN Try.isAgg36 Try.sizeOf36 rfl ha13 St.frozenC rfl)) rfl ?_
        refine SJ.alloc (cs := [str [], .slice none 0 0]) Try.zeroValue36 rfl rfl fun g17 => ?_
        refine SJ.nil_row 49 fTypeFault ?_
        have hc18 := And.intro (RdS.cells1 hr16) (RdS.one1 hr16)
        refine SJ.storeL (k := 1) (off := 0) (us := [str e10.name, v15]) rfl rfl rfl rfl Try.sizeOf36 rfl (by simp only [List.all_cons, hc18.2]; rfl) ?_
        refine SJ.nil ?_
        refine PJ.next ?_
        refine WJ.seq ?_
        refine WJ.seq ?_
        refine WJ.quiet ?_
        refine QJ.step (YldS.yld (y_loadBN (k := 1) (off := 0) (us := [str e10.name, v15]) rfl Try.isAgg36 Try.sizeOf36 rfl rfl)) rfl ?_
        obtain ⟨r19, h20, hm⟩ := bindS hm
        refine QJ.step (y_call Try.call26 rfl (RetG.quiet fun w hw => ok_i_validWriter h20 w _ (hr16.st hw))) rfl ?_
        refine QJ.step (YldS.yld (y_not rfl)) rfl ?_
        refine QJ.step (YldS.yld (y_move rfl)) rfl ?_
        obtain ⟨t21, h22, hm⟩ := bindS hm
        refine QJ.cut 5 [(0, v2), (3, .map (some g4)), (5, pt g17 0), (7, v2), (8, .int .i64 (List.length list1 : Int)), (9, .int .i64 x8), (21, .bool t21)] ?_ ?_
        · rcases Bool.eq_false_or_eq_true (!r19) with hb23 | hb23
          · obtain rfl := orT h22 hb23
            refine QJ.off rfl rfl (cB hb23) rfl rfl ?_
            refine QJ.off rfl rfl (cB hb23) rfl rfl ?_
            refine QJ.off rfl rfl (cB hb23) rfl rfl ?_
            refine QJ.off rfl rfl (cB hb23) rfl rfl ?_
            refine QJ.step (YldS.yld (y_pick_t (cB hb23) rfl)) rfl ?_
            exact QJ.cut_end ⟨rfl, rfl, rfl, rfl, rfl, rfl, rfl, trivial⟩
          · replace h22 := orF h22 hb23
            refine QJ.on rfl rfl (cB hb23) (YldS.yld (y_move rfl)) rfl ?_
            refine QJ.on rfl rfl (cB hb23) (YldS.yld (y_fldB (o := 0) fld36_0 rfl)) rfl ?_
            refine QJ.on rfl rfl (cB hb23) (YldS.yld (y_loadB (k := 1) (off := 0) (v := str e10.name) rfl Try.isAgg9 rfl rfl)) rfl ?_
            refine QJ.on rfl rfl (cB hb23) (YldS.yld (y_lookupSB (k := 2) rfl Try.underlying82 Try.underlying9 Try.zeroValue4 rfl rfl)) rfl ?_
            refine QJ.step (YldS.yld (y_pick_f (cB hb23) rfl)) rfl ?_
            obtain rfl := Option.some.inj h22
            exact QJ.cut_end ⟨rfl, rfl, rfl, rfl, rfl, rfl, rfl, trivial⟩
        refine QJ.done ?_
        refine PJ.next ?_
        refine WJ.cond (t := t21) rfl (fun hb24 => ?_) (fun hb24 => ?_)
        · replace hm := ifT hm hb24
          refine WJ.seq ?_
          refine WJ.quiet ?_
          refine QJ.step (YldS.yld (y_assign rfl)) rfl ?_
          refine QJ.done ?_
          refine PJ.next ?_
          refine WJ.ret ?_
          refine PJ.then_ret (PJ.block_ret (PJ.then_ret (PJ.then_ret (PJ.block_ret (PJ.then_ret ?_)))))
          obtain rfl := Option.some.inj hm
          refine PJ.sel (L' := []) [] ⟨List.nodup_nil, rfl⟩ ?_
          exact PJ.retn (vs := [.bool false]) Try.results23 ⟨rfl, trivial⟩ ⟨rfl, rfl⟩
        · replace hm := ifF hm hb24
          refine WJ.skip ?_
          refine PJ.next ?_
          refine WJ.reg ?_
          refine SJ.q (YldS.yld (y_move rfl)) rfl ?_
          refine SJ.q (YldS.yld (y_fldB (o := 0) fld36_0 rfl)) rfl ?_
          refine SJ.q (YldS.yld (y_loadB (k := 1) (off := 0) (v := str e10.name) rfl Try.isAgg9 rfl rfl)) rfl ?_
          refine SJ.mapUpdateSB (k := 2) Try.underlying82 Try.underlying9 rfl rfl rfl rfl ?_
          refine SJ.nil ?_
          refine PJ.block_normal (PJ.next ?_)
          refine WJ.quiet ?_
          refine QJ.step (YldS.yld (y_bin rfl rfl rfl)) rfl ?_
          refine QJ.step (YldS.yld (y_move rfl)) rfl ?_
          refine QJ.done ?_
          exact PJ.round (mset mp7 e10.name true, w64 (x8 + 1)) [2] hm ⟨rfl, rfl, rfl, rfl, rfl, trivial⟩ ⟨by decide, rfl⟩
      · replace hm := ifF hm hb9
        refine WJ.exit ?_
        refine PJ.then_exit (PJ.then_exit (PJ.block_exit ?_))
        exact PJ.joined () [] hm ⟨rfl, trivial⟩ ⟨List.nodup_nil, rfl⟩
  · rintro _ hm
    subst hk6
    refine WJ.seq ?_
    refine WJ.quiet ?_
    refine QJ.step (YldS.yld (y_move rfl)) rfl ?_
    refine QJ.step (YldS.yld (y_lenS Try.runUnderlying24 hr3 rfl)) rfl ?_
    refine QJ.step (YldS.yld (y_bin rfl rfl rfl)) rfl ?_
    refine QJ.step (YldS.yld (y_assign rfl)) rfl ?_
    refine QJ.done ?_
    refine PJ.next ?_
    refine WJ.ret ?_
    obtain rfl := Option.some.inj hm
    refine PJ.sel (L' := []) [] ⟨List.nodup_nil, rfl⟩ ?_
    exact PJ.retn (vs := [.bool (decide ((List.length list1 : Int) ≤ 12))]) Try.results23 ⟨rfl, trivial⟩ ⟨rfl, rfl⟩

set_option maxRecDepth 100000 in
set_option maxHeartbeats 1000000 in
theorem ok_i_ValidSeen {N : Nat} {page1 : List Seen} {r : Bool} (hm : i_ValidSeen N page1 = some r) (w : World) (v2 : Value) (hr3 : RdS w (cx w).Fz v2 fSeen.rp page1) :
    Calls Try.prog 24 #[v2] w (Ret (cx w) (.bool r)) := by
  unfold i_ValidSeen at hm
  refine Calls.enter [v2] Try.func24 rfl Try.ntmps24 rfl ?_
  refine WJ.seq ?_
  refine WJ.quiet ?_
  refine QJ.step (YldS.yld (y_assign rfl)) rfl ?_
  refine QJ.done ?_
  refine PJ.next ?_
  obtain ⟨kj4, hk5, hm⟩ := withK_open hm
  refine WJ.join (X := Unit) (fun (_ : Unit) => kj4  = some r) (fun (_ : Unit) => [(0, v2)]) (fun (_ : Unit) => []) ?_ ?_
  · clear hk5
    refine WJ.seq ?_
    refine WJ.quiet ?_
    refine QJ.step (YldS.yld (y_move rfl)) rfl ?_
    refine QJ.step (YldS.yld (y_lenS Try.runUnderlying26 hr3 rfl)) rfl ?_
    refine QJ.step (YldS.yld (y_move rfl)) rfl ?_
    refine QJ.done ?_
    refine PJ.next ?_
    refine WJ.block ?_
    refine WJ.sel (L' := (fun (x : Int) => []) 0) [] ⟨List.nodup_nil, rfl⟩ ?_
    refine WJ.sub (m' := (fun (x : Int) => [(0, v2), (5, v2), (6, .int .i64 (List.length page1 : Int)), (7, .int .i64 x)]) 0) ⟨rfl, rfl, rfl, rfl, trivial⟩ ?_
    refine WJ.loop (X := Int) (fun N (x : Int) => i_ValidSeen_l1 kj4 page1 N x = some r) (fun (x : Int) => [(0, v2), (5, v2), (6, .int .i64 (List.length page1 : Int)), (7, .int .i64 x)]) (fun (x : Int) => []) ?_ N 0 hm
    · rintro N x6 hI
      have hm := hI; clear hI
      cases N with
      | zero => cases hm
      | succ N =>
      unfold i_ValidSeen_l1 at hm
      refine WJ.seq ?_
      refine WJ.quiet ?_
      refine QJ.step (YldS.yld (y_bin rfl rfl rfl)) rfl ?_
      refine QJ.done ?_
      refine PJ.next ?_
      refine WJ.seq ?_
      refine WJ.cond (t := decide (x6 < (List.length page1 : Int))) rfl (fun hb7 => ?_) (fun hb7 => ?_)
      · replace hm := ifT hm hb7
        refine WJ.skip ?_
        refine PJ.next ?_
        refine WJ.seq ?_
        refine WJ.block ?_
        refine WJ.seq ?_
        refine WJ.reg ?_
        obtain ⟨e8, h9, hm⟩ := bindS hm
        obtain ⟨ad10, _, rfl, ha11, hy12⟩ := hr3.elem h9
        refine SJ.q (YldS.yld (hy12 Try.runUnderlying26 Try.sizeOf55 rfl rfl)) rfl ?_
        refine SJ.q (YldS.yld (y_loadN Try.isAgg55 Try.sizeOf55 rfl ha11 St.frozenC rfl)) rfl ?_
        refine SJ.alloc (cs := [str [], .int .i64 0]) Try.zeroValue55 rfl rfl fun g13 => ?_
        refine SJ.storeL (k := 0) (off := 0) (us := [str e8.letter, .int .i64 e8.kind]) rfl rfl rfl rfl Try.sizeOf55 rfl rfl ?_
        refine SJ.nil ?_
        refine PJ.next ?_
        refine WJ.seq ?_
        refine WJ.quiet ?_
        refine QJ.step (YldS.yld (y_fldB (o := 0) fld55_0 rfl)) rfl ?_
        refine QJ.step (YldS.yld (y_loadB (k := 0) (off := 0) (v := str e8.letter) rfl Try.isAgg9 rfl rfl)) rfl ?_
        obtain ⟨r14, h15, hm⟩ := bindS hm
        refine QJ.step (y_call Try.call36 rfl (RetG.quiet fun w hw => ok_i_isLetter h15 w )) rfl ?_
        refine QJ.step (YldS.yld (y_not rfl)) rfl ?_
        refine QJ.step (YldS.yld (y_move rfl)) rfl ?_
        obtain ⟨t16, h17, hm⟩ := bindS hm
        refine QJ.cut 5 [(0, v2), (5, v2), (6, .int .i64 (List.length page1 : Int)), (7, .int .i64 x6), (20, .bool t16)] ?_ ?_
        · rcases Bool.eq_false_or_eq_true (!r14) with hb18 | hb18
          · obtain rfl := orT h17 hb18
            refine QJ.off rfl rfl (cB hb18) rfl rfl ?_
            refine QJ.off rfl rfl (cB hb18) rfl rfl ?_
            refine QJ.off rfl rfl (cB hb18) rfl rfl ?_
            refine QJ.off rfl rfl (cB hb18) rfl rfl ?_
            refine QJ.step (YldS.yld (y_pick_t (cB hb18) rfl)) rfl ?_
            exact QJ.cut_end ⟨rfl, rfl, rfl, rfl, rfl, trivial⟩
          · replace h17 := orF h17 hb18
            refine QJ.on rfl rfl (cB hb18) (YldS.yld (y_fldB (o := 0) fld55_1 rfl)) rfl ?_
            refine QJ.on rfl rfl (cB hb18) (YldS.yld (y_loadB (k := 0) (off := 1) (v := .int .i64 e8.kind) rfl Try.isAgg2 rfl rfl)) rfl ?_
            obtain ⟨r19, h20, h17⟩ := bindS h17
            refine QJ.on rfl rfl (cB hb18) (y_call Try.call39 rfl (RetG.quiet fun w hw => ok_i_between h20 w )) rfl ?_
            refine QJ.on rfl rfl (cB hb18) (YldS.yld (y_not rfl)) rfl ?_
            refine QJ.step (YldS.yld (y_pick_f (cB hb18) rfl)) rfl ?_
            obtain rfl := Option.some.inj h17
            exact QJ.cut_end ⟨rfl, rfl, rfl, rfl, rfl, trivial⟩
        refine QJ.done ?_
        refine PJ.next ?_
        refine WJ.cond (t := t16) rfl (fun hb21 => ?_) (fun hb21 => ?_)
        · replace hm := ifT hm hb21
          refine WJ.seq ?_
          refine WJ.quiet ?_
          refine QJ.step (YldS.yld (y_assign rfl)) rfl ?_
          refine QJ.done ?_
          refine PJ.next ?_
          refine WJ.ret ?_
          refine PJ.block_ret (PJ.then_ret (PJ.then_ret (PJ.block_ret (PJ.then_ret ?_))))
          obtain rfl := Option.some.inj hm
          refine PJ.sel (L' := []) [] ⟨List.nodup_nil, rfl⟩ ?_
          exact PJ.retn (vs := [.bool false]) Try.results24 ⟨rfl, trivial⟩ ⟨rfl, rfl⟩
        · replace hm := ifF hm hb21
          refine WJ.skip ?_
          refine PJ.block_normal (PJ.next ?_)
          refine WJ.quiet ?_
          refine QJ.step (YldS.yld (y_bin rfl rfl rfl)) rfl ?_
          refine QJ.step (YldS.yld (y_move rfl)) rfl ?_
          refine QJ.done ?_
          exact PJ.round (w64 (x6 + 1)) [] hm ⟨rfl, rfl, rfl, rfl, trivial⟩ ⟨List.nodup_nil, rfl⟩
      · replace hm := ifF hm hb7
        refine WJ.exit ?_
        refine PJ.then_exit (PJ.then_exit (PJ.block_exit ?_))
        exact PJ.joined () [] hm ⟨rfl, trivial⟩ ⟨List.nodup_nil, rfl⟩
  · rintro _ hm
    subst hk5
    refine WJ.seq ?_
    refine WJ.quiet ?_
    refine QJ.step (YldS.yld (y_move rfl)) rfl ?_
    refine QJ.step (YldS.yld (y_lenS Try.runUnderlying26 hr3 rfl)) rfl ?_
    refine QJ.step (YldS.yld (y_bin rfl rfl rfl)) rfl ?_
    refine QJ.step (YldS.yld (y_assign rfl)) rfl ?_
    refine QJ.done ?_
    refine PJ.next ?_
    refine WJ.ret ?_
    obtain rfl := Option.some.inj hm
    refine PJ.sel (L' := []) [] ⟨List.nodup_nil, rfl⟩ ?_
    exact PJ.retn (vs := [.bool (decide ((List.length page1 : Int) ≤ 60))]) Try.results24 ⟨rfl, trivial⟩ ⟨rfl, rfl⟩

set_option maxRecDepth 100000 in
set_option maxHeartbeats 1000000 in
theorem ok_i_Writer_kind {N : Nat} {w1 : Writer} {letter4 : Str} {r : Int} (hm : i_Writer_kind N w1 letter4 = some r) (w : World) (v2 : Value) (hr3 : RdS w (cx w).Fz v2 fTypeFault.rp w1.faults) :
    Calls Try.prog 28 #[.agg #[str w1.name, v2], str letter4] w (Ret (cx w) (.int .i64 r)) := by
  unfold i_Writer_kind at hm
  refine Calls.enter [.agg #[str w1.name, v2], str letter4] Try.func28 rfl Try.ntmps28 rfl ?_
  refine WJ.seq ?_
  refine WJ.reg ?_
  refine SJ.box (cs := [str w1.name, v2]) rfl rfl rfl fun g5 => ?_
  refine SJ.q (YldS.yld (y_assign rfl)) rfl ?_
  refine SJ.nil ?_
  refine PJ.next ?_
  obtain ⟨kj6, hk7, hm⟩ := withK_open hm
  refine WJ.join (X := Unit) (fun (_ : Unit) => kj6  = some r) (fun (_ : Unit) => []) (fun (_ : Unit) => []) ?_ ?_
  · clear hk7
    refine WJ.seq ?_
    refine WJ.quiet ?_
    refine QJ.step (YldS.yld (y_fldB (o := 0) fld36_1 rfl)) rfl ?_
    refine QJ.step (YldS.yld (y_loadB (k := 0) (off := 1) (v := v2) rfl Try.isAgg34 rfl rfl)) rfl ?_
    refine QJ.step (YldS.yld (y_lenS Try.runUnderlying34 hr3 rfl)) rfl ?_
    refine QJ.step (YldS.yld (y_move rfl)) rfl ?_
    refine QJ.done ?_
    refine PJ.next ?_
    refine WJ.block ?_
    refine WJ.sel (L' := (fun (x : Int) => []) 0) [] ⟨List.nodup_nil, rfl⟩ ?_
    refine WJ.sub (m' := (fun (x : Int) => [(1, str letter4), (8, v2), (9, .int .i64 (List.length w1.faults : Int)), (10, .int .i64 x)]) 0) ⟨rfl, rfl, rfl, rfl, trivial⟩ ?_
    refine WJ.loop (X := Int) (fun N (x : Int) => i_Writer_kind_l1 kj6 w1 letter4 N x = some r) (fun (x : Int) => [(1, str letter4), (8, v2), (9, .int .i64 (List.length w1.faults : Int)), (10, .int .i64 x)]) (fun (x : Int) => []) ?_ N 0 hm
    · rintro N x8 hI
      have hm := hI; clear hI
      cases N with
      | zero => cases hm
      | succ N =>
      unfold i_Writer_kind_l1 at hm
      refine WJ.seq ?_
      refine WJ.quiet ?_
      refine QJ.step (YldS.yld (y_bin rfl rfl rfl)) rfl ?_
      refine QJ.done ?_
      refine PJ.next ?_
      refine WJ.seq ?_
      refine WJ.cond (t := decide (x8 < (List.length w1.faults : Int))) rfl (fun hb9 => ?_) (fun hb9 => ?_)
      · replace hm := ifT hm hb9
        refine WJ.skip ?_
        refine PJ.next ?_
        refine WJ.seq ?_
        refine WJ.block ?_
        refine WJ.seq ?_
        refine WJ.reg ?_
        obtain ⟨e10, h11, hm⟩ := bindS hm
        obtain ⟨ad12, _, rfl, ha13, hy14⟩ := hr3.elem h11
        refine SJ.q (YldS.yld (hy14 Try.runUnderlying34 Try.sizeOf49 rfl rfl)) rfl ?_
        refine SJ.q (YldS.yld (y_loadN Try.isAgg49 Try.sizeOf49 rfl ha13 St.frozenC rfl)) rfl ?_
        refine SJ.alloc (cs := [str [], .int .i64 0]) Try.zeroValue49 rfl rfl fun g15 => ?_
        refine SJ.storeL (k := 0) (off := 0) (us := [str e10.letter, .int .i64 e10.kind]) rfl rfl rfl rfl Try.sizeOf49 rfl rfl ?_
        refine SJ.nil ?_
        refine PJ.next ?_
        refine WJ.seq ?_
        refine WJ.quiet ?_
        refine QJ.step (YldS.yld (y_fldB (o := 0) fld49_0 rfl)) rfl ?_
        refine QJ.step (YldS.yld (y_loadB (k := 0) (off := 0) (v := str e10.letter) rfl Try.isAgg9 rfl rfl)) rfl ?_
        refine QJ.step (YldS.yld (y_move rfl)) rfl ?_
        refine QJ.step (YldS.yld (y_binS rfl rfl rfl)) rfl ?_
        refine QJ.done ?_
        refine PJ.next ?_
        refine WJ.cond (t := (e10.letter == letter4)) rfl (fun hb16 => ?_) (fun hb16 => ?_)
        · replace hm := ifT hm hb16
          refine WJ.seq ?_
          refine WJ.quiet ?_
          refine QJ.step (YldS.yld (y_fldB (o := 0) fld49_1 rfl)) rfl ?_
          refine QJ.step (YldS.yld (y_loadB (k := 0) (off := 1) (v := .int .i64 e10.kind) rfl Try.isAgg2 rfl rfl)) rfl ?_
          refine QJ.step (YldS.yld (y_assign rfl)) rfl ?_
          refine QJ.done ?_
          refine PJ.next ?_
          refine WJ.ret ?_
          refine PJ.block_ret (PJ.then_ret (PJ.then_ret (PJ.block_ret (PJ.then_ret ?_))))
          obtain rfl := Option.some.inj hm
          refine PJ.sel (L' := []) [] ⟨List.nodup_nil, rfl⟩ ?_
          exact PJ.retn (vs := [.int .i64 e10.kind]) Try.results28 ⟨rfl, trivial⟩ ⟨rfl, rfl⟩
        · replace hm := ifF hm hb16
          refine WJ.skip ?_
          refine PJ.block_normal (PJ.next ?_)
          refine WJ.quiet ?_
          refine QJ.step (YldS.yld (y_bin rfl rfl rfl)) rfl ?_
          refine QJ.step (YldS.yld (y_move rfl)) rfl ?_
          refine QJ.done ?_
          exact PJ.round (w64 (x8 + 1)) [] hm ⟨rfl, rfl, rfl, rfl, trivial⟩ ⟨List.nodup_nil, rfl⟩
      · replace hm := ifF hm hb9
        refine WJ.exit ?_
        refine PJ.then_exit (PJ.then_exit (PJ.block_exit ?_))
        exact PJ.joined () [] hm trivial ⟨List.nodup_nil, rfl⟩
  · rintro _ hm
    subst hk7
    refine WJ.seq ?_
    refine WJ.quiet ?_
    refine QJ.step (YldS.yld (y_assign rfl)) rfl ?_
    refine QJ.done ?_
    refine PJ.next ?_
    refine WJ.ret ?_
    obtain rfl := Option.some.inj hm
    refine PJ.sel (L' := []) [] ⟨List.nodup_nil, rfl⟩ ?_
    exact PJ.retn (vs := [.int .i64 0]) Try.results28 ⟨rfl, trivial⟩ ⟨rfl, rfl⟩

set_option maxRecDepth 100000 in
set_option maxHeartbeats 1000000 in
theorem ok_i_Writer_contradictions {N : Nat} {w1 : Writer} {page4 : List Seen} {r : Int} (hm : i_Writer_contradictions N w1 page4 = some r) (w : World) (v2 : Value) (hr3 : RdS w (cx w).Fz v2 fTypeFault.rp w1.faults) (v5 : Value) (hr6 : RdS w (cx w).Fz v5 fSeen.rp page4) :
    Calls Try.prog 25 #[.agg #[str w1.name, v2], v5] w (Ret (cx w) (.int .i64 r)) := by
  unfold i_Writer_contradictions at hm
  refine Calls.enter [.agg #[str w1.name, v2], v5] Try.func25 rfl Try.ntmps25 rfl ?_
  refine WJ.seq ?_
  refine WJ.reg ?_
  refine SJ.box (cs := [str w1.name, v2]) rfl rfl rfl fun g7 => ?_
  refine SJ.q (YldS.yld (y_assign rfl)) rfl ?_
  refine SJ.nil ?_
  refine PJ.next ?_
  refine WJ.seq ?_
  refine WJ.quiet ?_
  refine QJ.step (YldS.yld (y_assign rfl)) rfl ?_
  refine QJ.done ?_
  refine PJ.next ?_
  obtain ⟨kj9, hk10, hm⟩ := withK_open hm
  refine WJ.join (X := Int) (fun (x : Int) => kj9 x = some r) (fun (x : Int) => [(5, .int .i64 x)]) (fun (x : Int) => []) ?_ ?_
  · clear hk10
    refine WJ.seq ?_
    refine WJ.quiet ?_
    refine QJ.step (YldS.yld (y_move rfl)) rfl ?_
    refine QJ.step (YldS.yld (y_lenS Try.runUnderlying26 hr6 rfl)) rfl ?_
    refine QJ.step (YldS.yld (y_move rfl)) rfl ?_
    refine QJ.done ?_
    refine PJ.next ?_
    refine WJ.block ?_
    refine WJ.sel (L' := (fun (x : Int × Int) => [box g7 36 [str w1.name, v2]]) (0, 0)) [0] ⟨by decide, rfl⟩ ?_
    refine WJ.sub (m' := (fun (x : Int × Int) => [(2, pt g7 0), (5, .int .i64 x.1), (8, v5), (9, .int .i64 (List.length page4 : Int)), (10, .int .i64 x.2)]) (0, 0)) ⟨rfl, rfl, rfl, rfl, rfl, trivial⟩ ?_
    refine WJ.loop (X := Int × Int) (fun N (x : Int × Int) => i_Writer_contradictions_l1 kj9 w1 page4 N x.1 x.2 = some r) (fun (x : Int × Int) => [(2, pt g7 0), (5, .int .i64 x.1), (8, v5), (9, .int .i64 (List.length page4 : Int)), (10, .int .i64 x.2)]) (fun (x : Int × Int) => [box g7 36 [str w1.name, v2]]) ?_ N (0, 0) hm
    · rintro N ⟨n11, x12⟩ hI
      have hm := hI; clear hI
      cases N with
      | zero => cases hm
      | succ N =>
      unfold i_Writer_contradictions_l1 at hm
      refine WJ.seq ?_
      refine WJ.quiet ?_
      refine QJ.step (YldS.yld (y_bin rfl rfl rfl)) rfl ?_
      refine QJ.done ?_
      refine PJ.next ?_
      refine WJ.seq ?_
      refine WJ.cond (t := decide (x12 < (List.length page4 : Int))) rfl (fun hb13 => ?_) (fun hb13 => ?_)
      · replace hm := ifT hm hb13
        refine WJ.skip ?_
        refine PJ.next ?_
        obtain ⟨kj15, hk16, hm⟩ := withK_open hm
        refine WJ.join (X := Int) (fun (x : Int) => kj15 x = some r) (fun (x : Int) => [(2, pt g7 0), (5, .int .i64 x), (8, v5), (9, .int .i64 (List.length page4 : Int)), (10, .int .i64 x12)]) (fun (x : Int) => [box g7 36 [str w1.name, v2]]) ?_ ?_
        · clear hk16
          refine WJ.block ?_
          refine WJ.seq ?_
          refine WJ.reg ?_
          obtain ⟨e17, h18, hm⟩ := bindS hm
          obtain ⟨ad19, _, rfl, ha20, hy21⟩ := hr6.elem h18
          refine SJ.q (YldS.yld (hy21 Try.runUnderlying26 Try.sizeOf55 rfl rfl)) rfl ?_
          refine SJ.q (YldS.yld (y_loadN Try.isAgg55 Try.sizeOf55 rfl ha20 St.frozenC rfl)) rfl ?_
          refine SJ.alloc (cs := [str [], .int .i64 0]) Try.zeroValue55 rfl rfl fun g22 => ?_
          refine SJ.storeL (k := 0) (off := 0) (us := [str e17.letter, .int .i64 e17.kind]) rfl rfl rfl rfl Try.sizeOf55 rfl rfl ?_
          refine SJ.nil ?_
          refine PJ.next ?_
          refine WJ.seq ?_
          refine WJ.quiet_draw follows (by kernel_rfl) ?_
          refine QJ.step (YldS.yld (y_fldB (o := 0) fld55_1 rfl)) rfl ?_
          refine QJ.step (YldS.yld (y_loadB (k := 0) (off := 1) (v := .int .i64 e17.kind) rfl Try.isAgg2 rfl rfl)) rfl ?_
          refine QJ.step (YldS.yld (y_loadBN (k := 1) (off := 0) (us := [str w1.name, v2]) rfl Try.isAgg36 Try.sizeOf36 rfl rfl)) rfl ?_
          refine QJ.step (YldS.yld (y_fldB (o := 0) fld55_0 rfl)) rfl ?_
          refine QJ.step (YldS.yld (y_loadB (k := 0) (off := 0) (v := str e17.letter) rfl Try.isAgg9 rfl rfl)) rfl ?_
          obtain ⟨r23, h24, hm⟩ := bindS hm
          refine QJ.step (y_call Try.call28 rfl (RetG.quiet fun w hw => ok_i_Writer_kind h24 w _ (hr3.st hw))) rfl ?_
          refine QJ.step (YldS.yld (y_bin rfl rfl rfl)) rfl ?_
          refine QJ.done ?_
          refine PJ.next ?_
          refine WJ.cond (t := (e17.kind != r23)) rfl (fun hb25 => ?_) (fun hb25 => ?_)
          · replace hm := ifT hm hb25
            refine WJ.quiet ?_
            refine QJ.step (YldS.yld (y_move rfl)) rfl ?_
            refine QJ.step (YldS.yld (y_bin rfl rfl rfl)) rfl ?_
            refine QJ.step (YldS.yld (y_assign rfl)) rfl ?_
            refine QJ.done ?_
            refine PJ.block_normal ?_
            exact PJ.joined (w64 (n11 + 1)) [1] hm ⟨rfl, rfl, rfl, rfl, rfl, trivial⟩ ⟨by decide, rfl⟩
          · replace hm := ifF hm hb25
            refine WJ.skip ?_
            refine PJ.block_normal ?_
            exact PJ.joined n11 [1] hm ⟨rfl, rfl, rfl, rfl, rfl, trivial⟩ ⟨by decide, rfl⟩
        · rintro n14 hm
          subst hk16
          refine WJ.quiet ?_
          refine QJ.step (YldS.yld (y_bin rfl rfl rfl)) rfl ?_
          refine QJ.step (YldS.yld (y_move rfl)) rfl ?_
          refine QJ.done ?_
          exact PJ.round (n14, w64 (x12 + 1)) [0] hm ⟨rfl, rfl, rfl, rfl, rfl, trivial⟩ ⟨by decide, rfl⟩
      · replace hm := ifF hm hb13
        refine WJ.exit ?_
        refine PJ.then_exit (PJ.then_exit (PJ.block_exit ?_))
        exact PJ.joined n11 [] hm ⟨rfl, trivial⟩ ⟨List.nodup_nil, rfl⟩
  · rintro n8 hm
    subst hk10
    refine WJ.seq ?_
    refine WJ.quiet ?_
    refine QJ.step (YldS.yld (y_move rfl)) rfl ?_
    refine QJ.step (YldS.yld (y_assign rfl)) rfl ?_
    refine QJ.done ?_
    refine PJ.next ?_
    refine WJ.ret ?_
    obtain rfl := Option.some.inj hm
    refine PJ.sel (L' := []) [] ⟨List.nodup_nil, rfl⟩ ?_
    exact PJ.retn (vs := [.int .i64 n8]) Try.results25 ⟨rfl, trivial⟩ ⟨rfl, rfl⟩

set_option maxRecDepth 100000 in
set_option maxHeartbeats 1000000 in
theorem ok_i_BestWriters {N : Nat} {list1 : List Writer} {page4 : List Seen} {r : (List Int) × Int × Int} (hm : i_BestWriters N list1 page4 = some r) (w : World) (v2 : Value) (hr3 : RdS w (cx w).Fz v2 (shWriter.rp fTypeFault.rp) list1) (v5 : Value) (hr6 : RdS w (cx w).Fz v5 fSeen.rp page4) :
    Calls Try.prog 8 #[v2, v5] w (RetG (cx w) fun u L => ∃ (u1 : Value), (u = tup [u1, .int .i64 r.2.1, .int .i64 r.2.2] ∧ L = [row u1 2 fI64 r.1])) := by
  unfold i_BestWriters at hm
  refine Calls.enter [v2, v5] Try.func8 rfl Try.ntmps8 rfl ?_
  refine WJ.seq ?_
  refine WJ.quiet ?_
  refine QJ.step (YldS.yld (y_assign rfl)) rfl ?_
  refine QJ.step (YldS.yld (y_assign rfl)) rfl ?_
  refine QJ.step (YldS.yld (y_assign rfl)) rfl ?_
  refine QJ.done ?_
  refine PJ.next ?_
  refine WJ.seq ?_
  refine WJ.seq ?_
  refine WJ.quiet ?_
  refine QJ.step (YldS.yld (y_move rfl)) rfl ?_
  obtain ⟨r7, h8, hm⟩ := bindS hm
  refine QJ.step (y_call Try.call23 rfl (RetG.quiet fun w hw => ok_i_ValidWriters h8 w _ (hr3.st hw))) rfl ?_
  refine QJ.step (YldS.yld (y_not rfl)) rfl ?_
  refine QJ.step (YldS.yld (y_move rfl)) rfl ?_
  obtain ⟨t9, h10, hm⟩ := bindS hm
  refine QJ.cut 4 [(0, v2), (1, v5), (19, .bool t9)] ?_ ?_
  · rcases Bool.eq_false_or_eq_true (!r7) with hb11 | hb11
    · obtain rfl := orT h10 hb11
      refine QJ.off rfl rfl (cB hb11) rfl rfl ?_
      refine QJ.off rfl rfl (cB hb11) rfl rfl ?_
      refine QJ.off rfl rfl (cB hb11) rfl rfl ?_
      refine QJ.step (YldS.yld (y_pick_t (cB hb11) rfl)) rfl ?_
      exact QJ.cut_end ⟨rfl, rfl, rfl, trivial⟩
    · replace h10 := orF h10 hb11
      refine QJ.on rfl rfl (cB hb11) (YldS.yld (y_move rfl)) rfl ?_
      obtain ⟨r12, h13, h10⟩ := bindS h10
      refine QJ.on rfl rfl (cB hb11) (y_call Try.call24 rfl (RetG.quiet fun w hw => ok_i_ValidSeen h13 w _ (hr6.st hw))) rfl ?_
      refine QJ.on rfl rfl (cB hb11) (YldS.yld (y_not rfl)) rfl ?_
      refine QJ.step (YldS.yld (y_pick_f (cB hb11) rfl)) rfl ?_
      obtain rfl := Option.some.inj h10
      exact QJ.cut_end ⟨rfl, rfl, rfl, trivial⟩
  refine QJ.done ?_
  refine PJ.next ?_
  refine WJ.cond (t := t9) rfl (fun hb14 => ?_) (fun hb14 => ?_)
  · replace hm := ifT hm hb14
    refine WJ.seq ?_
    refine WJ.quiet ?_
    refine QJ.step (YldS.yld (y_assign rfl)) rfl ?_
    refine QJ.step (YldS.yld (y_assign rfl)) rfl ?_
    refine QJ.step (YldS.yld (y_assign rfl)) rfl ?_
    refine QJ.done ?_
    refine PJ.next ?_
    refine WJ.ret ?_
    refine PJ.then_ret ?_
    refine PJ.nil_row 2 fI64 ?_
    obtain rfl := Option.some.inj hm
    refine PJ.sel (L' := [row (.slice none 0 0) 2 fI64 []]) [0] ⟨by decide, rfl⟩ ?_
    exact PJ.retn (vs := [(.slice none 0 0), .int .i64 0, .int .i64 1]) Try.results8 ⟨rfl, rfl, rfl, trivial⟩ ⟨_, rfl, rfl⟩
  · replace hm := ifF hm hb14
    refine WJ.skip ?_
    refine PJ.next ?_
    refine WJ.seq ?_
    refine WJ.seq ?_
    refine WJ.quiet ?_
    refine QJ.step (YldS.yld (y_move rfl)) rfl ?_
    refine QJ.step (YldS.yld (y_lenS Try.runUnderlying24 hr3 rfl)) rfl ?_
    refine QJ.step (YldS.yld (y_bin rfl rfl rfl)) rfl ?_
    refine QJ.done ?_
    refine PJ.next ?_
    refine WJ.cond (t := ((List.length list1 : Int) == 0)) rfl (fun hb15 => ?_) (fun hb15 => ?_)
    · replace hm := ifT hm hb15
      refine WJ.seq ?_
      refine WJ.quiet ?_
      refine QJ.step (YldS.yld (y_assign rfl)) rfl ?_
      refine QJ.step (YldS.yld (y_assign rfl)) rfl ?_
      refine QJ.step (YldS.yld (y_assign rfl)) rfl ?_
      refine QJ.done ?_
      refine PJ.next ?_
      refine WJ.ret ?_
      refine PJ.then_ret ?_
      refine PJ.nil_row 2 fI64 ?_
      obtain rfl := Option.some.inj hm
      refine PJ.sel (L' := [row (.slice none 0 0) 2 fI64 []]) [0] ⟨by decide, rfl⟩ ?_
      exact PJ.retn (vs := [(.slice none 0 0), .int .i64 0, .int .i64 3]) Try.results8 ⟨rfl, rfl, rfl, trivial⟩ ⟨_, rfl, rfl⟩
    · replace hm := ifF hm hb15
      refine WJ.skip ?_
      refine PJ.next ?_
      refine WJ.seq ?_
      refine WJ.reg ?_
      refine SJ.buildSlice (R := fI64) (os := []) [] Try.runUnderlying28 Try.sizeOf2 Try.zeroValue2 rfl rfl rfl rfl rfl rfl fun v16 => ?_
      refine SJ.q (YldS.yld (y_assign rfl)) rfl ?_
      refine SJ.q (YldS.yld (y_assign rfl)) rfl ?_
      refine SJ.nil ?_
      refine PJ.next ?_
      obtain ⟨kj20, hk21, hm⟩ := withK_open hm
      refine WJ.join (X := (List Int) × Value × Int) (fun (x : (List Int) × Value × Int) => kj20 x.1 x.2.2 = some r) (fun (x : (List Int) × Value × Int) => [(7, x.2.1), (8, .int .i64 x.2.2)]) (fun (x : (List Int) × Value × Int) => [row x.2.1 2 fI64 x.1]) ?_ ?_
      · clear hk21
        refine WJ.seq ?_
        refine WJ.quiet ?_
        refine QJ.step (YldS.yld (y_move rfl)) rfl ?_
        refine QJ.step (YldS.yld (y_lenS Try.runUnderlying24 hr3 rfl)) rfl ?_
        refine QJ.step (YldS.yld (y_move rfl)) rfl ?_
        refine QJ.done ?_
        refine PJ.next ?_
        refine WJ.block ?_
        refine WJ.sel (L' := (fun (x : (List Int) × Value × Int × Int) => [row x.2.1 2 fI64 x.1]) ([], v16, (-1), 0)) [0] ⟨by decide, rfl⟩ ?_
        refine WJ.sub (m' := (fun (x : (List Int) × Value × Int × Int) => [(1, v5), (7, x.2.1), (8, .int .i64 x.2.2.1), (24, v2), (25, .int .i64 (List.length list1 : Int)), (26, .int .i64 x.2.2.2)]) ([], v16, (-1), 0)) ⟨rfl, rfl, rfl, rfl, rfl, rfl, trivial⟩ ?_
        refine WJ.loop (X := (List Int) × Value × Int × Int) (fun N (x : (List Int) × Value × Int × Int) => i_BestWriters_l1 kj20 list1 page4 N x.1 x.2.2.1 x.2.2.2 = some r) (fun (x : (List Int) × Value × Int × Int) => [(1, v5), (7, x.2.1), (8, .int .i64 x.2.2.1), (24, v2), (25, .int .i64 (List.length list1 : Int)), (26, .int .i64 x.2.2.2)]) (fun (x : (List Int) × Value × Int × Int) => [row x.2.1 2 fI64 x.1]) ?_ N ([], v16, (-1), 0) hm
        · rintro N ⟨l22, v23, least24, x25⟩ hI
          have hm := hI; clear hI
          cases N with
          | zero => cases hm
          | succ N =>
          unfold i_BestWriters_l1 at hm
          refine WJ.seq ?_
          refine WJ.quiet ?_
          refine QJ.step (YldS.yld (y_bin rfl rfl rfl)) rfl ?_
          refine QJ.done ?_
          refine PJ.next ?_
          refine WJ.seq ?_
          refine WJ.cond (t := decide (x25 < (List.length list1 : Int))) rfl (fun hb26 => ?_) (fun hb26 => ?_)
          · replace hm := ifT hm hb26
            refine WJ.skip ?_
            refine PJ.next ?_
            obtain ⟨kj30, hk31, hm⟩ := withK_open hm
            refine WJ.join (X := (List Int) × Value × Int) (fun (x : (List Int) × Value × Int) => kj30 x.1 x.2.2 = some r) (fun (x : (List Int) × Value × Int) => [(1, v5), (7, x.2.1), (8, .int .i64 x.2.2), (24, v2), (25, .int .i64 (List.length list1 : Int)), (26, .int .i64 x25)]) (fun (x : (List Int) × Value × Int) => [row x.2.1 2 fI64 x.1]) ?_ ?_
            · clear hk31
              refine WJ.block ?_
              refine WJ.seq ?_
              refine WJ.reg ?_
              refine SJ.q (YldS.yld (y_move rfl)) rfl ?_
              obtain ⟨e32, h33, hm⟩ := bindS hm
              obtain ⟨ad34, _, ⟨v37, rfl, hr38⟩, ha35, hy36⟩ := hr3.elem h33
              refine SJ.q (YldS.yld (hy36 Try.runUnderlying24 Try.sizeOf36 rfl rfl)) rfl ?_
              refine SJ.q (YldS.yld (y_loadN Try.isAgg36 Try.sizeOf36 rfl ha35 St.frozenC rfl)) rfl ?_
              refine SJ.alloc (cs := [str [], .slice none 0 0]) Try.zeroValue36 rfl rfl fun g39 => ?_
              refine SJ.nil_row 49 fTypeFault ?_
              refine SJ.q (YldS.yld (y_assign rfl)) rfl ?_
              have hc40 := And.intro (RdS.cells1 hr38) (RdS.one1 hr38)
              refine SJ.storeL (k := 1) (off := 0) (us := [str e32.name, v37]) rfl rfl rfl rfl Try.sizeOf36 rfl (by simp only [List.all_cons, hc40.2]; rfl) ?_
              refine SJ.nil ?_
              refine PJ.next ?_
              refine WJ.seq ?_
              refine WJ.quiet ?_
              refine QJ.step (YldS.yld (y_loadBN (k := 1) (off := 0) (us := [str e32.name, v37]) rfl Try.isAgg36 Try.sizeOf36 rfl rfl)) rfl ?_
              refine QJ.step (YldS.yld (y_move rfl)) rfl ?_
              obtain ⟨r41, h42, hm⟩ := bindS hm
              refine QJ.step (y_call Try.call25 rfl (RetG.quiet fun w hw => ok_i_Writer_contradictions h42 w _ (hr38.st hw) _ (hr6.st hw))) rfl ?_
              refine QJ.step (YldS.yld (y_assign rfl)) rfl ?_
              refine QJ.done ?_
              refine PJ.next ?_
              obtain ⟨kj46, hk47, hm⟩ := withK_open hm
              refine WJ.join (X := (List Int) × Value × Int) (fun (x : (List Int) × Value × Int) => kj46 x.1 x.2.2 = some r) (fun (x : (List Int) × Value × Int) => [(1, v5), (7, x.2.1), (8, .int .i64 x.2.2), (9, .int .i64 x25), (11, .int .i64 r41), (24, v2), (25, .int .i64 (List.length list1 : Int)), (26, .int .i64 x25)]) (fun (x : (List Int) × Value × Int) => [row x.2.1 2 fI64 x.1]) ?_ ?_
              · clear hk47
                refine WJ.seq ?_
                refine WJ.quiet ?_
                refine QJ.step (YldS.yld (y_move rfl)) rfl ?_
                refine QJ.step (YldS.yld (y_bin rfl rfl rfl)) rfl ?_
                refine QJ.step (YldS.yld (y_move rfl)) rfl ?_
                obtain ⟨t48, h49, hm⟩ := bindS hm
                refine QJ.cut 4 [(1, v5), (7, v23), (8, .int .i64 least24), (9, .int .i64 x25), (11, .int .i64 r41), (24, v2), (25, .int .i64 (List.length list1 : Int)), (26, .int .i64 x25), (40, .bool t48)] ?_ ?_
                · rcases Bool.eq_false_or_eq_true (decide (least24 < 0)) with hb50 | hb50
                  · obtain rfl := orT h49 hb50
                    refine QJ.off rfl rfl (cB hb50) rfl rfl ?_
                    refine QJ.off rfl rfl (cB hb50) rfl rfl ?_
                    refine QJ.off rfl rfl (cB hb50) rfl rfl ?_
                    refine QJ.step (YldS.yld (y_pick_t (cB hb50) rfl)) rfl ?_
                    exact QJ.cut_end ⟨rfl, rfl, rfl, rfl, rfl, rfl, rfl, rfl, rfl, trivial⟩
                  · replace h49 := orF h49 hb50
                    refine QJ.on rfl rfl (cB hb50) (YldS.yld (y_move rfl)) rfl ?_
                    refine QJ.on rfl rfl (cB hb50) (YldS.yld (y_move rfl)) rfl ?_
                    refine QJ.on rfl rfl (cB hb50) (YldS.yld (y_bin rfl rfl rfl)) rfl ?_
                    refine QJ.step (YldS.yld (y_pick_f (cB hb50) rfl)) rfl ?_
                    obtain rfl := Option.some.inj h49
                    exact QJ.cut_end ⟨rfl, rfl, rfl, rfl, rfl, rfl, rfl, rfl, rfl, trivial⟩
                refine QJ.done ?_
                refine PJ.next ?_
                refine WJ.cond (t := t48) rfl (fun hb51 => ?_) (fun hb51 => ?_)
                · replace hm := ifT hm hb51
                  refine WJ.reg ?_
                  refine SJ.buildSlice (R := fI64) (os := []) [] Try.runUnderlying28 Try.sizeOf2 Try.zeroValue2 rfl rfl rfl rfl rfl rfl fun v52 => ?_
                  refine SJ.q (YldS.yld (y_move rfl)) rfl ?_
                  refine SJ.q (YldS.yld (y_assign rfl)) rfl ?_
                  refine SJ.q (YldS.yld (y_assign rfl)) rfl ?_
                  refine SJ.nil ?_
                  exact PJ.joined ([], v52, r41) [0] hm ⟨rfl, rfl, rfl, rfl, rfl, rfl, rfl, rfl, trivial⟩ ⟨by decide, rfl⟩
                · replace hm := ifF hm hb51
                  refine WJ.skip ?_
                  exact PJ.joined (l22, v23, least24) [2] hm ⟨rfl, rfl, rfl, rfl, rfl, rfl, rfl, rfl, trivial⟩ ⟨by decide, rfl⟩
              · rintro ⟨l43, v44, least45⟩ hm
                subst hk47
                refine WJ.seq ?_
                refine WJ.quiet ?_
                refine QJ.step (YldS.yld (y_move rfl)) rfl ?_
                refine QJ.step (YldS.yld (y_move rfl)) rfl ?_
                refine QJ.step (YldS.yld (y_bin rfl rfl rfl)) rfl ?_
                refine QJ.done ?_
                refine PJ.next ?_
                refine WJ.cond (t := (r41 == least45)) rfl (fun hb53 => ?_) (fun hb53 => ?_)
                · replace hm := ifT hm hb53
                  refine WJ.reg ?_
                  refine SJ.q (YldS.yld (y_move rfl)) rfl ?_
                  refine SJ.q (YldS.yld (y_move rfl)) rfl ?_
                  refine SJ.buildSlice (R := fI64) (os := [.tmp 47]) [x25] Try.runUnderlying28 Try.sizeOf2 Try.zeroValue2 rfl rfl rfl rfl rfl rfl fun v54 => ?_
                  obtain ⟨l55, h56, hm⟩ := bindS hm
                  refine SJ.append (k := 1) (R := fI64) h56 rfl Try.underlying28 el2 rfl rfl rfl (fun w hw => (hw.row_rd (k := 0) rfl)) rfl fun v57 => ?_
                  refine SJ.q (YldS.yld (y_assign rfl)) rfl ?_
                  refine SJ.nil ?_
                  refine PJ.block_normal ?_
                  exact PJ.joined (l55, v57, least45) [1] hm ⟨rfl, rfl, rfl, rfl, rfl, rfl, trivial⟩ ⟨by decide, rfl⟩
                · replace hm := ifF hm hb53
                  refine WJ.skip ?_
                  refine PJ.block_normal ?_
                  exact PJ.joined (l43, v44, least45) [0] hm ⟨rfl, rfl, rfl, rfl, rfl, rfl, trivial⟩ ⟨by decide, rfl⟩
            · rintro ⟨l27, v28, least29⟩ hm
              subst hk31
              refine WJ.quiet ?_
              refine QJ.step (YldS.yld (y_bin rfl rfl rfl)) rfl ?_
              refine QJ.step (YldS.yld (y_move rfl)) rfl ?_
              refine QJ.done ?_
              exact PJ.round (l27, v28, least29, w64 (x25 + 1)) [0] hm ⟨rfl, rfl, rfl, rfl, rfl, rfl, trivial⟩ ⟨by decide, rfl⟩
          · replace hm := ifF hm hb26
            refine WJ.exit ?_
            refine PJ.then_exit (PJ.then_exit (PJ.block_exit ?_))
            exact PJ.joined (l22, v23, least24) [0] hm ⟨rfl, rfl, trivial⟩ ⟨by decide, rfl⟩
      · rintro ⟨l17, v18, least19⟩ hm
        subst hk21
        refine WJ.seq ?_
        refine WJ.quiet ?_
        refine QJ.step (YldS.yld (y_move rfl)) rfl ?_
        refine QJ.step (YldS.yld (y_move rfl)) rfl ?_
        refine QJ.step (YldS.yld (y_assign rfl)) rfl ?_
        refine QJ.step (YldS.yld (y_assign rfl)) rfl ?_
        refine QJ.step (YldS.yld (y_assign rfl)) rfl ?_
        refine QJ.done ?_
        refine PJ.next ?_
        refine WJ.ret ?_
        obtain rfl := Option.some.inj hm
        refine PJ.sel (L' := [row v18 2 fI64 l17]) [0] ⟨by decide, rfl⟩ ?_
        exact PJ.retn (vs := [v18, .int .i64 least19, .int .i64 0]) Try.results8 ⟨rfl, rfl, rfl, trivial⟩ ⟨_, rfl, rfl⟩

set_option maxRecDepth 100000 in
set_option maxHeartbeats 1000000 in
theorem ok_w_a2Rises {N : Nat} {list1 : List Int} {n4 : Int} {r : Bool} (hm : w_a2Rises N list1 n4 = some r) (w : World) (v2 : Value) (hr3 : RdS w (cx w).Fz v2 fI64.rp list1) :
    Calls Try.prog 9 #[v2, .int .i64 n4] w (Ret (cx w) (.bool r)) := by
  unfold w_a2Rises at hm
  refine Calls.enter [v2, .int .i64 n4] Try.func9 rfl Try.ntmps9 rfl ?_
  refine WJ.seq ?_
  refine WJ.quiet ?_
  refine QJ.step (YldS.yld (y_assign rfl)) rfl ?_
  refine QJ.done ?_
  refine PJ.next ?_
  obtain ⟨kj5, hk6, hm⟩ := withK_open hm
  refine WJ.join (X := Unit) (fun (_ : Unit) => kj5  = some r) (fun (_ : Unit) => []) (fun (_ : Unit) => []) ?_ ?_
  · clear hk6
    refine WJ.seq ?_
    refine WJ.quiet ?_
    refine QJ.step (YldS.yld (y_assign rfl)) rfl ?_
    refine QJ.done ?_
    refine PJ.next ?_
    refine WJ.block ?_
    refine WJ.sel (L' := (fun (x : Int) => []) 0) [] ⟨List.nodup_nil, rfl⟩ ?_
    refine WJ.sub (m' := (fun (x : Int) => [(0, v2), (1, .int .i64 n4), (5, .int .i64 x)]) 0) ⟨rfl, rfl, rfl, trivial⟩ ?_
    refine WJ.loop (X := Int) (fun N (x : Int) => w_a2Rises_l1 kj5 list1 n4 N x = some r) (fun (x : Int) => [(0, v2), (1, .int .i64 n4), (5, .int .i64 x)]) (fun (x : Int) => []) ?_ N 0 hm
    · rintro N i7 hI
      have hm := hI; clear hI
      cases N with
      | zero => cases hm
      | succ N =>
      unfold w_a2Rises_l1 at hm
      refine WJ.seq ?_
      refine WJ.seq ?_
      refine WJ.quiet ?_
      refine QJ.step (YldS.yld (y_move rfl)) rfl ?_
      refine QJ.step (YldS.yld (y_move rfl)) rfl ?_
      refine QJ.step (YldS.yld (y_lenS Try.runUnderlying28 hr3 rfl)) rfl ?_
      refine QJ.step (YldS.yld (y_bin rfl rfl rfl)) rfl ?_
      refine QJ.done ?_
      refine PJ.next ?_
      refine WJ.cond (t := decide (i7 < (List.length list1 : Int))) rfl (fun hb8 => ?_) (fun hb8 => ?_)
      · replace hm := ifT hm hb8
        refine WJ.skip ?_
        refine PJ.next ?_
        refine WJ.seq ?_
        refine WJ.block ?_
        refine WJ.seq ?_
        refine WJ.quiet_draw follows (by kernel_rfl) ?_
        refine QJ.step (YldS.yld (y_move rfl)) rfl ?_
        refine QJ.step (YldS.yld (y_move rfl)) rfl ?_
        obtain ⟨e9, h10, hm⟩ := bindS hm
        obtain ⟨ad11, _, rfl, ha12, hy13⟩ := hr3.elem h10
        refine QJ.step (YldS.yld (hy13 Try.runUnderlying28 Try.sizeOf2 rfl rfl)) rfl ?_
        refine QJ.step (YldS.yld (y_load1 (v := .int .i64 e9) Try.isAgg2 ha12 St.frozenC rfl)) rfl ?_
        refine QJ.step (YldS.yld (y_bin rfl rfl rfl)) rfl ?_
        refine QJ.step (YldS.yld (y_move rfl)) rfl ?_
        obtain ⟨t14, h15, hm⟩ := bindS hm
        refine QJ.cut 7 [(0, v2), (1, .int .i64 n4), (5, .int .i64 i7), (24, .bool t14)] ?_ ?_
        · rcases Bool.eq_false_or_eq_true (decide (e9 < 0)) with hb16 | hb16
          · obtain rfl := orT h15 hb16
            refine QJ.off rfl rfl (cB hb16) rfl rfl ?_
            refine QJ.off rfl rfl (cB hb16) rfl rfl ?_
            refine QJ.off rfl rfl (cB hb16) rfl rfl ?_
            refine QJ.off rfl rfl (cB hb16) rfl rfl ?_
            refine QJ.off rfl rfl (cB hb16) rfl rfl ?_
            refine QJ.off rfl rfl (cB hb16) rfl rfl ?_
            refine QJ.step (YldS.yld (y_pick_t (cB hb16) rfl)) rfl ?_
            exact QJ.cut_end ⟨rfl, rfl, rfl, rfl, trivial⟩
          · replace h15 := orF h15 hb16
            refine QJ.on rfl rfl (cB hb16) (YldS.yld (y_move rfl)) rfl ?_
            refine QJ.on rfl rfl (cB hb16) (YldS.yld (y_move rfl)) rfl ?_
            obtain ⟨e17, h18, h15⟩ := bindS h15
            obtain ⟨ad19, _, rfl, ha20, hy21⟩ := hr3.elem h18
            refine QJ.on rfl rfl (cB hb16) (YldS.yld (hy21 Try.runUnderlying28 Try.sizeOf2 rfl rfl)) rfl ?_
            refine QJ.on rfl rfl (cB hb16) (YldS.yld (y_load1 (v := .int .i64 e17) Try.isAgg2 ha20 St.frozenC rfl)) rfl ?_
            refine QJ.on rfl rfl (cB hb16) (YldS.yld (y_move rfl)) rfl ?_
            refine QJ.on rfl rfl (cB hb16) (YldS.yld (y_bin rfl rfl rfl)) rfl ?_
            refine QJ.step (YldS.yld (y_pick_f (cB hb16) rfl)) rfl ?_
            obtain rfl := Option.some.inj h15
            exact QJ.cut_end ⟨rfl, rfl, rfl, rfl, trivial⟩
        refine QJ.step (YldS.yld (y_move rfl)) rfl ?_
        obtain ⟨t22, h23, hm⟩ := bindS hm
        refine QJ.cut 15 [(0, v2), (1, .int .i64 n4), (5, .int .i64 i7), (40, .bool t22)] ?_ ?_
        · rcases Bool.eq_false_or_eq_true t14 with hb24 | hb24
          · obtain rfl := orT h23 hb24
            refine QJ.off rfl rfl (cB hb24) rfl rfl ?_
            refine QJ.off rfl rfl (cB hb24) rfl rfl ?_
            refine QJ.off rfl rfl (cB hb24) rfl rfl ?_
            refine QJ.off_undef rfl rfl rfl rfl ?_
            refine QJ.off_undef rfl rfl rfl rfl ?_
            refine QJ.off_undef rfl rfl rfl rfl ?_
            refine QJ.off_undef rfl rfl rfl rfl ?_
            refine QJ.off_undef rfl rfl rfl rfl ?_
            refine QJ.off_undef rfl rfl rfl rfl ?_
            refine QJ.off_undef rfl rfl rfl rfl ?_
            refine QJ.off_undef rfl rfl rfl rfl ?_
            refine QJ.off_undef rfl rfl rfl rfl ?_
            refine QJ.off_undef rfl rfl rfl rfl ?_
            refine QJ.off rfl rfl (cB hb24) rfl rfl ?_
            refine QJ.step (YldS.yld (y_pick_t (cB hb24) rfl)) rfl ?_
            exact QJ.cut_end ⟨rfl, rfl, rfl, rfl, trivial⟩
          · replace h23 := orF h23 hb24
            refine QJ.on rfl rfl (cB hb24) (YldS.yld (y_move rfl)) rfl ?_
            refine QJ.on rfl rfl (cB hb24) (YldS.yld (y_bin rfl rfl rfl)) rfl ?_
            refine QJ.on rfl rfl (cB hb24) (YldS.yld (y_move rfl)) rfl ?_
            obtain ⟨t25, h26, h23⟩ := bindS h23
            refine QJ.cut 11 [(0, v2), (1, .int .i64 n4), (5, .int .i64 i7), (25, .bool t14), (39, .bool t25)] ?_ ?_
            · rcases Bool.eq_false_or_eq_true (decide (i7 > 0)) with hb27 | hb27
              · replace h26 := andT h26 hb27
                refine QJ.on rfl rfl (cB hb27) (YldS.yld (y_move rfl)) rfl ?_
                refine QJ.on rfl rfl (cB hb27) (YldS.yld (y_move rfl)) rfl ?_
                refine QJ.on rfl rfl (cB hb27) (YldS.yld (y_bin rfl rfl rfl)) rfl ?_
                obtain ⟨e28, h29, h26⟩ := bindS h26
                obtain ⟨ad30, _, rfl, ha31, hy32⟩ := hr3.elem h29
                refine QJ.on rfl rfl (cB hb27) (YldS.yld (hy32 Try.runUnderlying28 Try.sizeOf2 rfl rfl)) rfl ?_
                refine QJ.on rfl rfl (cB hb27) (YldS.yld (y_load1 (v := .int .i64 e28) Try.isAgg2 ha31 St.frozenC rfl)) rfl ?_
                refine QJ.on rfl rfl (cB hb27) (YldS.yld (y_move rfl)) rfl ?_
                refine QJ.on rfl rfl (cB hb27) (YldS.yld (y_move rfl)) rfl ?_
                obtain ⟨e33, h34, h26⟩ := bindS h26
                obtain ⟨ad35, _, rfl, ha36, hy37⟩ := hr3.elem h34
                refine QJ.on rfl rfl (cB hb27) (YldS.yld (hy37 Try.runUnderlying28 Try.sizeOf2 rfl rfl)) rfl ?_
                refine QJ.on rfl rfl (cB hb27) (YldS.yld (y_load1 (v := .int .i64 e33) Try.isAgg2 ha36 St.frozenC rfl)) rfl ?_
                refine QJ.on rfl rfl (cB hb27) (YldS.yld (y_bin rfl rfl rfl)) rfl ?_
                refine QJ.on rfl rfl (cB hb24) (YldS.yld (y_pick_t (cB hb27) rfl)) rfl ?_
                obtain rfl := Option.some.inj h26
                exact QJ.cut_end ⟨rfl, rfl, rfl, rfl, rfl, trivial⟩
              · obtain rfl := andF h26 hb27
                refine QJ.off rfl rfl (cB hb27) rfl rfl ?_
                refine QJ.off rfl rfl (cB hb27) rfl rfl ?_
                refine QJ.off rfl rfl (cB hb27) rfl rfl ?_
                refine QJ.off rfl rfl (cB hb27) rfl rfl ?_
                refine QJ.off rfl rfl (cB hb27) rfl rfl ?_
                refine QJ.off rfl rfl (cB hb27) rfl rfl ?_
                refine QJ.off rfl rfl (cB hb27) rfl rfl ?_
                refine QJ.off rfl rfl (cB hb27) rfl rfl ?_
                refine QJ.off rfl rfl (cB hb27) rfl rfl ?_
                refine QJ.off rfl rfl (cB hb27) rfl rfl ?_
                refine QJ.on rfl rfl (cB hb24) (YldS.yld (y_pick_f (cB hb27) rfl)) rfl ?_
                exact QJ.cut_end ⟨rfl, rfl, rfl, rfl, rfl, trivial⟩
            refine QJ.step (YldS.yld (y_pick_f (cB hb24) rfl)) rfl ?_
            obtain rfl := Option.some.inj h23
            exact QJ.cut_end ⟨rfl, rfl, rfl, rfl, trivial⟩
        refine QJ.done ?_
        refine PJ.next ?_
        refine WJ.cond (t := t22) rfl (fun hb38 => ?_) (fun hb38 => ?_)
        · replace hm := ifT hm hb38
          refine WJ.seq ?_
          refine WJ.quiet ?_
          refine QJ.step (YldS.yld (y_assign rfl)) rfl ?_
          refine QJ.done ?_
          refine PJ.next ?_
          refine WJ.ret ?_
          refine PJ.block_ret (PJ.then_ret (PJ.then_ret (PJ.block_ret (PJ.then_ret ?_))))
          obtain rfl := Option.some.inj hm
          refine PJ.sel (L' := []) [] ⟨List.nodup_nil, rfl⟩ ?_
          exact PJ.retn (vs := [.bool false]) Try.results9 ⟨rfl, trivial⟩ ⟨rfl, rfl⟩
        · replace hm := ifF hm hb38
          refine WJ.skip ?_
          refine PJ.block_normal (PJ.next ?_)
          refine WJ.quiet ?_
          refine QJ.step (YldS.yld (y_move rfl)) rfl ?_
          refine QJ.step (YldS.yld (y_bin rfl rfl rfl)) rfl ?_
          refine QJ.step (YldS.yld (y_assign rfl)) rfl ?_
          refine QJ.done ?_
          exact PJ.round (w64 (i7 + 1)) [] hm ⟨rfl, rfl, rfl, trivial⟩ ⟨List.nodup_nil, rfl⟩
      · replace hm := ifF hm hb8
        refine WJ.exit ?_
        refine PJ.then_exit (PJ.then_exit (PJ.block_exit ?_))
        exact PJ.joined () [] hm trivial ⟨List.nodup_nil, rfl⟩
  · rintro _ hm
    subst hk6
    refine WJ.seq ?_
    refine WJ.quiet ?_
    refine QJ.step (YldS.yld (y_assign rfl)) rfl ?_
    refine QJ.done ?_
    refine PJ.next ?_
    refine WJ.ret ?_
    obtain rfl := Option.some.inj hm
    refine PJ.sel (L' := []) [] ⟨List.nodup_nil, rfl⟩ ?_
    exact PJ.retn (vs := [.bool true]) Try.results9 ⟨rfl, trivial⟩ ⟨rfl, rfl⟩

set_option maxRecDepth 100000 in
set_option maxHeartbeats 1000000 in
theorem ok_i_ContradictionsOf {N : Nat} {w1 : Writer} {page4 : List Seen} {r : Int × Int} (hm : i_ContradictionsOf N w1 page4 = some r) (w : World) (v2 : Value) (hr3 : RdS w (cx w).Fz v2 fTypeFault.rp w1.faults) (v5 : Value) (hr6 : RdS w (cx w).Fz v5 fSeen.rp page4) :
    Calls Try.prog 10 #[.agg #[str w1.name, v2], v5] w (Ret (cx w) (tup [.int .i64 r.1, .int .i64 r.2])) := by
  unfold i_ContradictionsOf at hm
  refine Calls.enter [.agg #[str w1.name, v2], v5] Try.func10 rfl Try.ntmps10 rfl ?_
  refine WJ.seq ?_
  refine WJ.reg ?_
  refine SJ.box (cs := [str w1.name, v2]) rfl rfl rfl fun g7 => ?_
  refine SJ.q (YldS.yld (y_assign rfl)) rfl ?_
  refine SJ.q (YldS.yld (y_assign rfl)) rfl ?_
  refine SJ.nil ?_
  refine PJ.next ?_
  refine WJ.seq ?_
  refine WJ.seq ?_
  refine WJ.quiet ?_
  refine QJ.step (YldS.yld (y_loadBN (k := 0) (off := 0) (us := [str w1.name, v2]) rfl Try.isAgg36 Try.sizeOf36 rfl rfl)) rfl ?_
  obtain ⟨r8, h9, hm⟩ := bindS hm
  refine QJ.step (y_call Try.call26 rfl (RetG.quiet fun w hw => ok_i_validWriter h9 w _ (hr3.st hw))) rfl ?_
  refine QJ.step (YldS.yld (y_not rfl)) rfl ?_
  refine QJ.step (YldS.yld (y_move rfl)) rfl ?_
  obtain ⟨t10, h11, hm⟩ := bindS hm
  refine QJ.cut 4 [(1, v5), (2, pt g7 0), (13, .bool t10)] ?_ ?_
  · rcases Bool.eq_false_or_eq_true (!r8) with hb12 | hb12
    · obtain rfl := orT h11 hb12
      refine QJ.off rfl rfl (cB hb12) rfl rfl ?_
      refine QJ.off rfl rfl (cB hb12) rfl rfl ?_
      refine QJ.off rfl rfl (cB hb12) rfl rfl ?_
      refine QJ.step (YldS.yld (y_pick_t (cB hb12) rfl)) rfl ?_
      exact QJ.cut_end ⟨rfl, rfl, rfl, trivial⟩
    · replace h11 := orF h11 hb12
      refine QJ.on rfl rfl (cB hb12) (YldS.yld (y_move rfl)) rfl ?_
      obtain ⟨r13, h14, h11⟩ := bindS h11
      refine QJ.on rfl rfl (cB hb12) (y_call Try.call24 rfl (RetG.quiet fun w hw => ok_i_ValidSeen h14 w _ (hr6.st hw))) rfl ?_
      refine QJ.on rfl rfl (cB hb12) (YldS.yld (y_not rfl)) rfl ?_
      refine QJ.step (YldS.yld (y_pick_f (cB hb12) rfl)) rfl ?_
      obtain rfl := Option.some.inj h11
      exact QJ.cut_end ⟨rfl, rfl, rfl, trivial⟩
  refine QJ.done ?_
  refine PJ.next ?_
  refine WJ.cond (t := t10) rfl (fun hb15 => ?_) (fun hb15 => ?_)
  · replace hm := ifT hm hb15
    refine WJ.seq ?_
    refine WJ.quiet ?_
    refine QJ.step (YldS.yld (y_assign rfl)) rfl ?_
    refine QJ.step (YldS.yld (y_assign rfl)) rfl ?_
    refine QJ.done ?_
    refine PJ.next ?_
    refine WJ.ret ?_
    refine PJ.then_ret ?_
    obtain rfl := Option.some.inj hm
    refine PJ.sel (L' := []) [] ⟨List.nodup_nil, rfl⟩ ?_
    exact PJ.retn (vs := [.int .i64 0, .int .i64 1]) Try.results10 ⟨rfl, rfl, trivial⟩ ⟨rfl, rfl⟩
  · replace hm := ifF hm hb15
    refine WJ.skip ?_
    refine PJ.next ?_
    refine WJ.seq ?_
    refine WJ.quiet ?_
    refine QJ.step (YldS.yld (y_loadBN (k := 0) (off := 0) (us := [str w1.name, v2]) rfl Try.isAgg36 Try.sizeOf36 rfl rfl)) rfl ?_
    refine QJ.step (YldS.yld (y_move rfl)) rfl ?_
    obtain ⟨r16, h17, hm⟩ := bindS hm
    refine QJ.step (y_call Try.call25 rfl (RetG.quiet fun w hw => ok_i_Writer_contradictions h17 w _ (hr3.st hw) _ (hr6.st hw))) rfl ?_
    refine QJ.step (YldS.yld (y_assign rfl)) rfl ?_
    refine QJ.step (YldS.yld (y_assign rfl)) rfl ?_
    refine QJ.done ?_
    refine PJ.next ?_
    refine WJ.ret ?_
    obtain rfl := Option.some.inj hm
    refine PJ.sel (L' := []) [] ⟨List.nodup_nil, rfl⟩ ?_
    exact PJ.retn (vs := [.int .i64 r16, .int .i64 0]) Try.results10 ⟨rfl, rfl, trivial⟩ ⟨rfl, rfl⟩

set_option maxRecDepth 100000 in
set_option maxHeartbeats 1000000 in
theorem ok_w_a2Has {N : Nat} {list1 : List Int} {n4 : Int} {r : Bool} (hm : w_a2Has N list1 n4 = some r) (w : World) (v2 : Value) (hr3 : RdS w (cx w).Fz v2 fI64.rp list1) :
    Calls Try.prog 11 #[v2, .int .i64 n4] w (Ret (cx w) (.bool r)) := by
  unfold w_a2Has at hm
  refine Calls.enter [v2, .int .i64 n4] Try.func11 rfl Try.ntmps11 rfl ?_
  refine WJ.seq ?_
  refine WJ.quiet ?_
  refine QJ.step (YldS.yld (y_assign rfl)) rfl ?_
  refine QJ.done ?_
  refine PJ.next ?_
  obtain ⟨kj5, hk6, hm⟩ := withK_open hm
  refine WJ.join (X := Unit) (fun (_ : Unit) => kj5  = some r) (fun (_ : Unit) => []) (fun (_ : Unit) => []) ?_ ?_
  · clear hk6
    refine WJ.seq ?_
    refine WJ.quiet ?_
    refine QJ.step (YldS.yld (y_assign rfl)) rfl ?_
    refine QJ.done ?_
    refine PJ.next ?_
    refine WJ.block ?_
    refine WJ.sel (L' := (fun (x : Int) => []) 0) [] ⟨List.nodup_nil, rfl⟩ ?_
    refine WJ.sub (m' := (fun (x : Int) => [(0, v2), (1, .int .i64 n4), (5, .int .i64 x)]) 0) ⟨rfl, rfl, rfl, trivial⟩ ?_
    refine WJ.loop (X := Int) (fun N (x : Int) => w_a2Has_l1 kj5 list1 n4 N x = some r) (fun (x : Int) => [(0, v2), (1, .int .i64 n4), (5, .int .i64 x)]) (fun (x : Int) => []) ?_ N 0 hm
    · rintro N i7 hI
      have hm := hI; clear hI
      cases N with
      | zero => cases hm
      | succ N =>
      unfold w_a2Has_l1 at hm
      refine WJ.seq ?_
      refine WJ.seq ?_
      refine WJ.quiet ?_
      refine QJ.step (YldS.yld (y_move rfl)) rfl ?_
      refine QJ.step (YldS.yld (y_move rfl)) rfl ?_
      refine QJ.step (YldS.yld (y_lenS Try.runUnderlying28 hr3 rfl)) rfl ?_
      refine QJ.step (YldS.yld (y_bin rfl rfl rfl)) rfl ?_
      refine QJ.done ?_
      refine PJ.next ?_
      refine WJ.cond (t := decide (i7 < (List.length list1 : Int))) rfl (fun hb8 => ?_) (fun hb8 => ?_)
      · replace hm := ifT hm hb8
        refine WJ.skip ?_
        refine PJ.next ?_
        refine WJ.seq ?_
        refine WJ.block ?_
        refine WJ.seq ?_
        refine WJ.quiet ?_
        refine QJ.step (YldS.yld (y_move rfl)) rfl ?_
        refine QJ.step (YldS.yld (y_move rfl)) rfl ?_
        obtain ⟨e9, h10, hm⟩ := bindS hm
        obtain ⟨ad11, _, rfl, ha12, hy13⟩ := hr3.elem h10
        refine QJ.step (YldS.yld (hy13 Try.runUnderlying28 Try.sizeOf2 rfl rfl)) rfl ?_
        refine QJ.step (YldS.yld (y_load1 (v := .int .i64 e9) Try.isAgg2 ha12 St.frozenC rfl)) rfl ?_
        refine QJ.step (YldS.yld (y_move rfl)) rfl ?_
        refine QJ.step (YldS.yld (y_bin rfl rfl rfl)) rfl ?_
        refine QJ.done ?_
        refine PJ.next ?_
        refine WJ.cond (t := (e9 == n4)) rfl (fun hb14 => ?_) (fun hb14 => ?_)
        · replace hm := ifT hm hb14
          refine WJ.seq ?_
          refine WJ.quiet ?_
          refine QJ.step (YldS.yld (y_assign rfl)) rfl ?_
          refine QJ.done ?_
          refine PJ.next ?_
          refine WJ.ret ?_
          refine PJ.block_ret (PJ.then_ret (PJ.then_ret (PJ.block_ret (PJ.then_ret ?_))))
          obtain rfl := Option.some.inj hm
          refine PJ.sel (L' := []) [] ⟨List.nodup_nil, rfl⟩ ?_
          exact PJ.retn (vs := [.bool true]) Try.results11 ⟨rfl, trivial⟩ ⟨rfl, rfl⟩
        · replace hm := ifF hm hb14
          refine WJ.skip ?_
          refine PJ.block_normal (PJ.next ?_)
          refine WJ.quiet ?_
          refine QJ.step (YldS.yld (y_move rfl)) rfl ?_
          refine QJ.step (YldS.yld (y_bin rfl rfl rfl)) rfl ?_
          refine QJ.step (YldS.yld (y_assign rfl)) rfl ?_
          refine QJ.done ?_
          exact PJ.round (w64 (i7 + 1)) [] hm ⟨rfl, rfl, rfl, trivial⟩ ⟨List.nodup_nil, rfl⟩
      · replace hm := ifF hm hb8
        refine WJ.exit ?_
        refine PJ.then_exit (PJ.then_exit (PJ.block_exit ?_))
        exact PJ.joined () [] hm trivial ⟨List.nodup_nil, rfl⟩
  · rintro _ hm
    subst hk6
    refine WJ.seq ?_
    refine WJ.quiet ?_
    refine QJ.step (YldS.yld (y_assign rfl)) rfl ?_
    refine QJ.done ?_
    refine PJ.next ?_
    refine WJ.ret ?_
    obtain rfl := Option.some.inj hm
    refine PJ.sel (L' := []) [] ⟨List.nodup_nil, rfl⟩ ?_
    exact PJ.retn (vs := [.bool false]) Try.results11 ⟨rfl, trivial⟩ ⟨rfl, rfl⟩

set_option maxRecDepth 100000 in
set_option maxHeartbeats 1000000 in
theorem ok_i_TypePage {N : Nat} {w1 : Writer} {text4 : Str} {r : (List Seen) × Int} (hm : i_TypePage N w1 text4 = some r) (w : World) (v2 : Value) (hr3 : RdS w (cx w).Fz v2 fTypeFault.rp w1.faults) :
    Calls Try.prog 12 #[.agg #[str w1.name, v2], str text4] w (RetG (cx w) fun u L => ∃ (u1 : Value), (u = tup [u1, .int .i64 r.2] ∧ L = [row u1 55 fSeen r.1])) := by
  unfold i_TypePage at hm
  refine Calls.enter [.agg #[str w1.name, v2], str text4] Try.func12 rfl Try.ntmps12 rfl ?_
  refine WJ.seq ?_
  refine WJ.reg ?_
  refine SJ.box (cs := [str w1.name, v2]) rfl rfl rfl fun g5 => ?_
  refine SJ.q (YldS.yld (y_assign rfl)) rfl ?_
  refine SJ.q (YldS.yld (y_assign rfl)) rfl ?_
  refine SJ.nil ?_
  refine PJ.next ?_
  refine WJ.seq ?_
  refine WJ.seq ?_
  refine WJ.quiet ?_
  refine QJ.step (YldS.yld (y_loadBN (k := 0) (off := 0) (us := [str w1.name, v2]) rfl Try.isAgg36 Try.sizeOf36 rfl rfl)) rfl ?_
  obtain ⟨r6, h7, hm⟩ := bindS hm
  refine QJ.step (y_call Try.call26 rfl (RetG.quiet fun w hw => ok_i_validWriter h7 w _ (hr3.st hw))) rfl ?_
  refine QJ.step (YldS.yld (y_not rfl)) rfl ?_
  refine QJ.done ?_
  refine PJ.next ?_
  refine WJ.cond (t := !r6) rfl (fun hb8 => ?_) (fun hb8 => ?_)
  · replace hm := ifT hm hb8
    refine WJ.seq ?_
    refine WJ.quiet ?_
    refine QJ.step (YldS.yld (y_assign rfl)) rfl ?_
    refine QJ.step (YldS.yld (y_assign rfl)) rfl ?_
    refine QJ.done ?_
    refine PJ.next ?_
    refine WJ.ret ?_
    refine PJ.then_ret ?_
    refine PJ.nil_row 55 fSeen ?_
    obtain rfl := Option.some.inj hm
    refine PJ.sel (L' := [row (.slice none 0 0) 55 fSeen []]) [0] ⟨by decide, rfl⟩ ?_
    exact PJ.retn (vs := [(.slice none 0 0), .int .i64 1]) Try.results12 ⟨rfl, rfl, trivial⟩ ⟨_, rfl, rfl⟩
  · replace hm := ifF hm hb8
    refine WJ.skip ?_
    refine PJ.next ?_
    refine WJ.seq ?_
    refine WJ.seq ?_
    refine WJ.quiet ?_
    refine QJ.step (YldS.yld (y_move rfl)) rfl ?_
    obtain ⟨r9, h10, hm⟩ := bindS hm
    refine QJ.step (y_call Try.call27 rfl (RetG.quiet fun w hw => ok_i_isText h10 w )) rfl ?_
    refine QJ.step (YldS.yld (y_not rfl)) rfl ?_
    refine QJ.done ?_
    refine PJ.next ?_
    refine WJ.cond (t := !r9) rfl (fun hb11 => ?_) (fun hb11 => ?_)
    · replace hm := ifT hm hb11
      refine WJ.seq ?_
      refine WJ.quiet ?_
      refine QJ.step (YldS.yld (y_assign rfl)) rfl ?_
      refine QJ.step (YldS.yld (y_assign rfl)) rfl ?_
      refine QJ.done ?_
      refine PJ.next ?_
      refine WJ.ret ?_
      refine PJ.then_ret ?_
      refine PJ.nil_row 55 fSeen ?_
      obtain rfl := Option.some.inj hm
      refine PJ.sel (L' := [row (.slice none 0 0) 55 fSeen []]) [0] ⟨by decide, rfl⟩ ?_
      exact PJ.retn (vs := [(.slice none 0 0), .int .i64 2]) Try.results12 ⟨rfl, rfl, trivial⟩ ⟨_, rfl, rfl⟩
    · replace hm := ifF hm hb11
      refine WJ.skip ?_
      refine PJ.next ?_
      refine WJ.seq ?_
      refine WJ.reg ?_
      refine SJ.buildSlice (R := fSeen) (os := []) [] Try.runUnderlying26 Try.sizeOf55 Try.zeroValue55 rfl rfl rfl rfl rfl rfl fun v12 => ?_
      refine SJ.q (YldS.yld (y_assign rfl)) rfl ?_
      refine SJ.nil ?_
      refine PJ.next ?_
      obtain ⟨kj15, hk16, hm⟩ := withK_open hm
      refine WJ.join (X := (List Seen) × Value) (fun (x : (List Seen) × Value) => kj15 x.1 = some r) (fun (x : (List Seen) × Value) => [(6, x.2)]) (fun (x : (List Seen) × Value) => [row x.2 55 fSeen x.1]) ?_ ?_
      · clear hk16
        refine WJ.seq ?_
        refine WJ.quiet ?_
        refine QJ.step (YldS.yld (y_move rfl)) rfl ?_
        refine QJ.step (YldS.yld (y_lenStr Try.runUnderlying9 rfl)) rfl ?_
        refine QJ.step (YldS.yld (y_move rfl)) rfl ?_
        refine QJ.done ?_
        refine PJ.next ?_
        refine WJ.block ?_
        refine WJ.sel (L' := (fun (x : (List Seen) × Value × Int) => [row x.2.1 55 fSeen x.1, box g5 36 [str w1.name, v2]]) ([], v12, 0)) [0, 1] ⟨by decide, rfl⟩ ?_
        refine WJ.sub (m' := (fun (x : (List Seen) × Value × Int) => [(1, str text4), (2, pt g5 0), (6, x.2.1), (17, .int .i64 (List.length text4 : Int)), (18, .int .i64 x.2.2)]) ([], v12, 0)) ⟨rfl, rfl, rfl, rfl, rfl, trivial⟩ ?_
        refine WJ.loop (X := (List Seen) × Value × Int) (fun N (x : (List Seen) × Value × Int) => i_TypePage_l1 kj15 w1 text4 N x.1 x.2.2 = some r) (fun (x : (List Seen) × Value × Int) => [(1, str text4), (2, pt g5 0), (6, x.2.1), (17, .int .i64 (List.length text4 : Int)), (18, .int .i64 x.2.2)]) (fun (x : (List Seen) × Value × Int) => [row x.2.1 55 fSeen x.1, box g5 36 [str w1.name, v2]]) ?_ N ([], v12, 0) hm
        · rintro N ⟨l17, v18, x19⟩ hI
          have hm := hI; clear hI
          cases N with
          | zero => cases hm
          | succ N =>
          unfold i_TypePage_l1 at hm
          refine WJ.seq ?_
          refine WJ.quiet ?_
          refine QJ.step (YldS.yld (y_bin rfl rfl rfl)) rfl ?_
          refine QJ.done ?_
          refine PJ.next ?_
          refine WJ.seq ?_
          refine WJ.cond (t := decide (x19 < (List.length text4 : Int))) rfl (fun hb20 => ?_) (fun hb20 => ?_)
          · replace hm := ifT hm hb20
            refine WJ.skip ?_
            refine PJ.next ?_
            obtain ⟨kj23, hk24, hm⟩ := withK_open hm
            refine WJ.join (X := (List Seen) × Value) (fun (x : (List Seen) × Value) => kj23 x.1 = some r) (fun (x : (List Seen) × Value) => [(1, str text4), (2, pt g5 0), (6, x.2), (17, .int .i64 (List.length text4 : Int)), (18, .int .i64 x19)]) (fun (x : (List Seen) × Value) => [row x.2 55 fSeen x.1, box g5 36 [str w1.name, v2]]) ?_ ?_
            · clear hk24
              refine WJ.block ?_
              refine WJ.seq ?_
              refine WJ.quiet ?_
              refine QJ.step (YldS.yld (y_move rfl)) rfl ?_
              refine QJ.step (YldS.yld (y_assign rfl)) rfl ?_
              refine QJ.done ?_
              refine PJ.next ?_
              refine WJ.seq ?_
              refine WJ.quiet ?_
              refine QJ.step (YldS.yld (y_move rfl)) rfl ?_
              refine QJ.step (YldS.yld (y_move rfl)) rfl ?_
              refine QJ.step (YldS.yld (y_move rfl)) rfl ?_
              refine QJ.step (YldS.yld (y_bin rfl rfl rfl)) rfl ?_
              obtain ⟨s25, h26, hm⟩ := bindS hm
              refine QJ.step (YldS.yld (y_subStr (i := some x19) (j := some (w64 (x19 + 1))) h26 Try.runUnderlying9 rfl ⟨_, rfl⟩ ⟨_, rfl⟩)) rfl ?_
              refine QJ.step (YldS.yld (y_assign rfl)) rfl ?_
              refine QJ.done ?_
              refine PJ.next ?_
              refine WJ.seq ?_
              refine WJ.quiet ?_
              refine QJ.step (YldS.yld (y_move rfl)) rfl ?_
              refine QJ.step (YldS.yld (y_binS rfl rfl rfl)) rfl ?_
              refine QJ.done ?_
              refine PJ.next ?_
              refine WJ.cond (t := (s25 != [32])) rfl (fun hb27 => ?_) (fun hb27 => ?_)
              · replace hm := ifT hm hb27
                refine WJ.reg ?_
                refine SJ.q (YldS.yld (y_move rfl)) rfl ?_
                refine SJ.q (YldS.yld (y_move rfl)) rfl ?_
                refine SJ.q (YldS.yld (y_loadBN (k := 1) (off := 0) (us := [str w1.name, v2]) rfl Try.isAgg36 Try.sizeOf36 rfl rfl)) rfl ?_
                refine SJ.q (YldS.yld (y_move rfl)) rfl ?_
                obtain ⟨r28, h29, hm⟩ := bindS hm
                refine SJ.q (y_call Try.call28 rfl (RetG.quiet fun w hw => ok_i_Writer_kind h29 w _ (hr3.st hw))) rfl ?_
                refine SJ.q (YldS.yld (y_build (parts := [(0, .tmp 29), (1, .tmp 32)]) (places := [(0, 1), (1, 1)]) (r := [str ((Seen.mk s25 r28).letter), .int .i64 ((Seen.mk s25 r28).kind)]) pl55 Try.zeroValue55 rfl rfl rfl rfl)) rfl ?_
                refine SJ.buildSlice (R := fSeen) (os := [.tmp 33]) [(Seen.mk s25 r28)] Try.runUnderlying26 Try.sizeOf55 Try.zeroValue55 rfl rfl rfl rfl rfl rfl fun v30 => ?_
                obtain ⟨l31, h32, hm⟩ := bindS hm
                refine SJ.append (k := 1) (R := fSeen) h32 rfl Try.underlying26 el55 rfl rfl rfl (fun w hw => (hw.row_rd (k := 0) rfl)) rfl fun v33 => ?_
                refine SJ.q (YldS.yld (y_assign rfl)) rfl ?_
                refine SJ.nil ?_
                refine PJ.block_normal ?_
                exact PJ.joined (l31, v33) [1, 2] hm ⟨rfl, rfl, rfl, rfl, rfl, trivial⟩ ⟨by decide, rfl⟩
              · replace hm := ifF hm hb27
                refine WJ.skip ?_
                refine PJ.block_normal ?_
                exact PJ.joined (l17, v18) [0, 1] hm ⟨rfl, rfl, rfl, rfl, rfl, trivial⟩ ⟨by decide, rfl⟩
            · rintro ⟨l21, v22⟩ hm
              subst hk24
              refine WJ.quiet ?_
              refine QJ.step (YldS.yld (y_bin rfl rfl rfl)) rfl ?_
              refine QJ.step (YldS.yld (y_move rfl)) rfl ?_
              refine QJ.done ?_
              exact PJ.round (l21, v22, w64 (x19 + 1)) [0, 1] hm ⟨rfl, rfl, rfl, rfl, rfl, trivial⟩ ⟨by decide, rfl⟩
          · replace hm := ifF hm hb20
            refine WJ.exit ?_
            refine PJ.then_exit (PJ.then_exit (PJ.block_exit ?_))
            exact PJ.joined (l17, v18) [0] hm ⟨rfl, trivial⟩ ⟨by decide, rfl⟩
      · rintro ⟨l13, v14⟩ hm
        subst hk16
        refine WJ.seq ?_
        refine WJ.quiet ?_
        refine QJ.step (YldS.yld (y_move rfl)) rfl ?_
        refine QJ.step (YldS.yld (y_assign rfl)) rfl ?_
        refine QJ.step (YldS.yld (y_assign rfl)) rfl ?_
        refine QJ.done ?_
        refine PJ.next ?_
        refine WJ.ret ?_
        obtain rfl := Option.some.inj hm
        refine PJ.sel (L' := [row v14 55 fSeen l13]) [0] ⟨by decide, rfl⟩ ?_
        exact PJ.retn (vs := [v14, .int .i64 0]) Try.results12 ⟨rfl, rfl, trivial⟩ ⟨_, rfl, rfl⟩

set_option maxRecDepth 100000 in
set_option maxHeartbeats 1000000 in
theorem ok_i_ascending {N : Nat} {marked1 : List Bool} {r : Str} (hm : i_ascending N marked1 = some r) (w : World) (ad2 : Addr) (ha3 : RdS w (cx w).Fz (.slice (some ad2) 256 256) fBool.rp marked1) :
    Calls Try.prog 30 #[.pointer (some ad2)] w (Ret (cx w) (str r)) := by
  unfold i_ascending at hm
  refine Calls.enter [.pointer (some ad2)] Try.func30 rfl Try.ntmps30 rfl ?_
  refine WJ.seq ?_
  refine WJ.quiet ?_
  refine QJ.step (YldS.yld (y_assign rfl)) rfl ?_
  refine QJ.done ?_
  refine PJ.next ?_
  refine WJ.seq ?_
  refine WJ.reg ?_
  refine SJ.buildSlice (R := fByte) (os := []) [] Try.runUnderlying22 Try.sizeOf5 Try.zeroValue5 rfl rfl rfl rfl rfl rfl fun v4 => ?_
  refine SJ.q (YldS.yld (y_assign rfl)) rfl ?_
  refine SJ.nil ?_
  refine PJ.next ?_
  obtain ⟨kj7, hk8, hm⟩ := withK_open hm
  refine WJ.join (X := (List UInt8) × Value) (fun (x : (List UInt8) × Value) => kj7 x.1 = some r) (fun (x : (List UInt8) × Value) => [(3, x.2)]) (fun (x : (List UInt8) × Value) => [row x.2 5 fByte x.1]) ?_ ?_
  · clear hk8
    refine WJ.seq ?_
    refine WJ.quiet ?_
    refine QJ.step (YldS.yld (y_move rfl)) rfl ?_
    refine QJ.done ?_
    refine PJ.next ?_
    refine WJ.block ?_
    refine WJ.sel (L' := (fun (x : (List UInt8) × Value × Int) => [row x.2.1 5 fByte x.1]) ([], v4, 0)) [0] ⟨by decide, rfl⟩ ?_
    refine WJ.sub (m' := (fun (x : (List UInt8) × Value × Int) => [(0, .pointer (some ad2)), (3, x.2.1), (6, .int .i64 x.2.2)]) ([], v4, 0)) ⟨rfl, rfl, rfl, trivial⟩ ?_
    refine WJ.loop (X := (List UInt8) × Value × Int) (fun N (x : (List UInt8) × Value × Int) => i_ascending_l1 kj7 marked1 N x.1 x.2.2 = some r) (fun (x : (List UInt8) × Value × Int) => [(0, .pointer (some ad2)), (3, x.2.1), (6, .int .i64 x.2.2)]) (fun (x : (List UInt8) × Value × Int) => [row x.2.1 5 fByte x.1]) ?_ N ([], v4, 0) hm
    · rintro N ⟨l9, v10, x11⟩ hI
      have hm := hI; clear hI
      cases N with
      | zero => cases hm
      | succ N =>
      unfold i_ascending_l1 at hm
      refine WJ.seq ?_
      refine WJ.quiet ?_
      refine QJ.step (YldS.yld (y_bin rfl rfl rfl)) rfl ?_
      refine QJ.done ?_
      refine PJ.next ?_
      refine WJ.seq ?_
      refine WJ.cond (t := decide (x11 < 256)) rfl (fun hb12 => ?_) (fun hb12 => ?_)
      · replace hm := ifT hm hb12
        refine WJ.skip ?_
        refine PJ.next ?_
        obtain ⟨kj15, hk16, hm⟩ := withK_open hm
        refine WJ.join (X := (List UInt8) × Value) (fun (x : (List UInt8) × Value) => kj15 x.1 = some r) (fun (x : (List UInt8) × Value) => [(0, .pointer (some ad2)), (3, x.2), (6, .int .i64 x11)]) (fun (x : (List UInt8) × Value) => [row x.2 5 fByte x.1]) ?_ ?_
        · clear hk16
          refine WJ.block ?_
          refine WJ.seq ?_
          refine WJ.quiet ?_
          refine QJ.step (YldS.yld (y_move rfl)) rfl ?_
          refine QJ.step (YldS.yld (y_assign rfl)) rfl ?_
          refine QJ.done ?_
          refine PJ.next ?_
          refine WJ.seq ?_
          refine WJ.quiet ?_
          refine QJ.step (YldS.yld (y_move rfl)) rfl ?_
          refine QJ.step (YldS.yld (y_move rfl)) rfl ?_
          refine QJ.step (YldS.yld (y_nil rfl)) rfl ?_
          obtain ⟨e17, h18, hm⟩ := bindS hm
          obtain ⟨ad19, _, rfl, ha20, hy21⟩ := ha3.elemA h18
          refine QJ.step (YldS.yld (hy21 Try.runUnderlying63 Try.sizeOf4 rfl rfl)) rfl ?_
          refine QJ.step (YldS.yld (y_load1 (v := .bool e17) Try.isAgg4 ha20 St.frozenC rfl)) rfl ?_
          refine QJ.done ?_
          refine PJ.next ?_
          refine WJ.cond (t := e17) rfl (fun hb22 => ?_) (fun hb22 => ?_)
          · replace hm := ifT hm hb22
            refine WJ.reg ?_
            refine SJ.q (YldS.yld (y_move rfl)) rfl ?_
            refine SJ.q (YldS.yld (y_move rfl)) rfl ?_
            refine SJ.q (YldS.yld (y_convTo8 Try.runUnderlying3 Try.runUnderlying5 rfl)) rfl ?_
            refine SJ.buildSlice (R := fByte) (os := [.tmp 16]) [UInt8.ofInt x11] Try.runUnderlying22 Try.sizeOf5 Try.zeroValue5 rfl rfl rfl rfl rfl rfl fun v23 => ?_
            obtain ⟨l24, h25, hm⟩ := bindS hm
            refine SJ.append (k := 1) (R := fByte) h25 rfl Try.underlying22 el5 rfl rfl rfl (fun w hw => (hw.row_rd (k := 0) rfl)) rfl fun v26 => ?_
            refine SJ.q (YldS.yld (y_assign rfl)) rfl ?_
            refine SJ.nil ?_
            refine PJ.block_normal ?_
            exact PJ.joined (l24, v26) [1] hm ⟨rfl, rfl, rfl, trivial⟩ ⟨by decide, rfl⟩
          · replace hm := ifF hm hb22
            refine WJ.skip ?_
            refine PJ.block_normal ?_
            exact PJ.joined (l9, v10) [0] hm ⟨rfl, rfl, rfl, trivial⟩ ⟨by decide, rfl⟩
        · rintro ⟨l13, v14⟩ hm
          subst hk16
          refine WJ.quiet ?_
          refine QJ.step (YldS.yld (y_bin rfl rfl rfl)) rfl ?_
          refine QJ.step (YldS.yld (y_move rfl)) rfl ?_
          refine QJ.done ?_
          exact PJ.round (l13, v14, w64 (x11 + 1)) [0] hm ⟨rfl, rfl, rfl, trivial⟩ ⟨by decide, rfl⟩
      · replace hm := ifF hm hb12
        refine WJ.exit ?_
        refine PJ.then_exit (PJ.then_exit (PJ.block_exit ?_))
        exact PJ.joined (l9, v10) [0] hm ⟨rfl, trivial⟩ ⟨by decide, rfl⟩
  · rintro ⟨l5, v6⟩ hm
    subst hk8
    refine WJ.seq ?_
    refine WJ.quiet ?_
    refine QJ.step (YldS.yld (y_move rfl)) rfl ?_
    refine QJ.step (YldS.yld (y_b2s Try.underlying22 Try.underlying9 Try.underlying5 (fun w hw => ⟨_, (hw.row_rd (k := 0) rfl)⟩) rfl)) rfl ?_
    refine QJ.step (YldS.yld (y_assign rfl)) rfl ?_
    refine QJ.done ?_
    refine PJ.next ?_
    refine WJ.ret ?_
    obtain rfl := Option.some.inj hm
    refine PJ.sel (L' := []) [] ⟨List.nodup_nil, rfl⟩ ?_
    exact PJ.retn (vs := [str l5]) Try.results30 ⟨rfl, trivial⟩ ⟨rfl, rfl⟩

set_option maxRecDepth 100000 in
set_option maxHeartbeats 1000000 in
theorem ok_i_letterList {N : Nat} {s1 : Str} {r : (List Str)} (hm : i_letterList N s1 = some r) (w : World)  :
    Calls Try.prog 29 #[str s1] w (RetG (cx w) fun u L => ∃ (u1 : Value), (u = u1 ∧ L = [row u1 9 fStr r])) := by
  unfold i_letterList at hm
  refine Calls.enter [str s1] Try.func29 rfl Try.ntmps29 rfl ?_
  refine WJ.seq ?_
  refine WJ.quiet ?_
  refine QJ.step (YldS.yld (y_assign rfl)) rfl ?_
  refine QJ.done ?_
  refine PJ.next ?_
  refine WJ.seq ?_
  refine WJ.reg ?_
  refine SJ.buildSlice (R := fStr) (os := []) [] Try.runUnderlying39 Try.sizeOf9 Try.zeroValue9 rfl rfl rfl rfl rfl rfl fun v2 => ?_
  refine SJ.q (YldS.yld (y_assign rfl)) rfl ?_
  refine SJ.nil ?_
  refine PJ.next ?_
  obtain ⟨kj5, hk6, hm⟩ := withK_open hm
  refine WJ.join (X := (List Str) × Value) (fun (x : (List Str) × Value) => kj5 x.1 = some r) (fun (x : (List Str) × Value) => [(3, x.2)]) (fun (x : (List Str) × Value) => [row x.2 9 fStr x.1]) ?_ ?_
  · clear hk6
    refine WJ.seq ?_
    refine WJ.quiet ?_
    refine QJ.step (YldS.yld (y_move rfl)) rfl ?_
    refine QJ.step (YldS.yld (y_lenStr Try.runUnderlying9 rfl)) rfl ?_
    refine QJ.step (YldS.yld (y_move rfl)) rfl ?_
    refine QJ.done ?_
    refine PJ.next ?_
    refine WJ.block ?_
    refine WJ.sel (L' := (fun (x : (List Str) × Value × Int) => [row x.2.1 9 fStr x.1]) ([], v2, 0)) [0] ⟨by decide, rfl⟩ ?_
    refine WJ.sub (m' := (fun (x : (List Str) × Value × Int) => [(0, str s1), (3, x.2.1), (7, .int .i64 (List.length s1 : Int)), (8, .int .i64 x.2.2)]) ([], v2, 0)) ⟨rfl, rfl, rfl, rfl, trivial⟩ ?_
    refine WJ.loop (X := (List Str) × Value × Int) (fun N (x : (List Str) × Value × Int) => i_letterList_l1 kj5 s1 N x.1 x.2.2 = some r) (fun (x : (List Str) × Value × Int) => [(0, str s1), (3, x.2.1), (7, .int .i64 (List.length s1 : Int)), (8, .int .i64 x.2.2)]) (fun (x : (List Str) × Value × Int) => [row x.2.1 9 fStr x.1]) ?_ N ([], v2, 0) hm
    · rintro N ⟨l7, v8, x9⟩ hI
      have hm := hI; clear hI
      cases N with
      | zero => cases hm
      | succ N =>
      unfold i_letterList_l1 at hm
      refine WJ.seq ?_
      refine WJ.quiet ?_
      refine QJ.step (YldS.yld (y_bin rfl rfl rfl)) rfl ?_
      refine QJ.done ?_
      refine PJ.next ?_
      refine WJ.seq ?_
      refine WJ.cond (t := decide (x9 < (List.length s1 : Int))) rfl (fun hb10 => ?_) (fun hb10 => ?_)
      · replace hm := ifT hm hb10
        refine WJ.skip ?_
        refine PJ.next ?_
        refine WJ.seq ?_
        refine WJ.block ?_
        refine WJ.seq ?_
        refine WJ.quiet ?_
        refine QJ.step (YldS.yld (y_move rfl)) rfl ?_
        refine QJ.step (YldS.yld (y_assign rfl)) rfl ?_
        refine QJ.done ?_
        refine PJ.next ?_
        refine WJ.reg ?_
        refine SJ.q (YldS.yld (y_move rfl)) rfl ?_
        refine SJ.q (YldS.yld (y_move rfl)) rfl ?_
        refine SJ.q (YldS.yld (y_move rfl)) rfl ?_
        refine SJ.q (YldS.yld (y_move rfl)) rfl ?_
        refine SJ.q (YldS.yld (y_bin rfl rfl rfl)) rfl ?_
        obtain ⟨s11, h12, hm⟩ := bindS hm
        refine SJ.q (YldS.yld (y_subStr (i := some x9) (j := some (w64 (x9 + 1))) h12 Try.runUnderlying9 rfl ⟨_, rfl⟩ ⟨_, rfl⟩)) rfl ?_
        refine SJ.buildSlice (R := fStr) (os := [.tmp 16]) [s11] Try.runUnderlying39 Try.sizeOf9 Try.zeroValue9 rfl rfl rfl rfl rfl rfl fun v13 => ?_
        obtain ⟨l14, h15, hm⟩ := bindS hm
        refine SJ.append (k := 1) (R := fStr) h15 rfl Try.underlying39 el9 rfl rfl rfl (fun w hw => (hw.row_rd (k := 0) rfl)) rfl fun v16 => ?_
        refine SJ.q (YldS.yld (y_assign rfl)) rfl ?_
        refine SJ.nil ?_
        refine PJ.block_normal (PJ.next ?_)
        refine WJ.quiet ?_
        refine QJ.step (YldS.yld (y_bin rfl rfl rfl)) rfl ?_
        refine QJ.step (YldS.yld (y_move rfl)) rfl ?_
        refine QJ.done ?_
        exact PJ.round (l14, v16, w64 (x9 + 1)) [1] hm ⟨rfl, rfl, rfl, rfl, trivial⟩ ⟨by decide, rfl⟩
      · replace hm := ifF hm hb10
        refine WJ.exit ?_
        refine PJ.then_exit (PJ.then_exit (PJ.block_exit ?_))
        exact PJ.joined (l7, v8) [0] hm ⟨rfl, trivial⟩ ⟨by decide, rfl⟩
  · rintro ⟨l3, v4⟩ hm
    subst hk6
    refine WJ.seq ?_
    refine WJ.quiet ?_
    refine QJ.step (YldS.yld (y_move rfl)) rfl ?_
    refine QJ.step (YldS.yld (y_assign rfl)) rfl ?_
    refine QJ.done ?_
    refine PJ.next ?_
    refine WJ.ret ?_
    obtain rfl := Option.some.inj hm
    refine PJ.sel (L' := [row v4 9 fStr l3]) [0] ⟨by decide, rfl⟩ ?_
    exact PJ.retn (vs := [v4]) Try.results29 ⟨rfl, trivial⟩ ⟨_, rfl, rfl⟩

set_option maxRecDepth 100000 in
set_option maxHeartbeats 1000000 in
theorem ok_i_ContraryLetters {N : Nat} {page1 : List Seen} {r : (List Str) × Int} (hm : i_ContraryLetters N page1 = some r) (w : World) (v2 : Value) (hr3 : RdS w (cx w).Fz v2 fSeen.rp page1) :
    Calls Try.prog 13 #[v2] w (RetG (cx w) fun u L => ∃ (u1 : Value), (u = tup [u1, .int .i64 r.2] ∧ L = [row u1 9 fStr r.1])) := by
  unfold i_ContraryLetters at hm
  refine Calls.enter [v2] Try.func13 rfl Try.ntmps13 rfl ?_
  refine WJ.seq ?_
  refine WJ.quiet ?_
  refine QJ.step (YldS.yld (y_assign rfl)) rfl ?_
  refine QJ.step (YldS.yld (y_assign rfl)) rfl ?_
  refine QJ.done ?_
  refine PJ.next ?_
  refine WJ.seq ?_
  refine WJ.seq ?_
  refine WJ.quiet ?_
  refine QJ.step (YldS.yld (y_move rfl)) rfl ?_
  obtain ⟨r4, h5, hm⟩ := bindS hm
  refine QJ.step (y_call Try.call24 rfl (RetG.quiet fun w hw => ok_i_ValidSeen h5 w _ (hr3.st hw))) rfl ?_
  refine QJ.step (YldS.yld (y_not rfl)) rfl ?_
  refine QJ.done ?_
  refine PJ.next ?_
  refine WJ.cond (t := !r4) rfl (fun hb6 => ?_) (fun hb6 => ?_)
  · replace hm := ifT hm hb6
    refine WJ.seq ?_
    refine WJ.quiet ?_
    refine QJ.step (YldS.yld (y_assign rfl)) rfl ?_
    refine QJ.step (YldS.yld (y_assign rfl)) rfl ?_
    refine QJ.done ?_
    refine PJ.next ?_
    refine WJ.ret ?_
    refine PJ.then_ret ?_
    refine PJ.nil_row 9 fStr ?_
    obtain rfl := Option.some.inj hm
    refine PJ.sel (L' := [row (.slice none 0 0) 9 fStr []]) [0] ⟨by decide, rfl⟩ ?_
    exact PJ.retn (vs := [(.slice none 0 0), .int .i64 1]) Try.results13 ⟨rfl, rfl, trivial⟩ ⟨_, rfl, rfl⟩
  · replace hm := ifF hm hb6
    refine WJ.skip ?_
    refine PJ.next ?_
    refine WJ.seq ?_
    refine WJ.reg ?_
    refine SJ.makeMapV vI64 rfl fun g7 => ?_
    refine SJ.q (YldS.yld (y_assign rfl)) rfl ?_
    refine SJ.nil ?_
    refine PJ.next ?_
    refine WJ.seq ?_
    refine WJ.reg ?_
    refine SJ.q (YldS.yld (y_build0 Try.runUnderlying63 zv63 Try.sizeOf4)) rfl ?_
    refine SJ.allocA (R := fBool) (xs := List.replicate 256 false) 256 zv63 rfl rfl rfl rfl fun g8 => ?_
    refine SJ.storeA (k := 0) (ys := (List.replicate 256 false)) rfl rfl rfl rfl (by simp) Try.sizeOf63 (by simp [length_encs, fBool]) ?_
    refine SJ.nil ?_
    refine PJ.next ?_
    obtain ⟨kj10, hk11, hm⟩ := withK_open hm
    refine WJ.join (X := (List Bool)) (fun (x : (List Bool)) => kj10 x = some r) (fun (x : (List Bool)) => [(5, pt g8 0)]) (fun (x : (List Bool)) => [row (av g8 256) 63 fBool x]) ?_ ?_
    · clear hk11
      refine WJ.seq ?_
      refine WJ.quiet ?_
      refine QJ.step (YldS.yld (y_move rfl)) rfl ?_
      refine QJ.step (YldS.yld (y_lenS Try.runUnderlying26 hr3 rfl)) rfl ?_
      refine QJ.step (YldS.yld (y_move rfl)) rfl ?_
      refine QJ.done ?_
      refine PJ.next ?_
      refine WJ.block ?_
      refine WJ.sel (L' := (fun (x : (List Bool) × (List (Str × Int)) × Int) => [row (av g8 256) 63 fBool x.1, mpV vI64 g7 x.2.1]) ((List.replicate 256 false), ([] : List (Str × Int)), 0)) [0, 1] ⟨by decide, rfl⟩ ?_
      refine WJ.sub (m' := (fun (x : (List Bool) × (List (Str × Int)) × Int) => [(4, .map (some g7)), (5, pt g8 0), (15, v2), (16, .int .i64 (List.length page1 : Int)), (17, .int .i64 x.2.2)]) ((List.replicate 256 false), ([] : List (Str × Int)), 0)) ⟨rfl, rfl, rfl, rfl, rfl, trivial⟩ ?_
      refine WJ.loop (X := (List Bool) × (List (Str × Int)) × Int) (fun N (x : (List Bool) × (List (Str × Int)) × Int) => i_ContraryLetters_l1 kj10 page1 N x.1 x.2.1 x.2.2 = some r) (fun (x : (List Bool) × (List (Str × Int)) × Int) => [(4, .map (some g7)), (5, pt g8 0), (15, v2), (16, .int .i64 (List.length page1 : Int)), (17, .int .i64 x.2.2)]) (fun (x : (List Bool) × (List (Str × Int)) × Int) => [row (av g8 256) 63 fBool x.1, mpV vI64 g7 x.2.1]) ?_ N ((List.replicate 256 false), ([] : List (Str × Int)), 0) hm
      · rintro N ⟨l12, mp13, x14⟩ hI
        have hm := hI; clear hI
        cases N with
        | zero => cases hm
        | succ N =>
        unfold i_ContraryLetters_l1 at hm
        refine WJ.seq ?_
        refine WJ.quiet ?_
        refine QJ.step (YldS.yld (y_bin rfl rfl rfl)) rfl ?_
        refine QJ.done ?_
        refine PJ.next ?_
        refine WJ.seq ?_
        refine WJ.cond (t := decide (x14 < (List.length page1 : Int))) rfl (fun hb15 => ?_) (fun hb15 => ?_)
        · replace hm := ifT hm hb15
          refine WJ.skip ?_
          refine PJ.next ?_
          obtain ⟨kj18, hk19, hm⟩ := withK_open hm
          refine WJ.join (X := (List Bool) × (List (Str × Int))) (fun (x : (List Bool) × (List (Str × Int))) => kj18 x.1 x.2 = some r) (fun (x : (List Bool) × (List (Str × Int))) => [(4, .map (some g7)), (5, pt g8 0), (15, v2), (16, .int .i64 (List.length page1 : Int)), (17, .int .i64 x14)]) (fun (x : (List Bool) × (List (Str × Int))) => [row (av g8 256) 63 fBool x.1, mpV vI64 g7 x.2]) ?_ ?_
          · clear hk19
            refine WJ.block ?_
            refine WJ.seq ?_
            refine WJ.reg ?_
            obtain ⟨e20, h21, hm⟩ := bindS hm
            obtain ⟨ad22, _, rfl, ha23, hy24⟩ := hr3.elem h21
            refine SJ.q (YldS.yld (hy24 Try.runUnderlying26 Try.sizeOf55 rfl rfl)) rfl ?_
            refine SJ.q (YldS.yld (y_loadN Try.isAgg55 Try.sizeOf55 rfl ha23 St.frozenC rfl)) rfl ?_
            refine SJ.alloc (cs := [str [], .int .i64 0]) Try.zeroValue55 rfl rfl fun g25 => ?_
            refine SJ.storeL (k := 0) (off := 0) (us := [str e20.letter, .int .i64 e20.kind]) rfl rfl rfl rfl Try.sizeOf55 rfl rfl ?_
            refine SJ.nil ?_
            refine PJ.next ?_
            refine WJ.seq ?_
            refine WJ.quiet ?_
            refine QJ.step (YldS.yld (y_move rfl)) rfl ?_
            refine QJ.step (YldS.yld (y_fldB (o := 0) fld55_0 rfl)) rfl ?_
            refine QJ.step (YldS.yld (y_loadB (k := 0) (off := 0) (v := str e20.letter) rfl Try.isAgg9 rfl rfl)) rfl ?_
            refine QJ.step (YldS.yld (y_lookupV2 (k := 2) (f := vI64) (z := (0 : Int)) rfl Try.underlying62 Try.underlying9 Try.zeroValue2 rfl rfl)) rfl ?_
            refine QJ.step (YldS.yld (y_move rfl)) rfl ?_
            refine QJ.step (YldS.yld (y_extract rfl rfl)) rfl ?_
            refine QJ.step (YldS.yld (y_extract rfl rfl)) rfl ?_
            refine QJ.step (YldS.yld (y_assign rfl)) rfl ?_
            refine QJ.step (YldS.yld (y_assign rfl)) rfl ?_
            refine QJ.done ?_
            refine PJ.next ?_
            refine WJ.seq ?_
            refine WJ.quiet ?_
            refine QJ.step (YldS.yld (y_move rfl)) rfl ?_
            refine QJ.step (YldS.yld (y_not rfl)) rfl ?_
            refine QJ.done ?_
            refine PJ.next ?_
            refine WJ.cond (t := !(Option.isSome (mgetO mp13 e20.letter))) rfl (fun hb26 => ?_) (fun hb26 => ?_)
            · replace hm := ifT hm hb26
              refine WJ.reg ?_
              refine SJ.q (YldS.yld (y_move rfl)) rfl ?_
              refine SJ.q (YldS.yld (y_fldB (o := 0) fld55_0 rfl)) rfl ?_
              refine SJ.q (YldS.yld (y_loadB (k := 0) (off := 0) (v := str e20.letter) rfl Try.isAgg9 rfl rfl)) rfl ?_
              refine SJ.q (YldS.yld (y_fldB (o := 0) fld55_1 rfl)) rfl ?_
              refine SJ.q (YldS.yld (y_loadB (k := 0) (off := 1) (v := .int .i64 e20.kind) rfl Try.isAgg2 rfl rfl)) rfl ?_
              refine SJ.mapUpdateV (k := 2) (f := vI64) Try.underlying62 Try.underlying9 rfl rfl rfl rfl ?_
              refine SJ.nil ?_
              refine PJ.block_normal ?_
              exact PJ.joined (l12, msetV mp13 e20.letter e20.kind) [1, 2] hm ⟨rfl, rfl, rfl, rfl, rfl, trivial⟩ ⟨by decide, rfl⟩
            · replace hm := ifF hm hb26
              refine WJ.seq ?_
              refine WJ.quiet ?_
              refine QJ.step (YldS.yld (y_move rfl)) rfl ?_
              refine QJ.step (YldS.yld (y_fldB (o := 0) fld55_1 rfl)) rfl ?_
              refine QJ.step (YldS.yld (y_loadB (k := 0) (off := 1) (v := .int .i64 e20.kind) rfl Try.isAgg2 rfl rfl)) rfl ?_
              refine QJ.step (YldS.yld (y_bin rfl rfl rfl)) rfl ?_
              refine QJ.done ?_
              refine PJ.next ?_
              refine WJ.cond (t := ((Option.getD (mgetO mp13 e20.letter) (0 : Int)) != e20.kind)) rfl (fun hb27 => ?_) (fun hb27 => ?_)
              · replace hm := ifT hm hb27
                refine WJ.reg ?_
                refine SJ.q (YldS.yld (y_fldB (o := 0) fld55_0 rfl)) rfl ?_
                refine SJ.q (YldS.yld (y_loadB (k := 0) (off := 0) (v := str e20.letter) rfl Try.isAgg9 rfl rfl)) rfl ?_
                obtain ⟨c28, h29, hm⟩ := bindS hm
                refine SJ.q (YldS.yld (y_idxStr Try.runUnderlying9 rfl rfl h29)) rfl ?_
                obtain ⟨e30, h31, hm⟩ := bindS hm
                refine SJ.q (YldS.yld (y_ixArr (k := 1) (R := fBool) rfl Try.runUnderlying63 Try.sizeOf4 rfl rfl h31)) rfl ?_
                refine SJ.storeRL (k := 1) (i := (Int.toNat (UInt8.toNat c28 : Int))) (off := 0) (us := [.bool true]) (b := true) rfl rfl (idx_get h31) rfl rfl Try.sizeOf4 rfl rfl rfl ?_
                refine SJ.nil ?_
                refine PJ.block_normal ?_
                exact PJ.joined ((List.set l12 (Int.toNat (UInt8.toNat c28 : Int)) true), mp13) [1, 2] hm ⟨rfl, rfl, rfl, rfl, rfl, trivial⟩ ⟨by decide, rfl⟩
              · replace hm := ifF hm hb27
                refine WJ.skip ?_
                refine PJ.block_normal ?_
                exact PJ.joined (l12, mp13) [1, 2] hm ⟨rfl, rfl, rfl, rfl, rfl, trivial⟩ ⟨by decide, rfl⟩
          · rintro ⟨l16, mp17⟩ hm
            subst hk19
            refine WJ.quiet ?_
            refine QJ.step (YldS.yld (y_bin rfl rfl rfl)) rfl ?_
            refine QJ.step (YldS.yld (y_move rfl)) rfl ?_
            refine QJ.done ?_
            exact PJ.round (l16, mp17, w64 (x14 + 1)) [0, 1] hm ⟨rfl, rfl, rfl, rfl, rfl, trivial⟩ ⟨by decide, rfl⟩
        · replace hm := ifF hm hb15
          refine WJ.exit ?_
          refine PJ.then_exit (PJ.then_exit (PJ.block_exit ?_))
          exact PJ.joined l12 [0] hm ⟨rfl, trivial⟩ ⟨by decide, rfl⟩
    · rintro l9 hm
      subst hk11
      refine WJ.seq ?_
      refine WJ.reg ?_
      obtain ⟨r32, h33, hm⟩ := bindS hm
      refine SJ.q (y_call Try.call30 rfl (RetG.quiet fun w hw => ok_i_ascending h33 w _ (hw.row_rd (k := 0) rfl))) rfl ?_
      obtain ⟨r34, h35, hm⟩ := bindS hm
      refine SJ.call Try.call29 rfl (fun w hw => ok_i_letterList h35 w ) rfl ?_
      rintro v36 _ ⟨_, rfl, rfl⟩
      refine SJ.q (YldS.yld (y_assign rfl)) rfl ?_
      refine SJ.q (YldS.yld (y_assign rfl)) rfl ?_
      refine SJ.nil ?_
      refine PJ.next ?_
      refine WJ.ret ?_
      obtain rfl := Option.some.inj hm
      refine PJ.sel (L' := [row v36 9 fStr r34]) [0] ⟨by decide, rfl⟩ ?_
      exact PJ.retn (vs := [v36, .int .i64 0]) Try.results13 ⟨rfl, rfl, trivial⟩ ⟨_, rfl, rfl⟩

set_option maxRecDepth 100000 in
set_option maxHeartbeats 1000000 in
theorem ok_w_FnWriters {N : Nat} {code1 : List UInt8} {more4 : List UInt8} {r : Bool} (hm : w_FnWriters N code1 more4 = some r) (w : World) (v2 : Value) (hr3 : RdS w (cx w).Fz v2 fByte.rp code1) (v5 : Value) (hr6 : RdS w (cx w).Fz v5 fByte.rp more4) :
    Calls Try.prog 3 #[v2, v5] w (Ret (cx w) (.bool r)) := by
  unfold w_FnWriters at hm
  refine Calls.enter [v2, v5] Try.func3 rfl Try.ntmps3 rfl ?_
  refine WJ.seq ?_
  refine WJ.quiet ?_
  refine QJ.step (YldS.yld (y_assign rfl)) rfl ?_
  refine QJ.done ?_
  refine PJ.next ?_
  refine WJ.seq ?_
  refine WJ.seq ?_
  refine WJ.quiet ?_
  refine QJ.step (YldS.yld (y_move rfl)) rfl ?_
  refine QJ.step (YldS.yld (y_move rfl)) rfl ?_
  obtain ⟨r7, h8, hm⟩ := bindS hm
  refine QJ.step (y_call Try.call5 rfl (RetG.quiet fun w hw => ok_w_a2Long h8 w _ (hr3.st hw) _ (hr6.st hw))) rfl ?_
  refine QJ.done ?_
  refine PJ.next ?_
  refine WJ.cond (t := r7) rfl (fun hb9 => ?_) (fun hb9 => ?_)
  · replace hm := ifT hm hb9
    refine WJ.seq ?_
    refine WJ.quiet ?_
    refine QJ.step (YldS.yld (y_assign rfl)) rfl ?_
    refine QJ.done ?_
    refine PJ.next ?_
    refine WJ.ret ?_
    refine PJ.then_ret ?_
    obtain rfl := Option.some.inj hm
    refine PJ.sel (L' := []) [] ⟨List.nodup_nil, rfl⟩ ?_
    exact PJ.retn (vs := [.bool true]) Try.results3 ⟨rfl, trivial⟩ ⟨rfl, rfl⟩
  · replace hm := ifF hm hb9
    refine WJ.skip ?_
    refine PJ.next ?_
    refine WJ.seq ?_
    refine WJ.reg ?_
    refine SJ.q (YldS.yld (y_move rfl)) rfl ?_
    obtain ⟨r10, h11, hm⟩ := bindS hm
    refine SJ.call Try.call6 rfl (fun w hw => ok_s_A2Writers h11 w _ (hr3.st hw)) rfl ?_
    rintro v12 _ ⟨_, vs13, rfl, rfl⟩
    refine SJ.q (YldS.yld (y_assign rfl)) rfl ?_
    refine SJ.nil ?_
    refine PJ.next ?_
    refine WJ.seq ?_
    refine WJ.reg ?_
    refine SJ.q (YldS.yld (y_move rfl)) rfl ?_
    obtain ⟨r14, h15, hm⟩ := bindS hm
    refine SJ.call Try.call7 rfl (fun w hw => ok_s_A2Page h15 w _ (hr6.st hw)) rfl ?_
    rintro v16 _ ⟨_, rfl, rfl⟩
    refine SJ.q (YldS.yld (y_assign rfl)) rfl ?_
    refine SJ.nil ?_
    refine PJ.next ?_
    refine WJ.seq ?_
    refine WJ.reg ?_
    refine SJ.q (YldS.yld (y_move rfl)) rfl ?_
    refine SJ.q (YldS.yld (y_move rfl)) rfl ?_
    obtain ⟨r17, h18, hm⟩ := bindS hm
    refine SJ.call Try.call8 rfl (fun w hw => ok_i_BestWriters h18 w _ (hw.nss_rd (k := 1) (j := 2) rfl rfl) _ (hw.row_rd (k := 0) rfl)) rfl ?_
    rintro _ _ ⟨v19, rfl, rfl⟩
    refine SJ.q (YldS.yld (y_move rfl)) rfl ?_
    refine SJ.q (YldS.yld (y_extract rfl rfl)) rfl ?_
    refine SJ.q (YldS.yld (y_extract rfl rfl)) rfl ?_
    refine SJ.q (YldS.yld (y_extract rfl rfl)) rfl ?_
    refine SJ.q (YldS.yld (y_assign rfl)) rfl ?_
    refine SJ.q (YldS.yld (y_assign rfl)) rfl ?_
    refine SJ.q (YldS.yld (y_assign rfl)) rfl ?_
    refine SJ.nil ?_
    refine PJ.next ?_
    refine WJ.seq ?_
    refine WJ.seq ?_
    refine WJ.quiet ?_
    refine QJ.step (YldS.yld (y_move rfl)) rfl ?_
    refine QJ.step (YldS.yld (y_lenSh (k := 2) (j := 3) rfl rfl Try.runUnderlying24 rfl)) rfl ?_
    refine QJ.step (YldS.yld (y_bin rfl rfl rfl)) rfl ?_
    refine QJ.done ?_
    refine PJ.next ?_
    refine WJ.cond (t := ((List.length r10 : Int) == 0)) rfl (fun hb20 => ?_) (fun hb20 => ?_)
    · replace hm := ifT hm hb20
      refine WJ.seq ?_
      refine WJ.quiet ?_
      refine QJ.step (YldS.yld (y_move rfl)) rfl ?_
      refine QJ.step (YldS.yld (y_bin rfl rfl rfl)) rfl ?_
      refine QJ.step (YldS.yld (y_assign rfl)) rfl ?_
      refine QJ.done ?_
      refine PJ.next ?_
      refine WJ.ret ?_
      refine PJ.then_ret ?_
      obtain rfl := Option.some.inj hm
      refine PJ.sel (L' := []) [] ⟨List.nodup_nil, rfl⟩ ?_
      exact PJ.retn (vs := [.bool (r17.2.2 == 3)]) Try.results3 ⟨rfl, trivial⟩ ⟨rfl, rfl⟩
    · replace hm := ifF hm hb20
      refine WJ.skip ?_
      refine PJ.next ?_
      refine WJ.seq ?_
      refine WJ.seq ?_
      refine WJ.quiet ?_
      refine QJ.step (YldS.yld (y_move rfl)) rfl ?_
      refine QJ.step (YldS.yld (y_bin rfl rfl rfl)) rfl ?_
      refine QJ.step (YldS.yld (y_move rfl)) rfl ?_
      obtain ⟨t21, h22, hm⟩ := bindS hm
      refine QJ.cut 4 [(5, v12), (6, v16), (7, v19), (8, .int .i64 r17.2.1), (46, .bool t21)] ?_ ?_
      · rcases Bool.eq_false_or_eq_true (r17.2.2 != 0) with hb23 | hb23
        · obtain rfl := orT h22 hb23
          refine QJ.off rfl rfl (cB hb23) rfl rfl ?_
          refine QJ.off rfl rfl (cB hb23) rfl rfl ?_
          refine QJ.off rfl rfl (cB hb23) rfl rfl ?_
          refine QJ.step (YldS.yld (y_pick_t (cB hb23) rfl)) rfl ?_
          exact QJ.cut_end ⟨rfl, rfl, rfl, rfl, rfl, trivial⟩
        · replace h22 := orF h22 hb23
          refine QJ.on rfl rfl (cB hb23) (YldS.yld (y_move rfl)) rfl ?_
          refine QJ.on rfl rfl (cB hb23) (YldS.yld (y_lenRow (k := 0) rfl Try.runUnderlying28 rfl)) rfl ?_
          refine QJ.on rfl rfl (cB hb23) (YldS.yld (y_bin rfl rfl rfl)) rfl ?_
          refine QJ.step (YldS.yld (y_pick_f (cB hb23) rfl)) rfl ?_
          obtain rfl := Option.some.inj h22
          exact QJ.cut_end ⟨rfl, rfl, rfl, rfl, rfl, trivial⟩
      refine QJ.step (YldS.yld (y_move rfl)) rfl ?_
      obtain ⟨t24, h25, hm⟩ := bindS hm
      refine QJ.cut 6 [(5, v12), (6, v16), (7, v19), (8, .int .i64 r17.2.1), (53, .bool t24)] ?_ ?_
      · rcases Bool.eq_false_or_eq_true t21 with hb26 | hb26
        · obtain rfl := orT h25 hb26
          refine QJ.off rfl rfl (cB hb26) rfl rfl ?_
          refine QJ.off rfl rfl (cB hb26) rfl rfl ?_
          refine QJ.off rfl rfl (cB hb26) rfl rfl ?_
          refine QJ.off rfl rfl (cB hb26) rfl rfl ?_
          refine QJ.off rfl rfl (cB hb26) rfl rfl ?_
          refine QJ.step (YldS.yld (y_pick_t (cB hb26) rfl)) rfl ?_
          exact QJ.cut_end ⟨rfl, rfl, rfl, rfl, rfl, trivial⟩
        · replace h25 := orF h25 hb26
          refine QJ.on rfl rfl (cB hb26) (YldS.yld (y_move rfl)) rfl ?_
          refine QJ.on rfl rfl (cB hb26) (YldS.yld (y_move rfl)) rfl ?_
          refine QJ.on rfl rfl (cB hb26) (YldS.yld (y_lenSh (k := 2) (j := 3) rfl rfl Try.runUnderlying24 rfl)) rfl ?_
          obtain ⟨r27, h28, h25⟩ := bindS h25
          refine QJ.on rfl rfl (cB hb26) (y_call Try.call9 rfl (RetG.quiet fun w hw => ok_w_a2Rises h28 w _ (hw.row_rd (k := 0) rfl))) rfl ?_
          refine QJ.on rfl rfl (cB hb26) (YldS.yld (y_not rfl)) rfl ?_
          refine QJ.step (YldS.yld (y_pick_f (cB hb26) rfl)) rfl ?_
          obtain rfl := Option.some.inj h25
          exact QJ.cut_end ⟨rfl, rfl, rfl, rfl, rfl, trivial⟩
      refine QJ.done ?_
      refine PJ.next ?_
      refine WJ.cond (t := t24) rfl (fun hb29 => ?_) (fun hb29 => ?_)
      · replace hm := ifT hm hb29
        refine WJ.seq ?_
        refine WJ.quiet ?_
        refine QJ.step (YldS.yld (y_assign rfl)) rfl ?_
        refine QJ.done ?_
        refine PJ.next ?_
        refine WJ.ret ?_
        refine PJ.then_ret ?_
        obtain rfl := Option.some.inj hm
        refine PJ.sel (L' := []) [] ⟨List.nodup_nil, rfl⟩ ?_
        exact PJ.retn (vs := [.bool false]) Try.results3 ⟨rfl, trivial⟩ ⟨rfl, rfl⟩
      · replace hm := ifF hm hb29
        refine WJ.skip ?_
        refine PJ.next ?_
        obtain ⟨kj30, hk31, hm⟩ := withK_open hm
        refine WJ.join (X := Unit) (fun (_ : Unit) => kj30  = some r) (fun (_ : Unit) => [(6, v16), (8, .int .i64 r17.2.1)]) (fun (_ : Unit) => [row v16 55 fSeen r14]) ?_ ?_
        · clear hk31
          refine WJ.seq ?_
          refine WJ.quiet ?_
          refine QJ.step (YldS.yld (y_assign rfl)) rfl ?_
          refine QJ.done ?_
          refine PJ.next ?_
          refine WJ.block ?_
          refine WJ.sel (L' := (fun (x : Int) => [row v19 2 fI64 r17.1, row v16 55 fSeen r14, row v12 36 fRaw2 vs13, ins shWriter 49 fTypeFault vs13 r10]) 0) [0, 1, 2, 3] ⟨by decide, rfl⟩ ?_
          refine WJ.sub (m' := (fun (x : Int) => [(5, v12), (6, v16), (7, v19), (8, .int .i64 r17.2.1), (10, .int .i64 x)]) 0) ⟨rfl, rfl, rfl, rfl, rfl, trivial⟩ ?_
          refine WJ.loop (X := Int) (fun N (x : Int) => w_FnWriters_l1 kj30 r10 r14 r17 N x = some r) (fun (x : Int) => [(5, v12), (6, v16), (7, v19), (8, .int .i64 r17.2.1), (10, .int .i64 x)]) (fun (x : Int) => [row v19 2 fI64 r17.1, row v16 55 fSeen r14, row v12 36 fRaw2 vs13, ins shWriter 49 fTypeFault vs13 r10]) ?_ N 0 hm
          · rintro N i32 hI
            have hm := hI; clear hI
            cases N with
            | zero => cases hm
            | succ N =>
            unfold w_FnWriters_l1 at hm
            refine WJ.seq ?_
            refine WJ.seq ?_
            refine WJ.quiet ?_
            refine QJ.step (YldS.yld (y_move rfl)) rfl ?_
            refine QJ.step (YldS.yld (y_move rfl)) rfl ?_
            refine QJ.step (YldS.yld (y_lenSh (k := 2) (j := 3) rfl rfl Try.runUnderlying24 rfl)) rfl ?_
            refine QJ.step (YldS.yld (y_bin rfl rfl rfl)) rfl ?_
            refine QJ.done ?_
            refine PJ.next ?_
            refine WJ.cond (t := decide (i32 < (List.length r10 : Int))) rfl (fun hb33 => ?_) (fun hb33 => ?_)
            · replace hm := ifT hm hb33
              refine WJ.skip ?_
              refine PJ.next ?_
              refine WJ.seq ?_
              refine WJ.block ?_
              refine WJ.seq ?_
              refine WJ.ins_len 3 rfl fun hl34 => ?_
              refine WJ.quiet ?_
              refine QJ.step (YldS.yld (y_move rfl)) rfl ?_
              refine QJ.step (YldS.yld (y_move rfl)) rfl ?_
              obtain ⟨e35, h36, hm⟩ := bindS hm
              obtain ⟨y37, hy38⟩ := inn_idx hl34.1 h36
              obtain hs39 := hl34.2 _ _ _ hy38 h36
              refine QJ.step (YldS.yld (y_ixRow (k := 2) (R := fRaw2) rfl Try.runUnderlying24 Try.sizeOf36 rfl rfl hy38)) rfl ?_
              refine QJ.step (YldS.yld (y_loadRN (k := 2) (i := (Int.toNat i32)) (off := 0) (us := [str e35.name, (shWriter.sl y37)]) rfl Try.isAgg36 Try.sizeOf36 rfl (idx_get hy38) (sh_cells hs39 rfl))) rfl ?_
              refine QJ.step (YldS.yld (y_move rfl)) rfl ?_
              obtain ⟨r40, h41, hm⟩ := bindS hm
              refine QJ.step (y_call Try.call10 rfl (RetG.quiet fun w hw => ok_i_ContradictionsOf h41 w _ (hw.ins_rd (k := 3) rfl rfl hy38 h36) _ (hw.row_rd (k := 1) rfl))) rfl ?_
              refine QJ.step (YldS.yld (y_move rfl)) rfl ?_
              refine QJ.step (YldS.yld (y_extract rfl rfl)) rfl ?_
              refine QJ.step (YldS.yld (y_extract rfl rfl)) rfl ?_
              refine QJ.step (YldS.yld (y_assign rfl)) rfl ?_
              refine QJ.step (YldS.yld (y_assign rfl)) rfl ?_
              refine QJ.done ?_
              refine PJ.next ?_
              refine WJ.seq ?_
              refine WJ.seq ?_
              refine WJ.quiet ?_
              refine QJ.step (YldS.yld (y_move rfl)) rfl ?_
              refine QJ.step (YldS.yld (y_bin rfl rfl rfl)) rfl ?_
              refine QJ.step (YldS.yld (y_move rfl)) rfl ?_
              obtain ⟨t42, h43, hm⟩ := bindS hm
              refine QJ.cut 4 [(5, v12), (6, v16), (7, v19), (8, .int .i64 r17.2.1), (10, .int .i64 i32), (11, .int .i64 r40.1), (75, .bool t42)] ?_ ?_
              · rcases Bool.eq_false_or_eq_true (r40.2 != 0) with hb44 | hb44
                · obtain rfl := orT h43 hb44
                  refine QJ.off rfl rfl (cB hb44) rfl rfl ?_
                  refine QJ.off rfl rfl (cB hb44) rfl rfl ?_
                  refine QJ.off rfl rfl (cB hb44) rfl rfl ?_
                  refine QJ.step (YldS.yld (y_pick_t (cB hb44) rfl)) rfl ?_
                  exact QJ.cut_end ⟨rfl, rfl, rfl, rfl, rfl, rfl, rfl, trivial⟩
                · replace h43 := orF h43 hb44
                  refine QJ.on rfl rfl (cB hb44) (YldS.yld (y_move rfl)) rfl ?_
                  refine QJ.on rfl rfl (cB hb44) (YldS.yld (y_move rfl)) rfl ?_
                  refine QJ.on rfl rfl (cB hb44) (YldS.yld (y_bin rfl rfl rfl)) rfl ?_
                  refine QJ.step (YldS.yld (y_pick_f (cB hb44) rfl)) rfl ?_
                  obtain rfl := Option.some.inj h43
                  exact QJ.cut_end ⟨rfl, rfl, rfl, rfl, rfl, rfl, rfl, trivial⟩
              refine QJ.step (YldS.yld (y_move rfl)) rfl ?_
              obtain ⟨t45, h46, hm⟩ := bindS hm
              refine QJ.cut 8 [(5, v12), (6, v16), (7, v19), (8, .int .i64 r17.2.1), (10, .int .i64 i32), (84, .bool t45)] ?_ ?_
              · rcases Bool.eq_false_or_eq_true t42 with hb47 | hb47
                · obtain rfl := orT h46 hb47
                  refine QJ.off rfl rfl (cB hb47) rfl rfl ?_
                  refine QJ.off rfl rfl (cB hb47) rfl rfl ?_
                  refine QJ.off rfl rfl (cB hb47) rfl rfl ?_
                  refine QJ.off rfl rfl (cB hb47) rfl rfl ?_
                  refine QJ.off rfl rfl (cB hb47) rfl rfl ?_
                  refine QJ.off rfl rfl (cB hb47) rfl rfl ?_
                  refine QJ.off rfl rfl (cB hb47) rfl rfl ?_
                  refine QJ.step (YldS.yld (y_pick_t (cB hb47) rfl)) rfl ?_
                  exact QJ.cut_end ⟨rfl, rfl, rfl, rfl, rfl, rfl, trivial⟩
                · replace h46 := orF h46 hb47
                  refine QJ.on rfl rfl (cB hb47) (YldS.yld (y_move rfl)) rfl ?_
                  refine QJ.on rfl rfl (cB hb47) (YldS.yld (y_move rfl)) rfl ?_
                  refine QJ.on rfl rfl (cB hb47) (YldS.yld (y_bin rfl rfl rfl)) rfl ?_
                  refine QJ.on rfl rfl (cB hb47) (YldS.yld (y_move rfl)) rfl ?_
                  refine QJ.on rfl rfl (cB hb47) (YldS.yld (y_move rfl)) rfl ?_
                  obtain ⟨r48, h49, h46⟩ := bindS h46
                  refine QJ.on rfl rfl (cB hb47) (y_call Try.call11 rfl (RetG.quiet fun w hw => ok_w_a2Has h49 w _ (hw.row_rd (k := 0) rfl))) rfl ?_
                  refine QJ.on rfl rfl (cB hb47) (YldS.yld (y_neB Try.underlying4 rfl rfl rfl)) rfl ?_
                  refine QJ.step (YldS.yld (y_pick_f (cB hb47) rfl)) rfl ?_
                  obtain rfl := Option.some.inj h46
                  exact QJ.cut_end ⟨rfl, rfl, rfl, rfl, rfl, rfl, trivial⟩
              refine QJ.done ?_
              refine PJ.next ?_
              refine WJ.cond (t := t45) rfl (fun hb50 => ?_) (fun hb50 => ?_)
              · replace hm := ifT hm hb50
                refine WJ.seq ?_
                refine WJ.quiet ?_
                refine QJ.step (YldS.yld (y_assign rfl)) rfl ?_
                refine QJ.done ?_
                refine PJ.next ?_
                refine WJ.ret ?_
                refine PJ.then_ret (PJ.block_ret (PJ.then_ret (PJ.then_ret (PJ.block_ret (PJ.then_ret ?_)))))
                obtain rfl := Option.some.inj hm
                refine PJ.sel (L' := []) [] ⟨List.nodup_nil, rfl⟩ ?_
                exact PJ.retn (vs := [.bool false]) Try.results3 ⟨rfl, trivial⟩ ⟨rfl, rfl⟩
              · replace hm := ifF hm hb50
                refine WJ.skip ?_
                refine PJ.next ?_
                refine WJ.seq ?_
                refine WJ.ins_len 3 rfl fun hl51 => ?_
                refine WJ.reg ?_
                refine SJ.q (YldS.yld (y_move rfl)) rfl ?_
                refine SJ.q (YldS.yld (y_move rfl)) rfl ?_
                obtain ⟨e52, h53, hm⟩ := bindS hm
                obtain ⟨y54, hy55⟩ := inn_idx hl51.1 h53
                obtain hs56 := hl51.2 _ _ _ hy55 h53
                refine SJ.q (YldS.yld (y_ixRow (k := 2) (R := fRaw2) rfl Try.runUnderlying24 Try.sizeOf36 rfl rfl hy55)) rfl ?_
                refine SJ.q (YldS.yld (y_loadRN (k := 2) (i := (Int.toNat i32)) (off := 0) (us := [str e52.name, (shWriter.sl y54)]) rfl Try.isAgg36 Try.sizeOf36 rfl (idx_get hy55) (sh_cells hs56 rfl))) rfl ?_
                obtain ⟨r57, h58, hm⟩ := bindS hm
                refine SJ.call Try.call12 rfl (fun w hw => ok_i_TypePage h58 w _ (hw.ins_rd (k := 3) rfl rfl hy55 h53)) rfl ?_
                rintro _ _ ⟨v59, rfl, rfl⟩
                refine SJ.q (YldS.yld (y_move rfl)) rfl ?_
                refine SJ.q (YldS.yld (y_extract rfl rfl)) rfl ?_
                refine SJ.q (YldS.yld (y_extract rfl rfl)) rfl ?_
                refine SJ.q (YldS.yld (y_assign rfl)) rfl ?_
                refine SJ.q (YldS.yld (y_assign rfl)) rfl ?_
                refine SJ.nil ?_
                refine PJ.next ?_
                refine WJ.seq ?_
                refine WJ.ins_len 4 rfl fun hl60 => ?_
                refine WJ.quiet ?_
                refine QJ.step (YldS.yld (y_move rfl)) rfl ?_
                refine QJ.step (YldS.yld (y_move rfl)) rfl ?_
                obtain ⟨e61, h62, hm⟩ := bindS hm
                obtain ⟨y63, hy64⟩ := inn_idx hl60.1 h62
                obtain hs65 := hl60.2 _ _ _ hy64 h62
                refine QJ.step (YldS.yld (y_ixRow (k := 3) (R := fRaw2) rfl Try.runUnderlying24 Try.sizeOf36 rfl rfl hy64)) rfl ?_
                refine QJ.step (YldS.yld (y_loadRN (k := 3) (i := (Int.toNat i32)) (off := 0) (us := [str e61.name, (shWriter.sl y63)]) rfl Try.isAgg36 Try.sizeOf36 rfl (idx_get hy64) (sh_cells hs65 rfl))) rfl ?_
                refine QJ.step (YldS.yld (y_move rfl)) rfl ?_
                obtain ⟨r66, h67, hm⟩ := bindS hm
                refine QJ.step (y_call Try.call10 rfl (RetG.quiet fun w hw => ok_i_ContradictionsOf h67 w _ (hw.ins_rd (k := 4) rfl rfl hy64 h62) _ (hw.row_rd (k := 0) rfl))) rfl ?_
                refine QJ.step (YldS.yld (y_move rfl)) rfl ?_
                refine QJ.step (YldS.yld (y_extract rfl rfl)) rfl ?_
                refine QJ.step (YldS.yld (y_extract rfl rfl)) rfl ?_
                refine QJ.step (YldS.yld (y_assign rfl)) rfl ?_
                refine QJ.step (YldS.yld (y_assign rfl)) rfl ?_
                refine QJ.done ?_
                refine PJ.next ?_
                refine WJ.seq ?_
                refine WJ.reg ?_
                refine SJ.q (YldS.yld (y_move rfl)) rfl ?_
                obtain ⟨r68, h69, hm⟩ := bindS hm
                refine SJ.call Try.call13 rfl (fun w hw => ok_i_ContraryLetters h69 w _ (hw.row_rd (k := 0) rfl)) rfl ?_
                rintro _ _ ⟨v70, rfl, rfl⟩
                refine SJ.q (YldS.yld (y_move rfl)) rfl ?_
                refine SJ.q (YldS.yld (y_extract rfl rfl)) rfl ?_
                refine SJ.q (YldS.yld (y_extract rfl rfl)) rfl ?_
                refine SJ.q (YldS.yld (y_assign rfl)) rfl ?_
                refine SJ.q (YldS.yld (y_assign rfl)) rfl ?_
                refine SJ.nil ?_
                refine PJ.next ?_
                refine WJ.seq ?_
                refine WJ.quiet ?_
                refine QJ.step (YldS.yld (y_move rfl)) rfl ?_
                refine QJ.step (YldS.yld (y_bin rfl rfl rfl)) rfl ?_
                refine QJ.step (YldS.yld (y_move rfl)) rfl ?_
                obtain ⟨t71, h72, hm⟩ := bindS hm
                refine QJ.cut 4 [(5, v12), (6, v16), (7, v19), (8, .int .i64 r17.2.1), (10, .int .i64 i32), (15, .int .i64 r66.1), (16, .int .i64 r66.2), (17, v70), (18, .int .i64 r68.2), (113, .bool t71)] ?_ ?_
                · rcases Bool.eq_false_or_eq_true (r57.2 != 0) with hb73 | hb73
                  · obtain rfl := orT h72 hb73
                    refine QJ.off rfl rfl (cB hb73) rfl rfl ?_
                    refine QJ.off rfl rfl (cB hb73) rfl rfl ?_
                    refine QJ.off rfl rfl (cB hb73) rfl rfl ?_
                    refine QJ.step (YldS.yld (y_pick_t (cB hb73) rfl)) rfl ?_
                    exact QJ.cut_end ⟨rfl, rfl, rfl, rfl, rfl, rfl, rfl, rfl, rfl, rfl, trivial⟩
                  · replace h72 := orF h72 hb73
                    refine QJ.on rfl rfl (cB hb73) (YldS.yld (y_move rfl)) rfl ?_
                    refine QJ.on rfl rfl (cB hb73) (YldS.yld (y_lenRow (k := 1) rfl Try.runUnderlying26 rfl)) rfl ?_
                    refine QJ.on rfl rfl (cB hb73) (YldS.yld (y_bin rfl rfl rfl)) rfl ?_
                    refine QJ.step (YldS.yld (y_pick_f (cB hb73) rfl)) rfl ?_
                    obtain rfl := Option.some.inj h72
                    exact QJ.cut_end ⟨rfl, rfl, rfl, rfl, rfl, rfl, rfl, rfl, rfl, rfl, trivial⟩
                refine QJ.step (YldS.yld (y_move rfl)) rfl ?_
                obtain ⟨t74, h75, hm⟩ := bindS hm
                refine QJ.cut 3 [(5, v12), (6, v16), (7, v19), (8, .int .i64 r17.2.1), (10, .int .i64 i32), (15, .int .i64 r66.1), (17, v70), (18, .int .i64 r68.2), (117, .bool t74)] ?_ ?_
                · rcases Bool.eq_false_or_eq_true t71 with hb76 | hb76
                  · obtain rfl := orT h75 hb76
                    refine QJ.off rfl rfl (cB hb76) rfl rfl ?_
                    refine QJ.off rfl rfl (cB hb76) rfl rfl ?_
                    refine QJ.step (YldS.yld (y_pick_t (cB hb76) rfl)) rfl ?_
                    exact QJ.cut_end ⟨rfl, rfl, rfl, rfl, rfl, rfl, rfl, rfl, rfl, trivial⟩
                  · replace h75 := orF h75 hb76
                    refine QJ.on rfl rfl (cB hb76) (YldS.yld (y_move rfl)) rfl ?_
                    refine QJ.on rfl rfl (cB hb76) (YldS.yld (y_bin rfl rfl rfl)) rfl ?_
                    refine QJ.step (YldS.yld (y_pick_f (cB hb76) rfl)) rfl ?_
                    obtain rfl := Option.some.inj h75
                    exact QJ.cut_end ⟨rfl, rfl, rfl, rfl, rfl, rfl, rfl, rfl, rfl, trivial⟩
                refine QJ.step (YldS.yld (y_move rfl)) rfl ?_
                obtain ⟨t77, h78, hm⟩ := bindS hm
                refine QJ.cut 3 [(5, v12), (6, v16), (7, v19), (8, .int .i64 r17.2.1), (10, .int .i64 i32), (17, v70), (18, .int .i64 r68.2), (121, .bool t77)] ?_ ?_
                · rcases Bool.eq_false_or_eq_true t74 with hb79 | hb79
                  · obtain rfl := orT h78 hb79
                    refine QJ.off rfl rfl (cB hb79) rfl rfl ?_
                    refine QJ.off rfl rfl (cB hb79) rfl rfl ?_
                    refine QJ.step (YldS.yld (y_pick_t (cB hb79) rfl)) rfl ?_
                    exact QJ.cut_end ⟨rfl, rfl, rfl, rfl, rfl, rfl, rfl, rfl, trivial⟩
                  · replace h78 := orF h78 hb79
                    refine QJ.on rfl rfl (cB hb79) (YldS.yld (y_move rfl)) rfl ?_
                    refine QJ.on rfl rfl (cB hb79) (YldS.yld (y_bin rfl rfl rfl)) rfl ?_
                    refine QJ.step (YldS.yld (y_pick_f (cB hb79) rfl)) rfl ?_
                    obtain rfl := Option.some.inj h78
                    exact QJ.cut_end ⟨rfl, rfl, rfl, rfl, rfl, rfl, rfl, rfl, trivial⟩
                refine QJ.step (YldS.yld (y_move rfl)) rfl ?_
                obtain ⟨t80, h81, hm⟩ := bindS hm
                refine QJ.cut 3 [(5, v12), (6, v16), (7, v19), (8, .int .i64 r17.2.1), (10, .int .i64 i32), (17, v70), (125, .bool t80)] ?_ ?_
                · rcases Bool.eq_false_or_eq_true t77 with hb82 | hb82
                  · obtain rfl := orT h81 hb82
                    refine QJ.off rfl rfl (cB hb82) rfl rfl ?_
                    refine QJ.off rfl rfl (cB hb82) rfl rfl ?_
                    refine QJ.step (YldS.yld (y_pick_t (cB hb82) rfl)) rfl ?_
                    exact QJ.cut_end ⟨rfl, rfl, rfl, rfl, rfl, rfl, rfl, trivial⟩
                  · replace h81 := orF h81 hb82
                    refine QJ.on rfl rfl (cB hb82) (YldS.yld (y_move rfl)) rfl ?_
                    refine QJ.on rfl rfl (cB hb82) (YldS.yld (y_bin rfl rfl rfl)) rfl ?_
                    refine QJ.step (YldS.yld (y_pick_f (cB hb82) rfl)) rfl ?_
                    obtain rfl := Option.some.inj h81
                    exact QJ.cut_end ⟨rfl, rfl, rfl, rfl, rfl, rfl, rfl, trivial⟩
                refine QJ.step (YldS.yld (y_move rfl)) rfl ?_
                obtain ⟨t83, h84, hm⟩ := bindS hm
                refine QJ.cut 4 [(5, v12), (6, v16), (7, v19), (8, .int .i64 r17.2.1), (10, .int .i64 i32), (130, .bool t83)] ?_ ?_
                · rcases Bool.eq_false_or_eq_true t80 with hb85 | hb85
                  · obtain rfl := orT h84 hb85
                    refine QJ.off rfl rfl (cB hb85) rfl rfl ?_
                    refine QJ.off rfl rfl (cB hb85) rfl rfl ?_
                    refine QJ.off rfl rfl (cB hb85) rfl rfl ?_
                    refine QJ.step (YldS.yld (y_pick_t (cB hb85) rfl)) rfl ?_
                    exact QJ.cut_end ⟨rfl, rfl, rfl, rfl, rfl, rfl, trivial⟩
                  · replace h84 := orF h84 hb85
                    refine QJ.on rfl rfl (cB hb85) (YldS.yld (y_move rfl)) rfl ?_
                    refine QJ.on rfl rfl (cB hb85) (YldS.yld (y_lenRow (k := 0) rfl Try.runUnderlying39 rfl)) rfl ?_
                    refine QJ.on rfl rfl (cB hb85) (YldS.yld (y_bin rfl rfl rfl)) rfl ?_
                    refine QJ.step (YldS.yld (y_pick_f (cB hb85) rfl)) rfl ?_
                    obtain rfl := Option.some.inj h84
                    exact QJ.cut_end ⟨rfl, rfl, rfl, rfl, rfl, rfl, trivial⟩
                refine QJ.done ?_
                refine PJ.next ?_
                refine WJ.cond (t := t83) rfl (fun hb86 => ?_) (fun hb86 => ?_)
                · replace hm := ifT hm hb86
                  refine WJ.seq ?_
                  refine WJ.quiet ?_
                  refine QJ.step (YldS.yld (y_assign rfl)) rfl ?_
                  refine QJ.done ?_
                  refine PJ.next ?_
                  refine WJ.ret ?_
                  refine PJ.block_ret (PJ.then_ret (PJ.then_ret (PJ.block_ret (PJ.then_ret ?_))))
                  obtain rfl := Option.some.inj hm
                  refine PJ.sel (L' := []) [] ⟨List.nodup_nil, rfl⟩ ?_
                  exact PJ.retn (vs := [.bool false]) Try.results3 ⟨rfl, trivial⟩ ⟨rfl, rfl⟩
                · replace hm := ifF hm hb86
                  refine WJ.skip ?_
                  refine PJ.block_normal (PJ.next ?_)
                  refine WJ.quiet ?_
                  refine QJ.step (YldS.yld (y_move rfl)) rfl ?_
                  refine QJ.step (YldS.yld (y_bin rfl rfl rfl)) rfl ?_
                  refine QJ.step (YldS.yld (y_assign rfl)) rfl ?_
                  refine QJ.done ?_
                  exact PJ.round (w64 (i32 + 1)) [2, 3, 4, 5] hm ⟨rfl, rfl, rfl, rfl, rfl, trivial⟩ ⟨by decide, rfl⟩
            · replace hm := ifF hm hb33
              refine WJ.exit ?_
              refine PJ.then_exit (PJ.then_exit (PJ.block_exit ?_))
              exact PJ.joined () [1] hm ⟨rfl, rfl, trivial⟩ ⟨by decide, rfl⟩
        · rintro _ hm
          subst hk31
          refine WJ.seq ?_
          refine WJ.reg ?_
          refine SJ.q (YldS.yld (y_move rfl)) rfl ?_
          obtain ⟨r87, h88, hm⟩ := bindS hm
          refine SJ.call Try.call13 rfl (fun w hw => ok_i_ContraryLetters h88 w _ (hw.row_rd (k := 0) rfl)) rfl ?_
          rintro _ _ ⟨v89, rfl, rfl⟩
          refine SJ.q (YldS.yld (y_move rfl)) rfl ?_
          refine SJ.q (YldS.yld (y_extract rfl rfl)) rfl ?_
          refine SJ.q (YldS.yld (y_extract rfl rfl)) rfl ?_
          refine SJ.q (YldS.yld (y_assign rfl)) rfl ?_
          refine SJ.q (YldS.yld (y_assign rfl)) rfl ?_
          refine SJ.nil ?_
          refine PJ.next ?_
          refine WJ.seq ?_
          refine WJ.quiet ?_
          refine QJ.step (YldS.yld (y_move rfl)) rfl ?_
          refine QJ.step (YldS.yld (y_bin rfl rfl rfl)) rfl ?_
          refine QJ.step (YldS.yld (y_move rfl)) rfl ?_
          obtain ⟨t90, h91, hm⟩ := bindS hm
          refine QJ.cut 5 [(8, .int .i64 r17.2.1), (19, v89), (20, .int .i64 r87.2), (143, .bool t90)] ?_ ?_
          · rcases Bool.eq_false_or_eq_true (r87.2 == 0) with hb92 | hb92
            · replace h91 := andT h91 hb92
              refine QJ.on rfl rfl (cB hb92) (YldS.yld (y_move rfl)) rfl ?_
              refine QJ.on rfl rfl (cB hb92) (YldS.yld (y_lenRow (k := 0) rfl Try.runUnderlying39 rfl)) rfl ?_
              refine QJ.on rfl rfl (cB hb92) (YldS.yld (y_move rfl)) rfl ?_
              refine QJ.on rfl rfl (cB hb92) (YldS.yld (y_bin rfl rfl rfl)) rfl ?_
              refine QJ.step (YldS.yld (y_pick_t (cB hb92) rfl)) rfl ?_
              obtain rfl := Option.some.inj h91
              exact QJ.cut_end ⟨rfl, rfl, rfl, rfl, trivial⟩
            · obtain rfl := andF h91 hb92
              refine QJ.off rfl rfl (cB hb92) rfl rfl ?_
              refine QJ.off rfl rfl (cB hb92) rfl rfl ?_
              refine QJ.off rfl rfl (cB hb92) rfl rfl ?_
              refine QJ.off rfl rfl (cB hb92) rfl rfl ?_
              refine QJ.step (YldS.yld (y_pick_f (cB hb92) rfl)) rfl ?_
              exact QJ.cut_end ⟨rfl, rfl, rfl, rfl, trivial⟩
          refine QJ.step (YldS.yld (y_move rfl)) rfl ?_
          obtain ⟨t93, h94, hm⟩ := bindS hm
          refine QJ.cut 12 [(156, .bool t93)] ?_ ?_
          · rcases Bool.eq_false_or_eq_true t90 with hb95 | hb95
            · obtain rfl := orT h94 hb95
              refine QJ.off rfl rfl (cB hb95) rfl rfl ?_
              refine QJ.off rfl rfl (cB hb95) rfl rfl ?_
              refine QJ.off rfl rfl (cB hb95) rfl rfl ?_
              refine QJ.off_undef rfl rfl rfl rfl ?_
              refine QJ.off_undef rfl rfl rfl rfl ?_
              refine QJ.off rfl rfl (cB hb95) rfl rfl ?_
              refine QJ.off rfl rfl (cB hb95) rfl rfl ?_
              refine QJ.off_undef rfl rfl rfl rfl ?_
              refine QJ.off_undef rfl rfl rfl rfl ?_
              refine QJ.off_undef rfl rfl rfl rfl ?_
              refine QJ.off rfl rfl (cB hb95) rfl rfl ?_
              refine QJ.step (YldS.yld (y_pick_t (cB hb95) rfl)) rfl ?_
              exact QJ.cut_end ⟨rfl, trivial⟩
            · replace h94 := orF h94 hb95
              refine QJ.on rfl rfl (cB hb95) (YldS.yld (y_move rfl)) rfl ?_
              refine QJ.on rfl rfl (cB hb95) (YldS.yld (y_bin rfl rfl rfl)) rfl ?_
              refine QJ.on rfl rfl (cB hb95) (YldS.yld (y_move rfl)) rfl ?_
              obtain ⟨t96, h97, h94⟩ := bindS h94
              refine QJ.cut 3 [(19, v89), (144, .bool t90), (150, .bool t96)] ?_ ?_
              · rcases Bool.eq_false_or_eq_true (r87.2 == 0) with hb98 | hb98
                · replace h97 := andT h97 hb98
                  refine QJ.on rfl rfl (cB hb98) (YldS.yld (y_move rfl)) rfl ?_
                  refine QJ.on rfl rfl (cB hb98) (YldS.yld (y_bin rfl rfl rfl)) rfl ?_
                  refine QJ.on rfl rfl (cB hb95) (YldS.yld (y_pick_t (cB hb98) rfl)) rfl ?_
                  obtain rfl := Option.some.inj h97
                  exact QJ.cut_end ⟨rfl, rfl, rfl, trivial⟩
                · obtain rfl := andF h97 hb98
                  refine QJ.off rfl rfl (cB hb98) rfl rfl ?_
                  refine QJ.off rfl rfl (cB hb98) rfl rfl ?_
                  refine QJ.on rfl rfl (cB hb95) (YldS.yld (y_pick_f (cB hb98) rfl)) rfl ?_
                  exact QJ.cut_end ⟨rfl, rfl, rfl, trivial⟩
              refine QJ.on rfl rfl (cB hb95) (YldS.yld (y_move rfl)) rfl ?_
              obtain ⟨t99, h100, h94⟩ := bindS h94
              refine QJ.cut 4 [(144, .bool t90), (155, .bool t99)] ?_ ?_
              · rcases Bool.eq_false_or_eq_true t96 with hb101 | hb101
                · replace h100 := andT h100 hb101
                  refine QJ.on rfl rfl (cB hb101) (YldS.yld (y_move rfl)) rfl ?_
                  refine QJ.on rfl rfl (cB hb101) (YldS.yld (y_lenRow (k := 0) rfl Try.runUnderlying39 rfl)) rfl ?_
                  refine QJ.on rfl rfl (cB hb101) (YldS.yld (y_bin rfl rfl rfl)) rfl ?_
                  refine QJ.on rfl rfl (cB hb95) (YldS.yld (y_pick_t (cB hb101) rfl)) rfl ?_
                  obtain rfl := Option.some.inj h100
                  exact QJ.cut_end ⟨rfl, rfl, trivial⟩
                · obtain rfl := andF h100 hb101
                  refine QJ.off rfl rfl (cB hb101) rfl rfl ?_
                  refine QJ.off rfl rfl (cB hb101) rfl rfl ?_
                  refine QJ.off rfl rfl (cB hb101) rfl rfl ?_
                  refine QJ.on rfl rfl (cB hb95) (YldS.yld (y_pick_f (cB hb101) rfl)) rfl ?_
                  exact QJ.cut_end ⟨rfl, rfl, trivial⟩
              refine QJ.step (YldS.yld (y_pick_f (cB hb95) rfl)) rfl ?_
              obtain rfl := Option.some.inj h94
              exact QJ.cut_end ⟨rfl, trivial⟩
          refine QJ.step (YldS.yld (y_assign rfl)) rfl ?_
          refine QJ.done ?_
          refine PJ.next ?_
          refine WJ.ret ?_
          obtain rfl := Option.some.inj hm
          refine PJ.sel (L' := []) [] ⟨List.nodup_nil, rfl⟩ ?_
          exact PJ.retn (vs := [.bool t93]) Try.results3 ⟨rfl, trivial⟩ ⟨rfl, rfl⟩

end Go.Proofs.Ytdmnblhhmjbhnaa
