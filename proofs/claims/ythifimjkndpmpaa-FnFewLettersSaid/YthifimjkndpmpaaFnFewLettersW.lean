/-
  The walks: a call hands back what its plain function computes, where that has a value. No other conditions.
-/
import Derived.Test.YthifimjkndpmpaaFnFewLettersM
import Derived.Test.YthifimjkndpmpaaChecked
import Derived.Test.YthifimjkndpmpaaFnFewLettersS
namespace Go.Proofs.Ythifimjkndpmpaa
open Go.RowKit Go.Proofs
set_option linter.unusedVariables false
set_option linter.unusedSimpArgs false

variable {α : Type}
theorem follows : Try.prog.follows .mixedOrders = true := by kernel_rfl

def TypeFault.enc (x : TypeFault) : List Value := [str x.letter, .int .i64 x.kind]
def fTypeFault : FRp TypeFault := ⟨2, TypeFault.enc, fun _ => rfl, by decide, fun x u hu => by
  simp only [TypeFault.enc, List.mem_cons, List.not_mem_nil, or_false] at hu
  rcases hu with rfl | rfl <;> rfl⟩

def shWriter : Sh Writer TypeFault 2 := ⟨fun v x => [str x.name, v], fun x => x.faults, 1, fun _ _ => rfl, fun _ _ => rfl, fun v x hv u hu => by
  simp only [List.mem_cons, List.not_mem_nil, or_false] at hu
  rcases hu with rfl | rfl <;> first | rfl | exact hv, by decide⟩

def shL00Src : Sh L00Src UInt8 3 := ⟨fun v x => [v, .int .i64 x.at_, .int .u64 x.seed], fun x => x.code, 0, fun _ _ => rfl, fun _ _ => rfl, fun v x hv u hu => by
  simp only [List.mem_cons, List.not_mem_nil, or_false] at hu
  rcases hu with rfl | rfl | rfl <;> first | rfl | exact hv, by decide⟩

theorem pl63 : PlacesOk Try.prog 63 [(0, 1), (1, 1), (2, 1)] := ⟨_, Try.runUnderlying63, fun w => by simp [Try.sizeOf3, Try.sizeOf22, Try.sizeOf61]⟩
abbrev fRaw2 : FRp (Raw 2) := fRaw 2 (by decide)
theorem fld63_1 : FieldOk Try.prog 63 1 1 3 0 := ⟨_, _, Try.runUnderlying63, rfl, rfl, rfl, Try.sizeOf3⟩
theorem fld63_0 : FieldOk Try.prog 63 0 0 22 0 := ⟨_, _, Try.runUnderlying63, rfl, rfl, rfl, Try.sizeOf22⟩
theorem fld63_2 : FieldOk Try.prog 63 2 2 61 0 := ⟨_, _, Try.runUnderlying63, rfl, rfl, rfl, Try.sizeOf61⟩
theorem pl34 : PlacesOk Try.prog 34 [(0, 1), (1, 1)] := ⟨_, Try.runUnderlying34, fun w => by simp [Try.sizeOf9, Try.sizeOf29]⟩
theorem fld34_1 : FieldOk Try.prog 34 1 1 29 0 := ⟨_, _, Try.runUnderlying34, rfl, rfl, rfl, Try.sizeOf29⟩
theorem pl39 : PlacesOk Try.prog 39 [(0, 1), (1, 1)] := ⟨_, Try.runUnderlying39, fun w => by simp [Try.sizeOf2, Try.sizeOf9]⟩
set_option maxRecDepth 100000 in
theorem el39 : ElemOk Try.prog 39 2 (fTypeFault.enc (TypeFault.mk [] 0)) := ⟨_, _, Try.type39, rfl, rfl, rfl, by decide⟩
set_option maxRecDepth 100000 in
theorem el34 : ElemOk Try.prog 34 2 (shWriter.enc (.slice none 0 0) (Writer.mk [] [])) := ⟨_, _, Try.type34, rfl, rfl, rfl, by decide⟩
theorem fld34_0 : FieldOk Try.prog 34 0 0 9 0 := ⟨_, _, Try.runUnderlying34, rfl, rfl, rfl, Try.sizeOf9⟩
theorem fld39_0 : FieldOk Try.prog 39 0 0 9 0 := ⟨_, _, Try.runUnderlying39, rfl, rfl, rfl, Try.sizeOf9⟩
theorem fld39_1 : FieldOk Try.prog 39 1 1 2 0 := ⟨_, _, Try.runUnderlying39, rfl, rfl, rfl, Try.sizeOf2⟩
set_option maxRecDepth 100000 in
theorem zv44 : ∀ w, (zeroValue 44).run Try.prog w = .ok (.agg (List.toArray (encs fBool (List.replicate 256 false)))) w := fun w => by
  rw [Try.zeroValue44]
  refine congrArg (fun z => Result.ok (Value.agg z) w) ?_
  kernel_rfl
abbrev fAr44 : FRp (List Bool) := fArr 256 fBool false (by decide)
set_option maxRecDepth 100000 in
theorem el5 : ElemOk Try.prog 5 1 (fByte.enc 0) := ⟨_, _, Try.type5, rfl, rfl, rfl, by decide⟩
set_option maxRecDepth 100000 in
theorem el44 : ElemB Try.prog 44 256 (fAr44.enc []) := ⟨_, _, Try.type44, rfl, by kernel_rfl, by kernel_rfl, by decide⟩
set_option maxRecDepth 100000 in
theorem el3 : ElemOk Try.prog 3 1 (fI64.enc 0) := ⟨_, _, Try.type3, rfl, rfl, rfl, by decide⟩
set_option maxRecDepth 100000 in
theorem el9 : ElemOk Try.prog 9 1 (fStr.enc []) := ⟨_, _, Try.type9, rfl, rfl, rfl, by decide⟩
def kf39 (x : TypeFault) : Value := .agg (List.toArray (TypeFault.enc x))
theorem eq39 : EqOk Try.prog 39 TypeFault.enc TypeFault.beq := ⟨Try.eqGuardType39, fun x y w => by
  have hf : Try.prog.fieldsOf 39 = #[{ name := "Letter", type := 9, offset := 0, embedded := false, tag := "", pkgPath := "", byteOffset := 0 }, { name := "Kind", type := 2, offset := 1, embedded := false, tag := "", pkgPath := "", byteOffset := 16 }] := by kernel_rfl
  have ht : Try.prog.underlying 39 = some (.struct (Try.prog.fieldsOf 39)) := by rw [hf]; exact Try.underlying39
  rw [run_equalIn_struct w 9999 39 _ _ ht Try.stoodInHeld39, hf]
  obtain ⟨a0, a1⟩ := x
  obtain ⟨b0, b1⟩ := y
  simp only [Op.eqFields, TypeFault.enc, TypeFault.beq]
  simp [part, str, Try.isAgg2, Try.isAgg9, run_equalIn_int _ _ _ _ _ _ _ Try.underlying2, run_equalIn_string _ _ _ _ _ Try.underlying9, ByteArray.toList_eq]
  (repeat' split) <;> simp_all⟩
set_option maxRecDepth 100000 in
theorem keyP39 : KeyP Try.prog 39 kf39 TypeFault.beq := by
  have hf : Try.prog.fieldsOf 39 = #[{ name := "Letter", type := 9, offset := 0, embedded := false, tag := "", pkgPath := "", byteOffset := 0 }, { name := "Kind", type := 2, offset := 1, embedded := false, tag := "", pkgPath := "", byteOffset := 16 }] := by kernel_rfl
  have ht : Try.prog.underlying 39 = some (.struct (Try.prog.fieldsOf 39)) := by rw [hf]; exact Try.underlying39
  rw [hf] at ht
  refine ⟨fun e k w => ?_, ⟨_, ht, fun a b => rfl⟩, fun a b w => ?_, fun a b h => ?_, fun a => ?_, fun a w => ?_⟩
  · obtain ⟨a0, a1⟩ := k
    have h0 : ∀ q : Nat, (Instr.checkKey e (q + 2) 39 (kf39 ⟨a0, a1⟩)).run Try.prog w = .ok () w := fun q => by
      simp [Instr.checkKey, run_underlying ht, kf39, TypeFault.enc, part, str, run_underlying Try.underlying2, run_underlying Try.underlying9, Try.isAgg2, Try.isAgg9]
    exact h0 9998
  · exact eq39.2 a b w
  · obtain ⟨a0, a1⟩ := a
    obtain ⟨b0, b1⟩ := b
    simp only [TypeFault.beq, Bool.and_eq_true, beq_iff_eq] at h
    simp only [TypeFault.mk.injEq]
    exact h
  · simp [TypeFault.beq]
  · obtain ⟨a0, a1⟩ := a
    have hb : ∀ s : Str, ((⟨s.toArray⟩ : ByteArray) == ⟨s.toArray⟩) = true := fun s => by rw [beq_toListBytes]; simp
    have h0 : ∀ q : Nat, Instr.sameBits (q + 2) (kf39 ⟨a0, a1⟩) (kf39 ⟨a0, a1⟩) = true := fun q => by simp [Instr.sameBits, kf39, TypeFault.enc, str, hb]
    have hs := h0 9998
    unfold Instr.keyThatStays
    rw [if_pos hs]
    rfl

theorem fld77_0 : FieldOk Try.prog 77 0 0 54 0 := ⟨_, _, Try.runUnderlying77, rfl, rfl, rfl, Try.sizeOf54⟩
theorem fld77_1 : FieldOk Try.prog 77 1 1 70 0 := ⟨_, _, Try.runUnderlying77, rfl, rfl, rfl, Try.sizeOf70⟩
set_option maxRecDepth 100000 in
open Go.RowKit Go.Lib Go.Sort Go.Proofs in
theorem sortP18_29 : SortP Try.prog 18 30 29 fTypeFault := by
  refine ⟨Try.call18, fun p n c lf la lb w hn => ?_, fun blk n c h2 hl => ?_⟩
  · have h := fun f hf => Any.sort_Slice_tiny Try.laysGg6 29 39 _ _ Try.type29 rfl (by kernel_rfl) Try.type39 25 (fun _ => by kernel_rfl) p n c hn f hf lf la lb w
    match n, hn with
    | 0, _ => exact h 36 (by kernel_rfl)
    | 1, _ => exact h 37 (by kernel_rfl)
  · have hk : ∀ ie : TypeInfo, ie.hasPointers = true → ie.bytes = 24 → Lib.swapperK n ie 25 = 9 := fun ie a b => by
      have c1 : (n == 0) = false := by rw [beq_eq_false_iff_ne]; omega
      have c2 : (n == 1) = false := by rw [beq_eq_false_iff_ne]; omega
      simp [Lib.swapperK, a, b, c1, c2]
    have hx := fun args W => run_callFunc_extern Try.func44 (by kernel_rfl) (by kernel_rfl) (by kernel_rfl) (e := Extern.ReflectliteSwapper.swap false) (by kernel_rfl) args W
    refine ⟨44, #[.slice (some ⟨blk, 0, none⟩) n c, typeHandle Try.prog 39], fun i j x y w hi hj cx cy fx fy => ?_, fun lf la lb w T hp => ?_⟩
    · have h3 := run_swap_cells (P := Try.prog) false 39 _ Try.type39 Try.isAgg39 blk 0 n c i j hi hj (fTypeFault.enc x) (fTypeFault.enc y) (fTypeFault.len x) (fTypeFault.len y) (fTypeFault.one x) (fTypeFault.one y) w (fun k v hv => by have h := cx k v hv; rw [Nat.zero_add]; exact h) (fun k v hv => by have h := cy k v hv; rw [Nat.zero_add]; exact h) (fun k hk => by have h := fx k hk; rw [Nat.zero_add]; exact h) (fun k hk => by have h := fy k hk; rw [Nat.zero_add]; exact h)
      rw [hx, show (#[Value.int .i64 (i : Int), Value.int .i64 (j : Int)] ++ #[Value.slice (some ⟨blk, 0, none⟩) n c, typeHandle Try.prog 39]) = #[.int .i64 i, .int .i64 j, .slice (some ⟨blk, 0, none⟩) n c, typeHandle Try.prog 39] from rfl, h3]
      simp only [Nat.zero_add]
      rfl
    · refine Any.sort_Slice_of_pdq Try.laysGg6 29 39 _ _ Try.type29 rfl (by kernel_rfl) Try.type39 25 (fun _ => by kernel_rfl) (some ⟨blk, 0, none⟩) n c hl 44 (by rw [hk _ rfl rfl]; kernel_rfl) lf la lb w T ?_
      have hB : ¬ Lib.swapperK n Try.t39 25 ≤ 2 := by rw [hk _ rfl rfl]; decide
      unfold sliceBound
      rw [if_neg hB]
      have hba : ∀ f x : Nat, Lib.bitLenAux f x = bitLA f x := fun f => by
        induction f with
        | zero => intro x; rfl
        | succ f ih => intro x; simp only [Lib.bitLenAux, bitLA, ih]
      have hbl : Lib.bitLen n = bitL n := hba 64 n
      rw [hbl]
      have hs : Same w (sliceWorld Try.prog Try.laysGg6_ren 29 (some ⟨blk, 0, none⟩) n c w) := (Same.alloc _ _).trans (Same.alloc _ _)
      exact hp _ hs


set_option maxRecDepth 100000 in
set_option maxHeartbeats 1000000 in
theorem ok_w_a2Long {code1 : List UInt8} {more4 : List UInt8} {r : Bool} (hm : w_a2Long code1 more4 = some r) (w : World) (v2 : Value) (hr3 : RdS w (cx w).Fz v2 fByte.rp code1) (v5 : Value) (hr6 : RdS w (cx w).Fz v5 fByte.rp more4) :
    Calls Try.prog 4 #[v2, v5] w (Ret (cx w) (.bool r)) := by
  unfold w_a2Long at hm
  refine Calls.enter [v2, v5] Try.func4 rfl Try.ntmps4 rfl ?_
  refine WJ.seq ?_
  refine WJ.quiet ?_
  refine QJ.step (YldS.yld (y_assign rfl)) rfl ?_
  refine QJ.done ?_
  refine PJ.next ?_
  refine WJ.seq ?_
  refine WJ.quiet ?_
  refine QJ.step (YldS.yld (y_move rfl)) rfl ?_
  refine QJ.step (YldS.yld (y_lenS Try.runUnderlying22 hr3 rfl)) rfl ?_
  refine QJ.step (YldS.yld (y_bin rfl rfl rfl)) rfl ?_
  refine QJ.step (YldS.yld (y_move rfl)) rfl ?_
  obtain ⟨t7, h8, hm⟩ := bindS hm
  refine QJ.cut 4 [(12, .bool t7)] ?_ ?_
  · rcases Bool.eq_false_or_eq_true (decide ((List.length code1 : Int) > 3000)) with hb9 | hb9
    · obtain rfl := orT h8 hb9
      refine QJ.off rfl rfl (cB hb9) rfl rfl ?_
      refine QJ.off rfl rfl (cB hb9) rfl rfl ?_
      refine QJ.off rfl rfl (cB hb9) rfl rfl ?_
      refine QJ.step (YldS.yld (y_pick_t (cB hb9) rfl)) rfl ?_
      exact QJ.cut_end ⟨rfl, trivial⟩
    · replace h8 := orF h8 hb9
      refine QJ.on rfl rfl (cB hb9) (YldS.yld (y_move rfl)) rfl ?_
      refine QJ.on rfl rfl (cB hb9) (YldS.yld (y_lenS Try.runUnderlying22 hr6 rfl)) rfl ?_
      refine QJ.on rfl rfl (cB hb9) (YldS.yld (y_bin rfl rfl rfl)) rfl ?_
      refine QJ.step (YldS.yld (y_pick_f (cB hb9) rfl)) rfl ?_
      obtain rfl := Option.some.inj h8
      exact QJ.cut_end ⟨rfl, trivial⟩
  refine QJ.step (YldS.yld (y_assign rfl)) rfl ?_
  refine QJ.done ?_
  refine PJ.next ?_
  refine WJ.ret ?_
  obtain rfl := Option.some.inj hm
  refine PJ.sel (L' := []) [] ⟨List.nodup_nil, rfl⟩ ?_
  exact PJ.retn (vs := [.bool t7]) Try.results4 ⟨rfl, trivial⟩ ⟨rfl, rfl⟩

set_option maxRecDepth 100000 in
set_option maxHeartbeats 1000000 in
theorem ok_s_l00From {code1 : List UInt8} {r : L00Src} (hm : s_l00From code1 = some r) (w : World) (v2 : Value) (hr3 : RdS w (cx w).Fz v2 fByte.rp code1) :
    Calls Try.prog 12 #[v2] w (RetG (cx w) fun u L => ∃ (u1 : Nat), (u = pt u1 0 ∧ L = [box u1 63 [v2, .int .i64 r.at_, .int .u64 r.seed]])) := by
  unfold s_l00From at hm
  refine Calls.enter [v2] Try.func12 rfl Try.ntmps12 rfl ?_
  refine WJ.seq ?_
  refine WJ.quiet ?_
  refine QJ.step (YldS.yld (y_assign rfl)) rfl ?_
  refine QJ.done ?_
  refine PJ.next ?_
  refine WJ.seq ?_
  refine WJ.reg ?_
  refine SJ.q (YldS.yld (y_move rfl)) rfl ?_
  refine SJ.q (YldS.yld (y_build (parts := [(0, .tmp 3)]) (places := [(0, 1), (1, 1), (2, 1)]) (r := [v2, .int .i64 0, .int .u64 0]) pl63 Try.zeroValue63 rfl rfl (show _ = [(0, [v2])] from by simp only [List.map, RdS.cells1 hr3]) rfl)) rfl ?_
  refine SJ.box (cs := [v2, .int .i64 0, .int .u64 0]) rfl rfl rfl fun g4 => ?_
  refine SJ.q (YldS.yld (y_assign rfl)) rfl ?_
  refine SJ.nil ?_
  refine PJ.next ?_
  refine WJ.ret ?_
  obtain rfl := Option.some.inj hm
  refine PJ.sel (L' := [box g4 63 [v2, .int .i64 0, .int .u64 0]]) [0] ⟨by decide, rfl⟩ ?_
  exact PJ.retn (vs := [pt g4 0]) Try.results12 ⟨rfl, trivial⟩ ⟨_, rfl, rfl⟩

set_option maxRecDepth 100000 in
set_option maxHeartbeats 1000000 in
theorem ok_s_l00Src_next {s1 : L00Src} {g2 : Nat} {r : Int × L00Src} (hm : s_l00Src_next s1 = some r) (w : World) (S : Nat → Prop) (v3 : Value) (hr4 : RdS w (Cx.Fz ⟨w, S⟩) v3 fByte.rp s1.code) (hA : (box g2 63 [v3, .int .i64 s1.at_, .int .u64 s1.seed]).holds w S) :
    Calls Try.prog 34 #[pt g2 0] w (RetG ⟨w, S⟩ fun u L => (u = .int .i64 r.1 ∧ L = [box g2 63 [v3, .int .i64 r.2.at_, .int .u64 r.2.seed]])) := by
  unfold s_l00Src_next at hm
  refine Calls.enter1 hA [pt g2 0] Try.func34 rfl Try.ntmps34 rfl ?_
  refine WJ.seq ?_
  refine WJ.quiet ?_
  refine QJ.step (YldS.yld (y_assign rfl)) rfl ?_
  refine QJ.done ?_
  refine PJ.next ?_
  refine WJ.seq ?_
  refine WJ.quiet ?_
  refine QJ.step (YldS.yld (y_assign rfl)) rfl ?_
  refine QJ.done ?_
  refine PJ.next ?_
  obtain ⟨kj6, hk7, hm⟩ := withK_open hm
  refine WJ.join (X := Int) (fun (x : Int) => kj6 x = some r) (fun (x : Int) => [(0, pt g2 0), (3, .int .i64 x)]) (fun (x : Int) => [box g2 63 [v3, .int .i64 s1.at_, .int .u64 s1.seed]]) ?_ ?_
  · clear hk7
    refine WJ.seq ?_
    refine WJ.quiet_draw follows (by kernel_rfl) ?_
    refine QJ.step (YldS.yld (y_move rfl)) rfl ?_
    refine QJ.step (YldS.yld (y_nil rfl)) rfl ?_
    refine QJ.step (YldS.yld (y_fldB (o := 0) fld63_1 rfl)) rfl ?_
    refine QJ.step (YldS.yld (y_loadB (k := 0) (off := 1) (v := .int .i64 s1.at_) rfl Try.isAgg3 rfl rfl)) rfl ?_
    refine QJ.step (YldS.yld (y_move rfl)) rfl ?_
    refine QJ.step (YldS.yld (y_nil rfl)) rfl ?_
    refine QJ.step (YldS.yld (y_fldB (o := 0) fld63_0 rfl)) rfl ?_
    refine QJ.step (YldS.yld (y_loadB (k := 0) (off := 0) (v := v3) rfl Try.isAgg22 rfl rfl)) rfl ?_
    refine QJ.step (YldS.yld (y_lenS Try.runUnderlying22 hr4 rfl)) rfl ?_
    refine QJ.step (YldS.yld (y_bin rfl rfl rfl)) rfl ?_
    refine QJ.done ?_
    refine PJ.next ?_
    refine WJ.cond (t := decide (s1.at_ < (List.length s1.code : Int))) rfl (fun hb8 => ?_) (fun hb8 => ?_)
    · replace hm := ifT hm hb8
      refine WJ.quiet_draw follows (by kernel_rfl) ?_
      refine QJ.step (YldS.yld (y_move rfl)) rfl ?_
      refine QJ.step (YldS.yld (y_nil rfl)) rfl ?_
      refine QJ.step (YldS.yld (y_fldB (o := 0) fld63_0 rfl)) rfl ?_
      refine QJ.step (YldS.yld (y_loadB (k := 0) (off := 0) (v := v3) rfl Try.isAgg22 rfl rfl)) rfl ?_
      refine QJ.step (YldS.yld (y_move rfl)) rfl ?_
      refine QJ.step (YldS.yld (y_nil rfl)) rfl ?_
      refine QJ.step (YldS.yld (y_fldB (o := 0) fld63_1 rfl)) rfl ?_
      refine QJ.step (YldS.yld (y_loadB (k := 0) (off := 1) (v := .int .i64 s1.at_) rfl Try.isAgg3 rfl rfl)) rfl ?_
      obtain ⟨e9, h10, hm⟩ := bindS hm
      obtain ⟨ad11, _, rfl, ha12, hy13⟩ := hr4.elem h10
      refine QJ.step (YldS.yld (hy13 Try.runUnderlying22 Try.sizeOf5 rfl rfl)) rfl ?_
      refine QJ.step (YldS.yld (y_load1 (v := .int .u8 (UInt8.toNat e9 : Int)) Try.isAgg5 ha12 St.frozenC rfl)) rfl ?_
      refine QJ.step (YldS.yld (y_conv8 Try.runUnderlying5 Try.runUnderlying3 rfl)) rfl ?_
      refine QJ.step (YldS.yld (y_assign rfl)) rfl ?_
      refine QJ.done ?_
      exact PJ.joined (UInt8.toNat e9 : Int) [0] hm ⟨rfl, rfl, trivial⟩ ⟨by decide, rfl⟩
    · replace hm := ifF hm hb8
      refine WJ.skip ?_
      exact PJ.joined 0 [0] hm ⟨rfl, rfl, trivial⟩ ⟨by decide, rfl⟩
  · rintro b5 hm
    subst hk7
    refine WJ.seq ?_
    refine WJ.reg ?_
    refine SJ.q (YldS.yld (y_move rfl)) rfl ?_
    refine SJ.q (YldS.yld (y_nil rfl)) rfl ?_
    refine SJ.q (YldS.yld (y_fldB (o := 0) fld63_1 rfl)) rfl ?_
    refine SJ.q (YldS.yld (y_loadB (k := 0) (off := 1) (v := .int .i64 s1.at_) rfl Try.isAgg3 rfl rfl)) rfl ?_
    refine SJ.q (YldS.yld (y_bin rfl rfl rfl)) rfl ?_
    refine SJ.q (YldS.yld (y_nil rfl)) rfl ?_
    refine SJ.q (YldS.yld (y_fldB (o := 0) fld63_1 rfl)) rfl ?_
    refine SJ.storeL (k := 0) (off := 1) (us := [.int .i64 (w64 (s1.at_ + 1))]) rfl rfl rfl rfl Try.sizeOf3 rfl rfl ?_
    refine SJ.nil ?_
    refine PJ.next ?_
    refine WJ.seq ?_
    refine WJ.reg ?_
    refine SJ.q (YldS.yld (y_move rfl)) rfl ?_
    refine SJ.q (YldS.yld (y_move rfl)) rfl ?_
    refine SJ.q (YldS.yld (y_nil rfl)) rfl ?_
    refine SJ.q (YldS.yld (y_fldB (o := 0) fld63_2 rfl)) rfl ?_
    refine SJ.q (YldS.yld (y_loadB (k := 0) (off := 2) (v := .int .u64 s1.seed) rfl Try.isAgg61 rfl rfl)) rfl ?_
    refine SJ.q (YldS.yld (y_bin rfl rfl rfl)) rfl ?_
    refine SJ.q (YldS.yld (y_move rfl)) rfl ?_
    refine SJ.q (YldS.yld (y_convI Try.runUnderlying3 Try.runUnderlying61 rfl)) rfl ?_
    refine SJ.q (YldS.yld (y_bin rfl rfl rfl)) rfl ?_
    refine SJ.q (YldS.yld (y_bin rfl rfl rfl)) rfl ?_
    refine SJ.q (YldS.yld (y_nil rfl)) rfl ?_
    refine SJ.q (YldS.yld (y_fldB (o := 0) fld63_2 rfl)) rfl ?_
    refine SJ.storeL (k := 0) (off := 2) (us := [.int .u64 (IntKind.u64.wrap ((IntKind.u64.wrap ((IntKind.u64.wrap (s1.seed * 6364136223846793005)) + (IntKind.u64.wrap b5))) + 1442695040888963407))]) rfl rfl rfl rfl Try.sizeOf61 rfl rfl ?_
    refine SJ.nil ?_
    refine PJ.next ?_
    refine WJ.seq ?_
    refine WJ.seq ?_
    refine WJ.quiet_draw follows (by kernel_rfl) ?_
    refine QJ.step (YldS.yld (y_move rfl)) rfl ?_
    refine QJ.step (YldS.yld (y_nil rfl)) rfl ?_
    refine QJ.step (YldS.yld (y_fldB (o := 0) fld63_1 rfl)) rfl ?_
    refine QJ.step (YldS.yld (y_loadB (k := 0) (off := 1) (v := .int .i64 (w64 (s1.at_ + 1))) rfl Try.isAgg3 rfl rfl)) rfl ?_
    refine QJ.step (YldS.yld (y_move rfl)) rfl ?_
    refine QJ.step (YldS.yld (y_nil rfl)) rfl ?_
    refine QJ.step (YldS.yld (y_fldB (o := 0) fld63_0 rfl)) rfl ?_
    refine QJ.step (YldS.yld (y_loadB (k := 0) (off := 0) (v := v3) rfl Try.isAgg22 rfl rfl)) rfl ?_
    refine QJ.step (YldS.yld (y_lenS Try.runUnderlying22 hr4 rfl)) rfl ?_
    refine QJ.step (YldS.yld (y_bin rfl rfl rfl)) rfl ?_
    refine QJ.done ?_
    refine PJ.next ?_
    refine WJ.cond (t := decide ((w64 (s1.at_ + 1)) ≤ (List.length s1.code : Int))) rfl (fun hb14 => ?_) (fun hb14 => ?_)
    · replace hm := ifT hm hb14
      refine WJ.seq ?_
      refine WJ.quiet ?_
      refine QJ.step (YldS.yld (y_move rfl)) rfl ?_
      refine QJ.step (YldS.yld (y_assign rfl)) rfl ?_
      refine QJ.done ?_
      refine PJ.next ?_
      refine WJ.ret ?_
      refine PJ.then_ret ?_
      obtain rfl := Option.some.inj hm
      refine PJ.sel (L' := [box g2 63 [v3, .int .i64 (w64 (s1.at_ + 1)), .int .u64 (IntKind.u64.wrap ((IntKind.u64.wrap ((IntKind.u64.wrap (s1.seed * 6364136223846793005)) + (IntKind.u64.wrap b5))) + 1442695040888963407))]]) [0] ⟨by decide, rfl⟩ ?_
      exact PJ.retn (vs := [.int .i64 b5]) Try.results34 ⟨rfl, trivial⟩ ⟨rfl, rfl⟩
    · replace hm := ifF hm hb14
      refine WJ.skip ?_
      refine PJ.next ?_
      refine WJ.seq ?_
      refine WJ.quiet ?_
      refine QJ.step (YldS.yld (y_move rfl)) rfl ?_
      refine QJ.step (YldS.yld (y_nil rfl)) rfl ?_
      refine QJ.step (YldS.yld (y_fldB (o := 0) fld63_2 rfl)) rfl ?_
      refine QJ.step (YldS.yld (y_loadB (k := 0) (off := 2) (v := .int .u64 (IntKind.u64.wrap ((IntKind.u64.wrap ((IntKind.u64.wrap (s1.seed * 6364136223846793005)) + (IntKind.u64.wrap b5))) + 1442695040888963407))) rfl Try.isAgg61 rfl rfl)) rfl ?_
      refine QJ.step (YldS.yld (y_shru rfl rfl rfl)) rfl ?_
      refine QJ.step (YldS.yld (y_andu rfl rfl rfl)) rfl ?_
      refine QJ.step (YldS.yld (y_convI Try.runUnderlying61 Try.runUnderlying2 rfl)) rfl ?_
      refine QJ.step (YldS.yld (y_assign rfl)) rfl ?_
      refine QJ.done ?_
      refine PJ.next ?_
      refine WJ.ret ?_
      obtain rfl := Option.some.inj hm
      refine PJ.sel (L' := [box g2 63 [v3, .int .i64 (w64 (s1.at_ + 1)), .int .u64 (IntKind.u64.wrap ((IntKind.u64.wrap ((IntKind.u64.wrap (s1.seed * 6364136223846793005)) + (IntKind.u64.wrap b5))) + 1442695040888963407))]]) [0] ⟨by decide, rfl⟩ ?_
      exact PJ.retn (vs := [.int .i64 (w64 (uand (ushr (IntKind.u64.wrap ((IntKind.u64.wrap ((IntKind.u64.wrap (s1.seed * 6364136223846793005)) + (IntKind.u64.wrap b5))) + 1442695040888963407)) 40) 255))]) Try.results34 ⟨rfl, trivial⟩ ⟨rfl, rfl⟩

set_option maxRecDepth 100000 in
set_option maxHeartbeats 1000000 in
theorem ok_s_l00Src_pick {s1 : L00Src} {n5 : Int} {g2 : Nat} {r : Int × L00Src} (hm : s_l00Src_pick s1 n5 = some r) (w : World) (S : Nat → Prop) (v3 : Value) (hr4 : RdS w (Cx.Fz ⟨w, S⟩) v3 fByte.rp s1.code) (hA : (box g2 63 [v3, .int .i64 s1.at_, .int .u64 s1.seed]).holds w S) :
    Calls Try.prog 24 #[pt g2 0, .int .i64 n5] w (RetG ⟨w, S⟩ fun u L => (u = .int .i64 r.1 ∧ L = [box g2 63 [v3, .int .i64 r.2.at_, .int .u64 r.2.seed]])) := by
  unfold s_l00Src_pick at hm
  refine Calls.enter1 hA [pt g2 0, .int .i64 n5] Try.func24 rfl Try.ntmps24 rfl ?_
  refine WJ.seq ?_
  refine WJ.quiet ?_
  refine QJ.step (YldS.yld (y_assign rfl)) rfl ?_
  refine QJ.done ?_
  refine PJ.next ?_
  refine WJ.seq ?_
  refine WJ.seq ?_
  refine WJ.quiet ?_
  refine QJ.step (YldS.yld (y_move rfl)) rfl ?_
  refine QJ.step (YldS.yld (y_bin rfl rfl rfl)) rfl ?_
  refine QJ.done ?_
  refine PJ.next ?_
  refine WJ.cond (t := decide (n5 ≤ 1)) rfl (fun hb6 => ?_) (fun hb6 => ?_)
  · replace hm := ifT hm hb6
    refine WJ.seq ?_
    refine WJ.quiet ?_
    refine QJ.step (YldS.yld (y_assign rfl)) rfl ?_
    refine QJ.done ?_
    refine PJ.next ?_
    refine WJ.ret ?_
    refine PJ.then_ret ?_
    obtain rfl := Option.some.inj hm
    refine PJ.sel (L' := [box g2 63 [v3, .int .i64 s1.at_, .int .u64 s1.seed]]) [0] ⟨by decide, rfl⟩ ?_
    exact PJ.retn (vs := [.int .i64 0]) Try.results24 ⟨rfl, trivial⟩ ⟨rfl, rfl⟩
  · replace hm := ifF hm hb6
    refine WJ.skip ?_
    refine PJ.next ?_
    refine WJ.seq ?_
    refine WJ.reg ?_
    refine SJ.q (YldS.yld (y_move rfl)) rfl ?_
    obtain ⟨r7, h8, hm⟩ := bindS hm
    refine SJ.call1 (k := 0) rfl Try.call34 rfl (fun w S hw hA hO => ok_s_l00Src_next h8 w S _ (hr4.st1 hw hO) hA) rfl ?_
    rintro _ _ ⟨rfl, rfl⟩
    refine SJ.q (YldS.yld (y_assign rfl)) rfl ?_
    refine SJ.nil ?_
    refine PJ.next ?_
    obtain ⟨kj12, hk13, hm⟩ := withK_open hm
    refine WJ.join (X := Int × Int × Int) (fun (x : Int × Int × Int) => kj12 x.1 x.2.1 x.2.2 = some r) (fun (x : Int × Int × Int) => [(1, .int .i64 n5), (5, .int .i64 x.2.2)]) (fun (x : Int × Int × Int) => [box g2 63 [v3, .int .i64 x.1, .int .u64 x.2.1]]) ?_ ?_
    · clear hk13
      refine WJ.seq ?_
      refine WJ.quiet ?_
      refine QJ.step (YldS.yld (y_move rfl)) rfl ?_
      refine QJ.step (YldS.yld (y_bin rfl rfl rfl)) rfl ?_
      refine QJ.done ?_
      refine PJ.next ?_
      refine WJ.cond (t := decide (n5 > 200)) rfl (fun hb14 => ?_) (fun hb14 => ?_)
      · replace hm := ifT hm hb14
        refine WJ.reg ?_
        refine SJ.q (YldS.yld (y_move rfl)) rfl ?_
        refine SJ.q (YldS.yld (y_bin rfl rfl rfl)) rfl ?_
        refine SJ.q (YldS.yld (y_move rfl)) rfl ?_
        obtain ⟨r15, h16, hm⟩ := bindS hm
        refine SJ.call1 (k := 0) rfl Try.call34 rfl (fun w S hw hA hO => ok_s_l00Src_next h16 w S _ (hr4.st1 hw hO) hA) rfl ?_
        rintro _ _ ⟨rfl, rfl⟩
        refine SJ.q (YldS.yld (y_bin rfl rfl rfl)) rfl ?_
        refine SJ.q (YldS.yld (y_assign rfl)) rfl ?_
        refine SJ.nil ?_
        exact PJ.joined (r15.2.at_, r15.2.seed, w64 ((w64 (r7.1 * 256)) + r15.1)) [0] hm ⟨rfl, rfl, trivial⟩ ⟨by decide, rfl⟩
      · replace hm := ifF hm hb14
        refine WJ.skip ?_
        exact PJ.joined (r7.2.at_, r7.2.seed, r7.1) [0] hm ⟨rfl, rfl, trivial⟩ ⟨by decide, rfl⟩
    · rintro ⟨x9, x10, x11⟩ hm
      subst hk13
      refine WJ.seq ?_
      refine WJ.quiet ?_
      refine QJ.step (YldS.yld (y_move rfl)) rfl ?_
      refine QJ.step (YldS.yld (y_move rfl)) rfl ?_
      obtain ⟨q17, h18, hm⟩ := bindS hm
      refine QJ.step (YldS.yld (y_rem' h18 rfl rfl)) rfl ?_
      refine QJ.step (YldS.yld (y_assign rfl)) rfl ?_
      refine QJ.done ?_
      refine PJ.next ?_
      refine WJ.ret ?_
      obtain rfl := Option.some.inj hm
      refine PJ.sel (L' := [box g2 63 [v3, .int .i64 x9, .int .u64 x10]]) [0] ⟨by decide, rfl⟩ ?_
      exact PJ.retn (vs := [.int .i64 q17]) Try.results24 ⟨rfl, trivial⟩ ⟨rfl, rfl⟩

set_option maxRecDepth 100000 in
set_option maxHeartbeats 1000000 in
theorem ok_s_l00Src_one {s1 : L00Src} {n5 : Int} {g2 : Nat} {r : Bool × L00Src} (hm : s_l00Src_one s1 n5 = some r) (w : World) (S : Nat → Prop) (v3 : Value) (hr4 : RdS w (Cx.Fz ⟨w, S⟩) v3 fByte.rp s1.code) (hA : (box g2 63 [v3, .int .i64 s1.at_, .int .u64 s1.seed]).holds w S) :
    Calls Try.prog 35 #[pt g2 0, .int .i64 n5] w (RetG ⟨w, S⟩ fun u L => (u = .bool r.1 ∧ L = [box g2 63 [v3, .int .i64 r.2.at_, .int .u64 r.2.seed]])) := by
  unfold s_l00Src_one at hm
  refine Calls.enter1 hA [pt g2 0, .int .i64 n5] Try.func35 rfl Try.ntmps35 rfl ?_
  refine WJ.seq ?_
  refine WJ.quiet ?_
  refine QJ.step (YldS.yld (y_assign rfl)) rfl ?_
  refine QJ.done ?_
  refine PJ.next ?_
  refine WJ.seq ?_
  refine WJ.reg ?_
  refine SJ.q (YldS.yld (y_move rfl)) rfl ?_
  refine SJ.q (YldS.yld (y_move rfl)) rfl ?_
  obtain ⟨r6, h7, hm⟩ := bindS hm
  refine SJ.call1 (k := 0) rfl Try.call24 rfl (fun w S hw hA hO => ok_s_l00Src_pick h7 w S _ (hr4.st1 hw hO) hA) rfl ?_
  rintro _ _ ⟨rfl, rfl⟩
  refine SJ.q (YldS.yld (y_bin rfl rfl rfl)) rfl ?_
  refine SJ.q (YldS.yld (y_assign rfl)) rfl ?_
  refine SJ.nil ?_
  refine PJ.next ?_
  refine WJ.ret ?_
  obtain rfl := Option.some.inj hm
  refine PJ.sel (L' := [box g2 63 [v3, .int .i64 r6.2.at_, .int .u64 r6.2.seed]]) [0] ⟨by decide, rfl⟩ ?_
  exact PJ.retn (vs := [.bool (r6.1 == 0)]) Try.results35 ⟨rfl, trivial⟩ ⟨rfl, rfl⟩

set_option maxRecDepth 100000 in
set_option maxHeartbeats 1000000 in
theorem ok_s_l15New {N : Nat} {s1 : L00Src} {name5 : Str} {g2 : Nat} {r : Writer × L00Src} (hm : s_l15New N s1 name5 = some r) (w : World) (S : Nat → Prop) (v3 : Value) (hr4 : RdS w (Cx.Fz ⟨w, S⟩) v3 fByte.rp s1.code) (hA : (box g2 63 [v3, .int .i64 s1.at_, .int .u64 s1.seed]).holds w S) :
    Calls Try.prog 25 #[pt g2 0, str name5] w (RetG ⟨w, S⟩ fun u L => ∃ (u1 : Value), (u = .agg #[str r.1.name, u1] ∧ L = [box g2 63 [v3, .int .i64 r.2.at_, .int .u64 r.2.seed], row u1 39 fTypeFault r.1.faults])) := by
  unfold s_l15New at hm
  refine Calls.enter1 hA [pt g2 0, str name5] Try.func25 rfl Try.ntmps25 rfl ?_
  refine WJ.seq ?_
  refine WJ.reg ?_
  refine SJ.alloc (cs := [str [], .slice none 0 0]) Try.zeroValue34 rfl rfl fun g6 => ?_
  refine SJ.nil_row 39 fTypeFault ?_
  refine SJ.nil ?_
  refine PJ.next ?_
  refine WJ.seq ?_
  refine WJ.reg ?_
  refine SJ.q (YldS.yld (y_move rfl)) rfl ?_
  refine SJ.q (YldS.yld (y_build (parts := [(0, .tmp 8)]) (places := [(0, 1), (1, 1)]) (r := [str name5, .slice none 0 0]) pl34 Try.zeroValue34 rfl rfl rfl rfl)) rfl ?_
  refine SJ.alloc (cs := [str [], .slice none 0 0]) Try.zeroValue34 rfl rfl fun g7 => ?_
  refine SJ.nil_row 39 fTypeFault ?_
  refine SJ.storeL (k := 1) (off := 0) (us := [str name5, .slice none 0 0]) rfl rfl rfl rfl Try.sizeOf34 rfl rfl ?_
  refine SJ.nil_row 39 fTypeFault ?_
  refine SJ.erase 1 ?_
  refine SJ.nil ?_
  refine PJ.next ?_
  refine WJ.seq ?_
  refine WJ.reg ?_
  refine SJ.buildSlice (R := fStr) (os := [.const (str [97]), .const (str [101]), .const (str [110]), .const (str [114]), .const (str [116]), .const (str [126])]) ([[97], [101], [110], [114], [116], [126]] : List Str) Try.runUnderlying26 Try.sizeOf9 Try.zeroValue9 rfl rfl rfl rfl rfl rfl fun v8 => ?_
  refine SJ.q (YldS.yld (y_assign rfl)) rfl ?_
  refine SJ.nil ?_
  refine PJ.next ?_
  obtain ⟨kj14, hk15, hm⟩ := withK_open hm
  refine WJ.join (X := (List TypeFault) × Value × Str × Int × Int) (fun (x : (List TypeFault) × Value × Str × Int × Int) => kj14 x.1 x.2.2.1 x.2.2.2.1 x.2.2.2.2 = some r) (fun (x : (List TypeFault) × Value × Str × Int × Int) => [(4, pt g6 0), (5, pt g7 0)]) (fun (x : (List TypeFault) × Value × Str × Int × Int) => [row x.2.1 39 fTypeFault x.1, box g7 34 [str x.2.2.1, x.2.1], row (.slice none 0 0) 39 fTypeFault [], box g6 34 [str [], (.slice none 0 0)], box g2 63 [v3, .int .i64 x.2.2.2.1, .int .u64 x.2.2.2.2]]) ?_ ?_
  · clear hk15
    refine WJ.seq ?_
    refine WJ.quiet ?_
    refine QJ.step (YldS.yld (y_assign rfl)) rfl ?_
    refine QJ.done ?_
    refine PJ.next ?_
    refine WJ.block ?_
    refine WJ.sel (L' := (fun (x : (List TypeFault) × Value × Str × Int × Int × Int) => [row v8 9 fStr ([[97], [101], [110], [114], [116], [126]] : List Str), row x.2.1 39 fTypeFault x.1, box g7 34 [str x.2.2.1, x.2.1], row (.slice none 0 0) 39 fTypeFault [], box g6 34 [str [], (.slice none 0 0)], box g2 63 [v3, .int .i64 x.2.2.2.1, .int .u64 x.2.2.2.2.1]]) ([], (.slice none 0 0), name5, s1.at_, s1.seed, 0)) [0, 1, 2, 3, 4, 5] ⟨by decide, rfl⟩ ?_
    refine WJ.sub (m' := (fun (x : (List TypeFault) × Value × Str × Int × Int × Int) => [(0, pt g2 0), (4, pt g6 0), (5, pt g7 0), (6, v8), (7, .int .i64 x.2.2.2.2.2)]) ([], (.slice none 0 0), name5, s1.at_, s1.seed, 0)) ⟨rfl, rfl, rfl, rfl, rfl, trivial⟩ ?_
    refine WJ.loop (X := (List TypeFault) × Value × Str × Int × Int × Int) (fun N (x : (List TypeFault) × Value × Str × Int × Int × Int) => s_l15New_l1 kj14 s1 N x.1 x.2.2.1 x.2.2.2.1 x.2.2.2.2.1 x.2.2.2.2.2 = some r) (fun (x : (List TypeFault) × Value × Str × Int × Int × Int) => [(0, pt g2 0), (4, pt g6 0), (5, pt g7 0), (6, v8), (7, .int .i64 x.2.2.2.2.2)]) (fun (x : (List TypeFault) × Value × Str × Int × Int × Int) => [row v8 9 fStr ([[97], [101], [110], [114], [116], [126]] : List Str), row x.2.1 39 fTypeFault x.1, box g7 34 [str x.2.2.1, x.2.1], row (.slice none 0 0) 39 fTypeFault [], box g6 34 [str [], (.slice none 0 0)], box g2 63 [v3, .int .i64 x.2.2.2.1, .int .u64 x.2.2.2.2.1]]) ?_ N ([], (.slice none 0 0), name5, s1.at_, s1.seed, 0) hm
    · rintro N ⟨l16, v17, x18, x19, x20, i21⟩ hI
      have hm := hI; clear hI
      cases N with
      | zero => cases hm
      | succ N =>
      unfold s_l15New_l1 at hm
      refine WJ.seq ?_
      refine WJ.seq ?_
      refine WJ.quiet ?_
      refine QJ.step (YldS.yld (y_move rfl)) rfl ?_
      refine QJ.step (YldS.yld (y_move rfl)) rfl ?_
      refine QJ.step (YldS.yld (y_lenRow (k := 0) rfl Try.runUnderlying26 rfl)) rfl ?_
      refine QJ.step (YldS.yld (y_bin rfl rfl rfl)) rfl ?_
      refine QJ.done ?_
      refine PJ.next ?_
      refine WJ.cond (t := decide (i21 < (List.length ([[97], [101], [110], [114], [116], [126]] : List Str) : Int))) rfl (fun hb22 => ?_) (fun hb22 => ?_)
      · replace hm := ifT hm hb22
        refine WJ.skip ?_
        refine PJ.next ?_
        obtain ⟨kj28, hk29, hm⟩ := withK_open hm
        refine WJ.join (X := Int × Int × (List TypeFault) × Value × Str) (fun (x : Int × Int × (List TypeFault) × Value × Str) => kj28 x.1 x.2.1 x.2.2.1 x.2.2.2.2 = some r) (fun (x : Int × Int × (List TypeFault) × Value × Str) => [(0, pt g2 0), (4, pt g6 0), (5, pt g7 0), (6, v8), (7, .int .i64 i21)]) (fun (x : Int × Int × (List TypeFault) × Value × Str) => [box g2 63 [v3, .int .i64 x.1, .int .u64 x.2.1], row v8 9 fStr ([[97], [101], [110], [114], [116], [126]] : List Str), row x.2.2.2.1 39 fTypeFault x.2.2.1, box g7 34 [str x.2.2.2.2, x.2.2.2.1], row (.slice none 0 0) 39 fTypeFault [], box g6 34 [str [], (.slice none 0 0)]]) ?_ ?_
        · clear hk29
          refine WJ.block ?_
          refine WJ.seq ?_
          refine WJ.reg ?_
          refine SJ.q (YldS.yld (y_move rfl)) rfl ?_
          obtain ⟨r30, h31, hm⟩ := bindS hm
          refine SJ.call1 (k := 5) rfl Try.call35 rfl (fun w S hw hA hO => ok_s_l00Src_one h31 w S _ (hr4.st1 hw hO) hA) rfl ?_
          rintro _ _ ⟨rfl, rfl⟩
          refine SJ.nil ?_
          refine PJ.next ?_
          refine WJ.cond (t := r30.1) rfl (fun hb32 => ?_) (fun hb32 => ?_)
          · replace hm := ifT hm hb32
            obtain ⟨e33, h34, hm⟩ := bindS hm
            obtain ⟨r35, h36, hm⟩ := bindS hm
            obtain ⟨l38, h39, hm⟩ := bindS hm
            refine WJ.draws (N := 14) (listed0 := #[false, false, false, false, false, false, false, false, false, false, false, false, false, false]) [row v8 9 fStr ([[97], [101], [110], [114], [116], [126]] : List Str), row (.slice none 0 0) 39 fTypeFault [], box g6 34 [str [], (.slice none 0 0)]] follows rfl rfl ?_
            refine RJ.first 0 (listed' := #[true, false, false, false, false, false, false, false, false, false, false, false, false, false]) [1, 4, 5] rfl (by kernel_rfl) rfl ⟨by decide, rfl⟩ (y_fldB (o := 0) fld34_1 rfl) rfl ?_
            refine RJ.first 2 (listed' := #[true, false, true, false, false, false, false, false, false, false, false, false, false, false]) [1, 4, 5] rfl (by kernel_rfl) rfl ⟨by decide, rfl⟩ (y_move rfl) rfl ?_
            refine RJ.first 3 (listed' := #[true, false, true, true, false, false, false, false, false, false, false, false, false, false]) [1, 4, 5] rfl (by kernel_rfl) rfl ⟨by decide, rfl⟩ (y_move rfl) rfl ?_
            refine RJ.first 4 (listed' := #[true, false, true, true, true, false, false, false, false, false, false, false, false, false]) [1, 4, 5] rfl (by kernel_rfl) rfl ⟨by decide, rfl⟩ (y_ixRow (k := 0) (R := fStr) rfl Try.runUnderlying26 Try.sizeOf9 rfl rfl h34) rfl ?_
            refine RJ.first 5 (listed' := #[true, false, true, true, true, true, false, false, false, false, false, false, false, false]) [1, 4, 5] rfl (by kernel_rfl) rfl ⟨by decide, rfl⟩ (y_loadR (k := 0) (i := (Int.toNat i21)) (off := 0) (u := str e33) rfl Try.isAgg9 rfl (idx_get h34) rfl) rfl ?_
            refine RJ.first 6 (listed' := #[true, false, true, true, true, true, true, false, false, false, false, false, false, false]) [1, 4, 5] rfl (by kernel_rfl) rfl ⟨by decide, rfl⟩ (y_move rfl) rfl ?_
            refine RJ.hold (X := Value) 3 #[true, true, true, true, true, true, true, true, true, true, true, false, false, false] (fun (x : Value) => [(0, pt g2 0), (4, pt g6 0), (5, pt g7 0), (6, v8), (7, .int .i64 i21), (20, v17), (29, x)]) (fun (x : Value) => [row x 39 fTypeFault [(TypeFault.mk e33 (w64 (1 + r35.1)))], box g2 63 [v3, .int .i64 r35.2.at_, .int .u64 r35.2.seed], row v8 9 fStr ([[97], [101], [110], [114], [116], [126]] : List Str), row v17 39 fTypeFault l16, box g7 34 [str x18, v17], row (.slice none 0 0) 39 fTypeFault [], box g6 34 [str [], (.slice none 0 0)]]) ?_ ?_
            · rintro v37
              refine RJ.step1 11 [2, 5, 6] (by kernel_rfl) ⟨by decide, rfl⟩ ?_
              refine RO.of (listed' := #[true, true, true, true, true, true, true, true, true, true, true, true, false, false]) rfl rfl ?_
              refine SJ.append (k := 3) (R := fTypeFault) h39 rfl Try.underlying29 el39 rfl rfl rfl (fun w hw => (hw.row_rd (k := 0) rfl)) rfl fun v40 => ?_
              refine SJ.nil ?_
              refine PJ.draw ?_
              refine RJ.first 12 (listed' := #[true, true, true, true, true, true, true, true, true, true, true, true, true, false]) [2, 5, 6] rfl (by kernel_rfl) rfl ⟨by decide, rfl⟩ (y_fldB (o := 0) fld34_1 rfl) rfl ?_
              refine RJ.step1 13 [2, 5, 6] (by kernel_rfl) ⟨by decide, rfl⟩ ?_
              refine RO.of (listed' := #[true, true, true, true, true, true, true, true, true, true, true, true, true, true]) rfl rfl ?_
              refine SJ.rowCells (k := 3) rfl fun hc41 => ?_
              refine SJ.storeL (k := 4) (off := 1) (us := [v40]) rfl rfl rfl hc41.1 Try.sizeOf29 rfl (by simp [hc41.2]) ?_
              refine SJ.nil ?_
              refine PJ.draw ?_
              refine RJ.fin [2, 5, 6] (by kernel_rfl) ⟨by decide, rfl⟩ ?_
              refine PJ.block_normal ?_
              exact PJ.joined (r35.2.at_, r35.2.seed, l38, v40, x18) [1, 2, 3, 4, 5, 6] hm ⟨rfl, rfl, rfl, rfl, rfl, trivial⟩ ⟨by decide, rfl⟩
            · intro hD42
              refine RJ.step2 1 7 [1, 4, 5] (by kernel_rfl) ⟨by decide, rfl⟩ ?_ ?_
              · refine RO.of (listed' := #[true, true, true, true, true, true, true, false, false, false, false, false, false, false]) rfl rfl ?_
                refine SJ.q (YldS.yld (y_loadB (k := 3) (off := 1) (v := v17) rfl Try.isAgg29 rfl rfl)) rfl ?_
                refine SJ.nil ?_
                refine PJ.draw ?_
                refine RJ.step1 7 [1, 4, 5] (by kernel_rfl) ⟨by decide, rfl⟩ ?_
                refine RO.of (listed' := #[true, true, true, true, true, true, true, true, false, false, false, false, false, false]) rfl rfl ?_
                refine SJ.call1 (k := 0) rfl Try.call24 rfl (fun w S hw hA hO => ok_s_l00Src_pick h36 w S _ (hr4.st1 hw hO) hA) rfl ?_
                rintro _ _ ⟨rfl, rfl⟩
                refine SJ.nil ?_
                refine PJ.draw ?_
                refine RJ.first 8 (listed' := #[true, true, true, true, true, true, true, true, true, false, false, false, false, false]) [1, 4, 5] rfl (by kernel_rfl) rfl ⟨by decide, rfl⟩ (y_bin rfl rfl rfl) rfl ?_
                refine RJ.first 9 (listed' := #[true, true, true, true, true, true, true, true, true, true, false, false, false, false]) [1, 4, 5] rfl (by kernel_rfl) rfl ⟨by decide, rfl⟩ (y_build (parts := [(0, .tmp 24), (1, .tmp 27)]) (places := [(0, 1), (1, 1)]) (r := [str ((TypeFault.mk e33 (w64 (1 + r35.1))).letter), .int .i64 ((TypeFault.mk e33 (w64 (1 + r35.1))).kind)]) pl39 Try.zeroValue39 rfl rfl rfl rfl) rfl ?_
                refine RJ.step1 10 [1, 4, 5] (by kernel_rfl) ⟨by decide, rfl⟩ ?_
                refine RO.of (listed' := #[true, true, true, true, true, true, true, true, true, true, true, false, false, false]) rfl rfl ?_
                refine SJ.buildSlice (R := fTypeFault) (os := [.tmp 28]) [(TypeFault.mk e33 (w64 (1 + r35.1)))] Try.runUnderlying29 Try.sizeOf39 Try.zeroValue39 rfl rfl rfl rfl rfl rfl fun v37 => ?_
                refine SJ.nil ?_
                refine PJ.draw ?_
                exact RJ.weak (hD42 v37) [0, 1, 2, 3, 4, 5, 6] ⟨rfl, rfl, rfl, rfl, rfl, rfl, rfl, trivial⟩ ⟨by decide, rfl⟩
              · refine RO.of (listed' := #[true, false, true, true, true, true, true, true, false, false, false, false, false, false]) rfl rfl ?_
                refine SJ.call1 (k := 0) rfl Try.call24 rfl (fun w S hw hA hO => ok_s_l00Src_pick h36 w S _ (hr4.st1 hw hO) hA) rfl ?_
                rintro _ _ ⟨rfl, rfl⟩
                refine SJ.nil ?_
                refine PJ.draw ?_
                refine RJ.first 8 (listed' := #[true, false, true, true, true, true, true, true, true, false, false, false, false, false]) [1, 4, 5] rfl (by kernel_rfl) rfl ⟨by decide, rfl⟩ (y_bin rfl rfl rfl) rfl ?_
                refine RJ.first 9 (listed' := #[true, false, true, true, true, true, true, true, true, true, false, false, false, false]) [1, 4, 5] rfl (by kernel_rfl) rfl ⟨by decide, rfl⟩ (y_build (parts := [(0, .tmp 24), (1, .tmp 27)]) (places := [(0, 1), (1, 1)]) (r := [str ((TypeFault.mk e33 (w64 (1 + r35.1))).letter), .int .i64 ((TypeFault.mk e33 (w64 (1 + r35.1))).kind)]) pl39 Try.zeroValue39 rfl rfl rfl rfl) rfl ?_
                refine RJ.step2 1 10 [1, 4, 5] (by kernel_rfl) ⟨by decide, rfl⟩ ?_ ?_
                · refine RO.of (listed' := #[true, true, true, true, true, true, true, true, true, true, false, false, false, false]) rfl rfl ?_
                  refine SJ.q (YldS.yld (y_loadB (k := 3) (off := 1) (v := v17) rfl Try.isAgg29 rfl rfl)) rfl ?_
                  refine SJ.nil ?_
                  refine PJ.draw ?_
                  refine RJ.step1 10 [1, 4, 5] (by kernel_rfl) ⟨by decide, rfl⟩ ?_
                  refine RO.of (listed' := #[true, true, true, true, true, true, true, true, true, true, true, false, false, false]) rfl rfl ?_
                  refine SJ.buildSlice (R := fTypeFault) (os := [.tmp 28]) [(TypeFault.mk e33 (w64 (1 + r35.1)))] Try.runUnderlying29 Try.sizeOf39 Try.zeroValue39 rfl rfl rfl rfl rfl rfl fun v37 => ?_
                  refine SJ.nil ?_
                  refine PJ.draw ?_
                  exact RJ.weak (hD42 v37) [0, 1, 2, 3, 4, 5, 6] ⟨rfl, rfl, rfl, rfl, rfl, rfl, rfl, trivial⟩ ⟨by decide, rfl⟩
                · refine RO.of (listed' := #[true, false, true, true, true, true, true, true, true, true, true, false, false, false]) rfl rfl ?_
                  refine SJ.buildSlice (R := fTypeFault) (os := [.tmp 28]) [(TypeFault.mk e33 (w64 (1 + r35.1)))] Try.runUnderlying29 Try.sizeOf39 Try.zeroValue39 rfl rfl rfl rfl rfl rfl fun v37 => ?_
                  refine SJ.nil ?_
                  refine PJ.draw ?_
                  refine RJ.step1 1 [2, 5, 6] (by kernel_rfl) ⟨by decide, rfl⟩ ?_
                  refine RO.of (listed' := #[true, true, true, true, true, true, true, true, true, true, true, false, false, false]) rfl rfl ?_
                  refine SJ.q (YldS.yld (y_loadB (k := 4) (off := 1) (v := v17) rfl Try.isAgg29 rfl rfl)) rfl ?_
                  refine SJ.nil ?_
                  refine PJ.draw ?_
                  exact RJ.weak (hD42 v37) [0, 1, 2, 3, 4, 5, 6] ⟨rfl, rfl, rfl, rfl, rfl, rfl, rfl, trivial⟩ ⟨by decide, rfl⟩
          · replace hm := ifF hm hb32
            refine WJ.skip ?_
            refine PJ.block_normal ?_
            exact PJ.joined (r30.2.at_, r30.2.seed, l16, v17, x18) [0, 1, 2, 3, 4, 5] hm ⟨rfl, rfl, rfl, rfl, rfl, trivial⟩ ⟨by decide, rfl⟩
        · rintro ⟨x23, x24, l25, v26, x27⟩ hm
          subst hk29
          refine WJ.quiet ?_
          refine QJ.step (YldS.yld (y_move rfl)) rfl ?_
          refine QJ.step (YldS.yld (y_bin rfl rfl rfl)) rfl ?_
          refine QJ.step (YldS.yld (y_assign rfl)) rfl ?_
          refine QJ.done ?_
          exact PJ.round (l25, v26, x27, x23, x24, w64 (i21 + 1)) [1, 2, 3, 4, 5, 0] hm ⟨rfl, rfl, rfl, rfl, rfl, trivial⟩ ⟨by decide, rfl⟩
      · replace hm := ifF hm hb22
        refine WJ.exit ?_
        refine PJ.then_exit (PJ.then_exit (PJ.block_exit ?_))
        exact PJ.joined (l16, v17, x18, x19, x20) [1, 2, 3, 4, 5] hm ⟨rfl, rfl, trivial⟩ ⟨by decide, rfl⟩
  · rintro ⟨l9, v10, x11, x12, x13⟩ hm
    subst hk15
    refine WJ.seq ?_
    refine WJ.reg ?_
    refine SJ.q (YldS.yld (y_loadBN (k := 1) (off := 0) (us := [str x11, v10]) rfl Try.isAgg34 Try.sizeOf34 rfl rfl)) rfl ?_
    refine SJ.rowCells (k := 0) rfl fun hc43 => ?_
    refine SJ.storeL (k := 3) (off := 0) (us := [str x11, v10]) rfl rfl rfl rfl Try.sizeOf34 rfl (by simp only [List.all_cons, hc43.2]; rfl) ?_
    refine SJ.erase 2 ?_
    refine SJ.nil ?_
    refine PJ.next ?_
    refine WJ.ret ?_
    obtain rfl := Option.some.inj hm
    exact PJ.retn_sel (vs := [.agg #[str x11, v10]]) Try.results25 ⟨⟨2, g6, 34, [str x11, v10], rfl, rfl, .inl ⟨Try.isAgg34, Try.sizeOf34, rfl⟩⟩, trivial⟩ [3, 0] ⟨by decide, rfl⟩ ⟨_, rfl, rfl⟩

set_option maxRecDepth 100000 in
set_option maxHeartbeats 1000000 in
theorem ok_s_l15Draw {N : Nat} {s1 : L00Src} {g2 : Nat} {r : (List Writer) × L00Src} (hm : s_l15Draw N s1 = some r) (w : World) (S : Nat → Prop) (v3 : Value) (hr4 : RdS w (Cx.Fz ⟨w, S⟩) v3 fByte.rp s1.code) (hA : (box g2 63 [v3, .int .i64 s1.at_, .int .u64 s1.seed]).holds w S) :
    Calls Try.prog 11 #[pt g2 0] w (RetG ⟨w, S⟩ fun u L => ∃ (u1 : Value) (u2 : List (Raw 2)), (u = u1 ∧ L = [box g2 63 [v3, .int .i64 r.2.at_, .int .u64 r.2.seed], row u1 34 fRaw2 u2, ins shWriter 39 fTypeFault u2 r.1])) := by
  unfold s_l15Draw at hm
  refine Calls.enter1 hA [pt g2 0] Try.func11 rfl Try.ntmps11 rfl ?_
  refine WJ.seq ?_
  refine WJ.quiet ?_
  refine QJ.step (YldS.yld (y_assign rfl)) rfl ?_
  refine QJ.done ?_
  refine PJ.next ?_
  refine WJ.seq ?_
  refine WJ.reg ?_
  refine SJ.buildSlice (R := fStr) (os := [.const (str [97, 100, 108, 101, 114, 45, 55]), .const (str [105, 100, 101, 97, 108]), .const (str [109, 105, 103, 110, 111, 110]), .const (str [111, 108, 121, 109, 112, 105, 97]), .const (str [114, 111, 121, 97, 108])]) ([[97, 100, 108, 101, 114, 45, 55], [105, 100, 101, 97, 108], [109, 105, 103, 110, 111, 110], [111, 108, 121, 109, 112, 105, 97], [114, 111, 121, 97, 108]] : List Str) Try.runUnderlying26 Try.sizeOf9 Try.zeroValue9 rfl rfl rfl rfl rfl rfl fun v5 => ?_
  refine SJ.q (YldS.yld (y_assign rfl)) rfl ?_
  refine SJ.nil ?_
  refine PJ.next ?_
  refine WJ.seq ?_
  refine WJ.reg ?_
  refine SJ.buildSlice (R := fRaw2) (os := []) ([] : List (Raw 2)) Try.runUnderlying24 Try.sizeOf34 Try.zeroValue34 rfl rfl rfl rfl rfl rfl fun v6 => ?_
  refine SJ.ins_nil shWriter 39 fTypeFault ?_
  refine SJ.q (YldS.yld (y_assign rfl)) rfl ?_
  refine SJ.nil ?_
  refine PJ.next ?_
  obtain ⟨kj12, hk13, hm⟩ := withK_open hm
  refine WJ.join (X := Int × Int × (List Writer) × (List (Raw 2)) × Value) (fun (x : Int × Int × (List Writer) × (List (Raw 2)) × Value) => kj12 x.1 x.2.1 x.2.2.1 = some r) (fun (x : Int × Int × (List Writer) × (List (Raw 2)) × Value) => [(4, x.2.2.2.2)]) (fun (x : Int × Int × (List Writer) × (List (Raw 2)) × Value) => [box g2 63 [v3, .int .i64 x.1, .int .u64 x.2.1], ins shWriter 39 fTypeFault x.2.2.2.1 x.2.2.1, row x.2.2.2.2 34 fRaw2 x.2.2.2.1]) ?_ ?_
  · clear hk13
    refine WJ.seq ?_
    refine WJ.reg ?_
    refine SJ.q (YldS.yld (y_move rfl)) rfl ?_
    obtain ⟨r14, h15, hm⟩ := bindS hm
    refine SJ.call1 (k := 3) rfl Try.call24 rfl (fun w S hw hA hO => ok_s_l00Src_pick h15 w S _ (hr4.st1 hw hO) hA) rfl ?_
    rintro _ _ ⟨rfl, rfl⟩
    refine SJ.q (YldS.yld (y_assign rfl)) rfl ?_
    refine SJ.nil ?_
    refine PJ.next ?_
    refine WJ.block ?_
    refine WJ.sel (L' := (fun (x : Int × Int × (List Writer) × (List (Raw 2)) × Value × Int) => [box g2 63 [v3, .int .i64 x.1, .int .u64 x.2.1], ins shWriter 39 fTypeFault x.2.2.2.1 x.2.2.1, row x.2.2.2.2.1 34 fRaw2 x.2.2.2.1, row v5 9 fStr ([[97, 100, 108, 101, 114, 45, 55], [105, 100, 101, 97, 108], [109, 105, 103, 110, 111, 110], [111, 108, 121, 109, 112, 105, 97], [114, 111, 121, 97, 108]] : List Str)]) (r14.2.at_, r14.2.seed, ([] : List Writer), ([] : List (Raw 2)), v6, r14.1)) [0, 1, 2, 3] ⟨by decide, rfl⟩ ?_
    refine WJ.sub (m' := (fun (x : Int × Int × (List Writer) × (List (Raw 2)) × Value × Int) => [(0, pt g2 0), (3, v5), (4, x.2.2.2.2.1), (5, .int .i64 x.2.2.2.2.2)]) (r14.2.at_, r14.2.seed, ([] : List Writer), ([] : List (Raw 2)), v6, r14.1)) ⟨rfl, rfl, rfl, rfl, trivial⟩ ?_
    refine WJ.loop (X := Int × Int × (List Writer) × (List (Raw 2)) × Value × Int) (fun N (x : Int × Int × (List Writer) × (List (Raw 2)) × Value × Int) => s_l15Draw_l1 kj12 s1 N x.1 x.2.1 x.2.2.1 x.2.2.2.2.2 = some r) (fun (x : Int × Int × (List Writer) × (List (Raw 2)) × Value × Int) => [(0, pt g2 0), (3, v5), (4, x.2.2.2.2.1), (5, .int .i64 x.2.2.2.2.2)]) (fun (x : Int × Int × (List Writer) × (List (Raw 2)) × Value × Int) => [box g2 63 [v3, .int .i64 x.1, .int .u64 x.2.1], ins shWriter 39 fTypeFault x.2.2.2.1 x.2.2.1, row x.2.2.2.2.1 34 fRaw2 x.2.2.2.1, row v5 9 fStr ([[97, 100, 108, 101, 114, 45, 55], [105, 100, 101, 97, 108], [109, 105, 103, 110, 111, 110], [111, 108, 121, 109, 112, 105, 97], [114, 111, 121, 97, 108]] : List Str)]) ?_ N (r14.2.at_, r14.2.seed, ([] : List Writer), ([] : List (Raw 2)), v6, r14.1) hm
    · rintro N ⟨x16, x17, l18, vs19, v20, k21⟩ hI
      have hm := hI; clear hI
      cases N with
      | zero => cases hm
      | succ N =>
      unfold s_l15Draw_l1 at hm
      refine WJ.seq ?_
      refine WJ.seq ?_
      refine WJ.quiet ?_
      refine QJ.step (YldS.yld (y_move rfl)) rfl ?_
      refine QJ.step (YldS.yld (y_bin rfl rfl rfl)) rfl ?_
      refine QJ.done ?_
      refine PJ.next ?_
      refine WJ.cond (t := decide (k21 > 0)) rfl (fun hb22 => ?_) (fun hb22 => ?_)
      · replace hm := ifT hm hb22
        refine WJ.skip ?_
        refine PJ.next ?_
        refine WJ.seq ?_
        refine WJ.block ?_
        refine WJ.reg ?_
        refine SJ.q (YldS.yld (y_move rfl)) rfl ?_
        refine SJ.q (YldS.yld (y_move rfl)) rfl ?_
        refine SJ.q (YldS.yld (y_move rfl)) rfl ?_
        refine SJ.q (YldS.yld (y_move rfl)) rfl ?_
        refine SJ.q (YldS.yld (y_lenSh (k := 2) (j := 1) rfl rfl Try.runUnderlying24 rfl)) rfl ?_
        obtain ⟨e23, h24, hm⟩ := bindS hm
        refine SJ.q (YldS.yld (y_ixRow (k := 3) (R := fStr) rfl Try.runUnderlying26 Try.sizeOf9 rfl rfl h24)) rfl ?_
        refine SJ.q (YldS.yld (y_loadR (k := 3) (i := (Int.toNat (List.length l18 : Int))) (off := 0) (u := str e23) rfl Try.isAgg9 rfl (idx_get h24) rfl)) rfl ?_
        obtain ⟨r25, h26, hm⟩ := bindS hm
        refine SJ.call1 (k := 0) rfl Try.call25 rfl (fun w S hw hA hO => ok_s_l15New h26 w S _ (hr4.st1 hw hO) hA) rfl ?_
        rintro _ _ ⟨v27, rfl, rfl⟩
        refine SJ.rowCells (k := 1) rfl fun hc28 => ?_
        refine SJ.buildSlice (R := fRaw2) (os := [.tmp 21]) ([mkRaw (n := 2) (shWriter.enc v27 (Writer.mk r25.1.name r25.1.faults)) (shWriter.len _ _) (shWriter.one _ _ hc28.2)] : List (Raw 2)) Try.runUnderlying24 Try.sizeOf34 Try.zeroValue34 rfl rfl rfl rfl rfl rfl fun v29 => ?_
        refine SJ.ins_nil shWriter 39 fTypeFault ?_
        refine SJ.sel (L' := [row v27 39 fTypeFault r25.1.faults, ins shWriter 39 fTypeFault [] ([] : List Writer), row v29 34 fRaw2 ([mkRaw (n := 2) (shWriter.enc v27 (Writer.mk r25.1.name r25.1.faults)) (shWriter.len _ _) (shWriter.one _ _ hc28.2)] : List (Raw 2)), box g2 63 [v3, .int .i64 r25.2.at_, .int .u64 r25.2.seed], ins shWriter 39 fTypeFault vs19 l18, row v20 34 fRaw2 vs19, row v5 9 fStr ([[97, 100, 108, 101, 114, 45, 55], [105, 100, 101, 97, 108], [109, 105, 103, 110, 111, 110], [111, 108, 121, 109, 112, 105, 97], [114, 111, 121, 97, 108]] : List Str)]) [3, 0, 1, 2, 4, 5, 6] ⟨by decide, rfl⟩ ?_
        refine SJ.star ?_
        refine SJ.conv0 (fun w S h => ins_push (H := shWriter) (lx := r25.1.faults) (y := mkRaw (n := 2) (shWriter.enc v27 (Writer.mk r25.1.name r25.1.faults)) (shWriter.len _ _) (shWriter.one _ _ hc28.2)) (x := (Writer.mk r25.1.name r25.1.faults)) rfl rfl h) ?_
        refine SJ.conv0 (B := ins shWriter 39 fTypeFault ([mkRaw (n := 2) (shWriter.enc v27 (Writer.mk r25.1.name r25.1.faults)) (shWriter.len _ _) (shWriter.one _ _ hc28.2)] : List (Raw 2)) ([(Writer.mk r25.1.name r25.1.faults)] : List Writer)) (fun w S h => h) ?_
        refine SJ.ins_len 3 rfl fun hl30 => ?_
        refine SJ.ins_len 0 rfl fun hl31 => ?_
        obtain ⟨l32, h33, hm⟩ := bindS hm
        refine SJ.append (k := 4) (R := fRaw2) (app_raw h33 hl30.1 hl31.1) rfl Try.underlying24 el34 rfl rfl rfl (fun w hw => (hw.row_rd (k := 1) rfl)) rfl fun v34 => ?_
        refine SJ.sel (L' := [ins shWriter 39 fTypeFault vs19 l18, ins shWriter 39 fTypeFault ([mkRaw (n := 2) (shWriter.enc v27 (Writer.mk r25.1.name r25.1.faults)) (shWriter.len _ _) (shWriter.one _ _ hc28.2)] : List (Raw 2)) ([(Writer.mk r25.1.name r25.1.faults)] : List Writer), row v29 34 fRaw2 ([mkRaw (n := 2) (shWriter.enc v27 (Writer.mk r25.1.name r25.1.faults)) (shWriter.len _ _) (shWriter.one _ _ hc28.2)] : List (Raw 2)), box g2 63 [v3, .int .i64 r25.2.at_, .int .u64 r25.2.seed], row v34 34 fRaw2 (vs19 ++ ([mkRaw (n := 2) (shWriter.enc v27 (Writer.mk r25.1.name r25.1.faults)) (shWriter.len _ _) (shWriter.one _ _ hc28.2)] : List (Raw 2))), row v5 9 fStr ([[97, 100, 108, 101, 114, 45, 55], [105, 100, 101, 97, 108], [109, 105, 103, 110, 111, 110], [111, 108, 121, 109, 112, 105, 97], [114, 111, 121, 97, 108]] : List Str)]) [3, 0, 1, 2, 4, 5] ⟨by decide, rfl⟩ ?_
        refine SJ.star ?_
        refine SJ.conv0 (fun w S h => ins_app h33 h) ?_
        refine SJ.q (YldS.yld (y_assign rfl)) rfl ?_
        refine SJ.nil ?_
        refine PJ.block_normal (PJ.next ?_)
        refine WJ.quiet ?_
        refine QJ.step (YldS.yld (y_move rfl)) rfl ?_
        refine QJ.step (YldS.yld (y_bin rfl rfl rfl)) rfl ?_
        refine QJ.step (YldS.yld (y_assign rfl)) rfl ?_
        refine QJ.done ?_
        exact PJ.round (r25.2.at_, r25.2.seed, l32, (vs19 ++ ([mkRaw (n := 2) (shWriter.enc v27 (Writer.mk r25.1.name r25.1.faults)) (shWriter.len _ _) (shWriter.one _ _ hc28.2)] : List (Raw 2))), v34, w64 (k21 - 1)) [2, 0, 3, 4] hm ⟨rfl, rfl, rfl, rfl, trivial⟩ ⟨by decide, rfl⟩
      · replace hm := ifF hm hb22
        refine WJ.exit ?_
        refine PJ.then_exit (PJ.then_exit (PJ.block_exit ?_))
        exact PJ.joined (x16, x17, l18, vs19, v20) [0, 1, 2] hm ⟨rfl, trivial⟩ ⟨by decide, rfl⟩
  · rintro ⟨x7, x8, l9, vs10, v11⟩ hm
    subst hk13
    refine WJ.seq ?_
    refine WJ.quiet ?_
    refine QJ.step (YldS.yld (y_move rfl)) rfl ?_
    refine QJ.step (YldS.yld (y_assign rfl)) rfl ?_
    refine QJ.done ?_
    refine PJ.next ?_
    refine WJ.ret ?_
    obtain rfl := Option.some.inj hm
    refine PJ.sel (L' := [box g2 63 [v3, .int .i64 x7, .int .u64 x8], row v11 34 fRaw2 vs10, ins shWriter 39 fTypeFault vs10 l9]) [0, 2, 1] ⟨by decide, rfl⟩ ?_
    exact PJ.retn (vs := [v11]) Try.results11 ⟨rfl, trivial⟩ ⟨_, _, rfl, rfl⟩

set_option maxRecDepth 100000 in
set_option maxHeartbeats 1000000 in
theorem ok_s_A2Writers {N : Nat} {code1 : List UInt8} {r : (List Writer)} (hm : s_A2Writers N code1 = some r) (w : World) (v2 : Value) (hr3 : RdS w (cx w).Fz v2 fByte.rp code1) :
    Calls Try.prog 5 #[v2] w (RetG (cx w) fun u L => ∃ (u1 : Value) (u2 : List (Raw 2)), (u = u1 ∧ L = [row u1 34 fRaw2 u2, ins shWriter 39 fTypeFault u2 r])) := by
  unfold s_A2Writers at hm
  refine Calls.enter [v2] Try.func5 rfl Try.ntmps5 rfl ?_
  refine WJ.seq ?_
  refine WJ.quiet ?_
  refine QJ.step (YldS.yld (y_assign rfl)) rfl ?_
  refine QJ.done ?_
  refine PJ.next ?_
  refine WJ.seq ?_
  refine WJ.reg ?_
  refine SJ.q (YldS.yld (y_move rfl)) rfl ?_
  obtain ⟨r4, h5, hm⟩ := bindS hm
  refine SJ.call Try.call12 rfl (fun w hw => ok_s_l00From h5 w _ (hr3.st hw)) rfl ?_
  rintro _ _ ⟨g6, rfl, rfl⟩
  obtain ⟨r7, h8, hm⟩ := bindS hm
  refine SJ.call1 (k := 0) rfl Try.call11 rfl (fun w S hw hA hO => ok_s_l15Draw h8 w S _ (hr3.st1 hw hO) hA) rfl ?_
  rintro v9 _ ⟨_, vs10, rfl, rfl⟩
  refine SJ.q (YldS.yld (y_assign rfl)) rfl ?_
  refine SJ.nil ?_
  refine PJ.next ?_
  refine WJ.ret ?_
  obtain rfl := Option.some.inj hm
  refine PJ.sel (L' := [row v9 34 fRaw2 vs10, ins shWriter 39 fTypeFault vs10 r7.1]) [1, 2] ⟨by decide, rfl⟩ ?_
  exact PJ.retn (vs := [v9]) Try.results5 ⟨rfl, trivial⟩ ⟨_, _, rfl, rfl⟩

set_option maxRecDepth 100000 in
set_option maxHeartbeats 1000000 in
theorem ok_i_isDigit {b1 : UInt8} {r : Bool} (hm : i_isDigit b1 = some r) (w : World)  :
    Calls Try.prog 55 #[.int .u8 (UInt8.toNat b1 : Int)] w (Ret (cx w) (.bool r)) := by
  unfold i_isDigit at hm
  refine Calls.enter [.int .u8 (UInt8.toNat b1 : Int)] Try.func55 rfl Try.ntmps55 rfl ?_
  refine WJ.seq ?_
  refine WJ.quiet ?_
  refine QJ.step (YldS.yld (y_assign rfl)) rfl ?_
  refine QJ.done ?_
  refine PJ.next ?_
  refine WJ.seq ?_
  refine WJ.quiet ?_
  refine QJ.step (YldS.yld (y_move rfl)) rfl ?_
  refine QJ.step (YldS.yld (y_bin8 b1 (48 : UInt8) rfl rfl rfl)) rfl ?_
  refine QJ.step (YldS.yld (y_move rfl)) rfl ?_
  obtain ⟨t2, h3, hm⟩ := bindS hm
  refine QJ.cut 3 [(8, .bool t2)] ?_ ?_
  · rcases Bool.eq_false_or_eq_true (decide (b1 ≥ (48 : UInt8))) with hb4 | hb4
    · replace h3 := andT h3 hb4
      refine QJ.on rfl rfl (cB hb4) (YldS.yld (y_move rfl)) rfl ?_
      refine QJ.on rfl rfl (cB hb4) (YldS.yld (y_bin8 b1 (57 : UInt8) rfl rfl rfl)) rfl ?_
      refine QJ.step (YldS.yld (y_pick_t (cB hb4) rfl)) rfl ?_
      obtain rfl := Option.some.inj h3
      exact QJ.cut_end ⟨rfl, trivial⟩
    · obtain rfl := andF h3 hb4
      refine QJ.off rfl rfl (cB hb4) rfl rfl ?_
      refine QJ.off rfl rfl (cB hb4) rfl rfl ?_
      refine QJ.step (YldS.yld (y_pick_f (cB hb4) rfl)) rfl ?_
      exact QJ.cut_end ⟨rfl, trivial⟩
  refine QJ.step (YldS.yld (y_assign rfl)) rfl ?_
  refine QJ.done ?_
  refine PJ.next ?_
  refine WJ.ret ?_
  obtain rfl := Option.some.inj hm
  refine PJ.sel (L' := []) [] ⟨List.nodup_nil, rfl⟩ ?_
  exact PJ.retn (vs := [.bool t2]) Try.results55 ⟨rfl, trivial⟩ ⟨rfl, rfl⟩

set_option maxRecDepth 100000 in
set_option maxHeartbeats 1000000 in
theorem ok_i_IsName {N : Nat} {s1 : Str} {r : Bool} (hm : i_IsName N s1 = some r) (w : World)  :
    Calls Try.prog 31 #[str s1] w (Ret (cx w) (.bool r)) := by
  unfold i_IsName at hm
  refine Calls.enter [str s1] Try.func31 rfl Try.ntmps31 rfl ?_
  refine WJ.seq ?_
  refine WJ.quiet ?_
  refine QJ.step (YldS.yld (y_assign rfl)) rfl ?_
  refine QJ.done ?_
  refine PJ.next ?_
  refine WJ.seq ?_
  refine WJ.seq ?_
  refine WJ.quiet ?_
  refine QJ.step (YldS.yld (y_move rfl)) rfl ?_
  refine QJ.step (YldS.yld (y_lenStr Try.runUnderlying9 rfl)) rfl ?_
  refine QJ.step (YldS.yld (y_bin rfl rfl rfl)) rfl ?_
  refine QJ.step (YldS.yld (y_move rfl)) rfl ?_
  obtain ⟨t2, h3, hm⟩ := bindS hm
  refine QJ.cut 4 [(0, str s1), (12, .bool t2)] ?_ ?_
  · rcases Bool.eq_false_or_eq_true ((List.length s1 : Int) == 0) with hb4 | hb4
    · obtain rfl := orT h3 hb4
      refine QJ.off rfl rfl (cB hb4) rfl rfl ?_
      refine QJ.off rfl rfl (cB hb4) rfl rfl ?_
      refine QJ.off rfl rfl (cB hb4) rfl rfl ?_
      refine QJ.step (YldS.yld (y_pick_t (cB hb4) rfl)) rfl ?_
      exact QJ.cut_end ⟨rfl, rfl, trivial⟩
    · replace h3 := orF h3 hb4
      refine QJ.on rfl rfl (cB hb4) (YldS.yld (y_move rfl)) rfl ?_
      refine QJ.on rfl rfl (cB hb4) (YldS.yld (y_lenStr Try.runUnderlying9 rfl)) rfl ?_
      refine QJ.on rfl rfl (cB hb4) (YldS.yld (y_bin rfl rfl rfl)) rfl ?_
      refine QJ.step (YldS.yld (y_pick_f (cB hb4) rfl)) rfl ?_
      obtain rfl := Option.some.inj h3
      exact QJ.cut_end ⟨rfl, rfl, trivial⟩
  refine QJ.done ?_
  refine PJ.next ?_
  refine WJ.cond (t := t2) rfl (fun hb5 => ?_) (fun hb5 => ?_)
  · replace hm := ifT hm hb5
    refine WJ.seq ?_
    refine WJ.quiet ?_
    refine QJ.step (YldS.yld (y_assign rfl)) rfl ?_
    refine QJ.done ?_
    refine PJ.next ?_
    refine WJ.ret ?_
    refine PJ.then_ret ?_
    obtain rfl := Option.some.inj hm
    refine PJ.sel (L' := []) [] ⟨List.nodup_nil, rfl⟩ ?_
    exact PJ.retn (vs := [.bool false]) Try.results31 ⟨rfl, trivial⟩ ⟨rfl, rfl⟩
  · replace hm := ifF hm hb5
    refine WJ.skip ?_
    refine PJ.next ?_
    obtain ⟨kj6, hk7, hm⟩ := withK_open hm
    refine WJ.join (X := Unit) (fun (_ : Unit) => kj6  = some r) (fun (_ : Unit) => []) (fun (_ : Unit) => []) ?_ ?_
    · clear hk7
      refine WJ.seq ?_
      refine WJ.quiet ?_
      refine QJ.step (YldS.yld (y_move rfl)) rfl ?_
      refine QJ.step (YldS.yld (y_lenStr Try.runUnderlying9 rfl)) rfl ?_
      refine QJ.step (YldS.yld (y_move rfl)) rfl ?_
      refine QJ.done ?_
      refine PJ.next ?_
      refine WJ.block ?_
      refine WJ.sel (L' := (fun (x : Int) => []) 0) [] ⟨List.nodup_nil, rfl⟩ ?_
      refine WJ.sub (m' := (fun (x : Int) => [(0, str s1), (14, .int .i64 (List.length s1 : Int)), (15, .int .i64 x)]) 0) ⟨rfl, rfl, rfl, trivial⟩ ?_
      refine WJ.loop (X := Int) (fun N (x : Int) => i_IsName_l1 kj6 s1 N x = some r) (fun (x : Int) => [(0, str s1), (14, .int .i64 (List.length s1 : Int)), (15, .int .i64 x)]) (fun (x : Int) => []) ?_ N 0 hm
      · rintro N x8 hI
        have hm := hI; clear hI
        cases N with
        | zero => cases hm
        | succ N =>
        unfold i_IsName_l1 at hm
        refine WJ.seq ?_
        refine WJ.quiet ?_
        refine QJ.step (YldS.yld (y_bin rfl rfl rfl)) rfl ?_
        refine QJ.done ?_
        refine PJ.next ?_
        refine WJ.seq ?_
        refine WJ.cond (t := decide (x8 < (List.length s1 : Int))) rfl (fun hb9 => ?_) (fun hb9 => ?_)
        · replace hm := ifT hm hb9
          refine WJ.skip ?_
          refine PJ.next ?_
          refine WJ.seq ?_
          refine WJ.block ?_
          refine WJ.seq ?_
          refine WJ.quiet ?_
          refine QJ.step (YldS.yld (y_move rfl)) rfl ?_
          refine QJ.step (YldS.yld (y_assign rfl)) rfl ?_
          refine QJ.done ?_
          refine PJ.next ?_
          refine WJ.seq ?_
          refine WJ.quiet ?_
          refine QJ.step (YldS.yld (y_move rfl)) rfl ?_
          refine QJ.step (YldS.yld (y_move rfl)) rfl ?_
          obtain ⟨c10, h11, hm⟩ := bindS hm
          refine QJ.step (YldS.yld (y_idxStr Try.runUnderlying9 rfl rfl h11)) rfl ?_
          refine QJ.step (YldS.yld (y_bin8 c10 (97 : UInt8) rfl rfl rfl)) rfl ?_
          refine QJ.step (YldS.yld (y_move rfl)) rfl ?_
          obtain ⟨t12, h13, hm⟩ := bindS hm
          refine QJ.cut 5 [(0, str s1), (3, .int .i64 x8), (14, .int .i64 (List.length s1 : Int)), (15, .int .i64 x8), (27, .bool t12)] ?_ ?_
          · rcases Bool.eq_false_or_eq_true (decide (c10 ≥ (97 : UInt8))) with hb14 | hb14
            · replace h13 := andT h13 hb14
              refine QJ.on rfl rfl (cB hb14) (YldS.yld (y_move rfl)) rfl ?_
              refine QJ.on rfl rfl (cB hb14) (YldS.yld (y_move rfl)) rfl ?_
              obtain ⟨c15, h16, h13⟩ := bindS h13
              refine QJ.on rfl rfl (cB hb14) (YldS.yld (y_idxStr Try.runUnderlying9 rfl rfl h16)) rfl ?_
              refine QJ.on rfl rfl (cB hb14) (YldS.yld (y_bin8 c15 (122 : UInt8) rfl rfl rfl)) rfl ?_
              refine QJ.step (YldS.yld (y_pick_t (cB hb14) rfl)) rfl ?_
              obtain rfl := Option.some.inj h13
              exact QJ.cut_end ⟨rfl, rfl, rfl, rfl, rfl, trivial⟩
            · obtain rfl := andF h13 hb14
              refine QJ.off rfl rfl (cB hb14) rfl rfl ?_
              refine QJ.off rfl rfl (cB hb14) rfl rfl ?_
              refine QJ.off rfl rfl (cB hb14) rfl rfl ?_
              refine QJ.off rfl rfl (cB hb14) rfl rfl ?_
              refine QJ.step (YldS.yld (y_pick_f (cB hb14) rfl)) rfl ?_
              exact QJ.cut_end ⟨rfl, rfl, rfl, rfl, rfl, trivial⟩
          refine QJ.step (YldS.yld (y_assign rfl)) rfl ?_
          refine QJ.done ?_
          refine PJ.next ?_
          refine WJ.seq ?_
          refine WJ.quiet ?_
          refine QJ.step (YldS.yld (y_move rfl)) rfl ?_
          refine QJ.step (YldS.yld (y_not rfl)) rfl ?_
          refine QJ.step (YldS.yld (y_move rfl)) rfl ?_
          obtain ⟨t17, h18, hm⟩ := bindS hm
          refine QJ.cut 16 [(0, str s1), (14, .int .i64 (List.length s1 : Int)), (15, .int .i64 x8), (46, .bool t17)] ?_ ?_
          · rcases Bool.eq_false_or_eq_true (!t12) with hb19 | hb19
            · replace h18 := andT h18 hb19
              refine QJ.on rfl rfl (cB hb19) (YldS.yld (y_move rfl)) rfl ?_
              refine QJ.on rfl rfl (cB hb19) (YldS.yld (y_bin rfl rfl rfl)) rfl ?_
              refine QJ.on rfl rfl (cB hb19) (YldS.yld (y_move rfl)) rfl ?_
              obtain ⟨t20, h21, h18⟩ := bindS h18
              refine QJ.cut 12 [(0, str s1), (14, .int .i64 (List.length s1 : Int)), (15, .int .i64 x8), (30, .bool (!t12)), (45, .bool t20)] ?_ ?_
              · rcases Bool.eq_false_or_eq_true (x8 == 0) with hb22 | hb22
                · obtain rfl := orT h21 hb22
                  refine QJ.off rfl rfl (cB hb22) rfl rfl ?_
                  refine QJ.off rfl rfl (cB hb22) rfl rfl ?_
                  refine QJ.off rfl rfl (cB hb22) rfl rfl ?_
                  refine QJ.off rfl rfl (cB hb22) rfl rfl ?_
                  refine QJ.off rfl rfl (cB hb22) rfl rfl ?_
                  refine QJ.off_undef rfl rfl rfl rfl ?_
                  refine QJ.off_undef rfl rfl rfl rfl ?_
                  refine QJ.off_undef rfl rfl rfl rfl ?_
                  refine QJ.off_undef rfl rfl rfl rfl ?_
                  refine QJ.off_undef rfl rfl rfl rfl ?_
                  refine QJ.off rfl rfl (cB hb22) rfl rfl ?_
                  refine QJ.on rfl rfl (cB hb19) (YldS.yld (y_pick_t (cB hb22) rfl)) rfl ?_
                  exact QJ.cut_end ⟨rfl, rfl, rfl, rfl, rfl, trivial⟩
                · replace h21 := orF h21 hb22
                  refine QJ.on rfl rfl (cB hb22) (YldS.yld (y_move rfl)) rfl ?_
                  refine QJ.on rfl rfl (cB hb22) (YldS.yld (y_move rfl)) rfl ?_
                  obtain ⟨c23, h24, h21⟩ := bindS h21
                  refine QJ.on rfl rfl (cB hb22) (YldS.yld (y_idxStr Try.runUnderlying9 rfl rfl h24)) rfl ?_
                  refine QJ.on rfl rfl (cB hb22) (YldS.yld (y_bin8 c23 (45 : UInt8) rfl rfl rfl)) rfl ?_
                  refine QJ.on rfl rfl (cB hb22) (YldS.yld (y_move rfl)) rfl ?_
                  obtain ⟨t25, h26, h21⟩ := bindS h21
                  refine QJ.cut 6 [(0, str s1), (14, .int .i64 (List.length s1 : Int)), (15, .int .i64 x8), (30, .bool (!t12)), (33, .bool (x8 == 0)), (44, .bool t25)] ?_ ?_
                  · rcases Bool.eq_false_or_eq_true (c23 != (45 : UInt8)) with hb27 | hb27
                    · replace h26 := andT h26 hb27
                      refine QJ.on rfl rfl (cB hb27) (YldS.yld (y_move rfl)) rfl ?_
                      refine QJ.on rfl rfl (cB hb27) (YldS.yld (y_move rfl)) rfl ?_
                      obtain ⟨c28, h29, h26⟩ := bindS h26
                      refine QJ.on rfl rfl (cB hb27) (YldS.yld (y_idxStr Try.runUnderlying9 rfl rfl h29)) rfl ?_
                      obtain ⟨r30, h31, h26⟩ := bindS h26
                      refine QJ.on rfl rfl (cB hb27) (y_call Try.call55 rfl (RetG.quiet fun w hw => ok_i_isDigit h31 w )) rfl ?_
                      refine QJ.on rfl rfl (cB hb27) (YldS.yld (y_not rfl)) rfl ?_
                      refine QJ.on rfl rfl (cB hb22) (YldS.yld (y_pick_t (cB hb27) rfl)) rfl ?_
                      obtain rfl := Option.some.inj h26
                      exact QJ.cut_end ⟨rfl, rfl, rfl, rfl, rfl, rfl, trivial⟩
                    · obtain rfl := andF h26 hb27
                      refine QJ.off rfl rfl (cB hb27) rfl rfl ?_
                      refine QJ.off rfl rfl (cB hb27) rfl rfl ?_
                      refine QJ.off rfl rfl (cB hb27) rfl rfl ?_
                      refine QJ.off rfl rfl (cB hb27) rfl rfl ?_
                      refine QJ.off rfl rfl (cB hb27) rfl rfl ?_
                      refine QJ.on rfl rfl (cB hb22) (YldS.yld (y_pick_f (cB hb27) rfl)) rfl ?_
                      exact QJ.cut_end ⟨rfl, rfl, rfl, rfl, rfl, rfl, trivial⟩
                  refine QJ.on rfl rfl (cB hb19) (YldS.yld (y_pick_f (cB hb22) rfl)) rfl ?_
                  obtain rfl := Option.some.inj h21
                  exact QJ.cut_end ⟨rfl, rfl, rfl, rfl, rfl, trivial⟩
              refine QJ.step (YldS.yld (y_pick_t (cB hb19) rfl)) rfl ?_
              obtain rfl := Option.some.inj h18
              exact QJ.cut_end ⟨rfl, rfl, rfl, rfl, trivial⟩
            · obtain rfl := andF h18 hb19
              refine QJ.off rfl rfl (cB hb19) rfl rfl ?_
              refine QJ.off rfl rfl (cB hb19) rfl rfl ?_
              refine QJ.off rfl rfl (cB hb19) rfl rfl ?_
              refine QJ.off_undef rfl rfl rfl rfl ?_
              refine QJ.off_undef rfl rfl rfl rfl ?_
              refine QJ.off_undef rfl rfl rfl rfl ?_
              refine QJ.off_undef rfl rfl rfl rfl ?_
              refine QJ.off_undef rfl rfl rfl rfl ?_
              refine QJ.off_undef rfl rfl rfl rfl ?_
              refine QJ.off_undef rfl rfl rfl rfl ?_
              refine QJ.off_undef rfl rfl rfl rfl ?_
              refine QJ.off_undef rfl rfl rfl rfl ?_
              refine QJ.off_undef rfl rfl rfl rfl ?_
              refine QJ.off_undef rfl rfl rfl rfl ?_
              refine QJ.off rfl rfl (cB hb19) rfl rfl ?_
              refine QJ.step (YldS.yld (y_pick_f (cB hb19) rfl)) rfl ?_
              exact QJ.cut_end ⟨rfl, rfl, rfl, rfl, trivial⟩
          refine QJ.done ?_
          refine PJ.next ?_
          refine WJ.cond (t := t17) rfl (fun hb32 => ?_) (fun hb32 => ?_)
          · replace hm := ifT hm hb32
            refine WJ.seq ?_
            refine WJ.quiet ?_
            refine QJ.step (YldS.yld (y_assign rfl)) rfl ?_
            refine QJ.done ?_
            refine PJ.next ?_
            refine WJ.ret ?_
            refine PJ.block_ret (PJ.then_ret (PJ.then_ret (PJ.block_ret (PJ.then_ret ?_))))
            obtain rfl := Option.some.inj hm
            refine PJ.sel (L' := []) [] ⟨List.nodup_nil, rfl⟩ ?_
            exact PJ.retn (vs := [.bool false]) Try.results31 ⟨rfl, trivial⟩ ⟨rfl, rfl⟩
          · replace hm := ifF hm hb32
            refine WJ.skip ?_
            refine PJ.block_normal (PJ.next ?_)
            refine WJ.quiet ?_
            refine QJ.step (YldS.yld (y_bin rfl rfl rfl)) rfl ?_
            refine QJ.step (YldS.yld (y_move rfl)) rfl ?_
            refine QJ.done ?_
            exact PJ.round (w64 (x8 + 1)) [] hm ⟨rfl, rfl, rfl, trivial⟩ ⟨List.nodup_nil, rfl⟩
        · replace hm := ifF hm hb9
          refine WJ.exit ?_
          refine PJ.then_exit (PJ.then_exit (PJ.block_exit ?_))
          exact PJ.joined () [] hm trivial ⟨List.nodup_nil, rfl⟩
    · rintro _ hm
      subst hk7
      refine WJ.seq ?_
      refine WJ.quiet ?_
      refine QJ.step (YldS.yld (y_assign rfl)) rfl ?_
      refine QJ.done ?_
      refine PJ.next ?_
      refine WJ.ret ?_
      obtain rfl := Option.some.inj hm
      refine PJ.sel (L' := []) [] ⟨List.nodup_nil, rfl⟩ ?_
      exact PJ.retn (vs := [.bool true]) Try.results31 ⟨rfl, trivial⟩ ⟨rfl, rfl⟩

set_option maxRecDepth 100000 in
set_option maxHeartbeats 1000000 in
theorem ok_i_isText {N : Nat} {s1 : Str} {low2 : UInt8} {most3 : Int} {r : Bool} (hm : i_isText N s1 low2 most3 = some r) (w : World)  :
    Calls Try.prog 33 #[str s1, .int .u8 (UInt8.toNat low2 : Int), .int .i64 most3] w (Ret (cx w) (.bool r)) := by
  unfold i_isText at hm
  refine Calls.enter [str s1, .int .u8 (UInt8.toNat low2 : Int), .int .i64 most3] Try.func33 rfl Try.ntmps33 rfl ?_
  refine WJ.seq ?_
  refine WJ.quiet ?_
  refine QJ.step (YldS.yld (y_assign rfl)) rfl ?_
  refine QJ.done ?_
  refine PJ.next ?_
  refine WJ.seq ?_
  refine WJ.seq ?_
  refine WJ.quiet ?_
  refine QJ.step (YldS.yld (y_move rfl)) rfl ?_
  refine QJ.step (YldS.yld (y_lenStr Try.runUnderlying9 rfl)) rfl ?_
  refine QJ.step (YldS.yld (y_move rfl)) rfl ?_
  refine QJ.step (YldS.yld (y_bin rfl rfl rfl)) rfl ?_
  refine QJ.done ?_
  refine PJ.next ?_
  refine WJ.cond (t := decide ((List.length s1 : Int) > most3)) rfl (fun hb4 => ?_) (fun hb4 => ?_)
  · replace hm := ifT hm hb4
    refine WJ.seq ?_
    refine WJ.quiet ?_
    refine QJ.step (YldS.yld (y_assign rfl)) rfl ?_
    refine QJ.done ?_
    refine PJ.next ?_
    refine WJ.ret ?_
    refine PJ.then_ret ?_
    obtain rfl := Option.some.inj hm
    refine PJ.sel (L' := []) [] ⟨List.nodup_nil, rfl⟩ ?_
    exact PJ.retn (vs := [.bool false]) Try.results33 ⟨rfl, trivial⟩ ⟨rfl, rfl⟩
  · replace hm := ifF hm hb4
    refine WJ.skip ?_
    refine PJ.next ?_
    obtain ⟨kj5, hk6, hm⟩ := withK_open hm
    refine WJ.join (X := Unit) (fun (_ : Unit) => kj5  = some r) (fun (_ : Unit) => []) (fun (_ : Unit) => []) ?_ ?_
    · clear hk6
      refine WJ.seq ?_
      refine WJ.quiet ?_
      refine QJ.step (YldS.yld (y_move rfl)) rfl ?_
      refine QJ.step (YldS.yld (y_lenStr Try.runUnderlying9 rfl)) rfl ?_
      refine QJ.step (YldS.yld (y_move rfl)) rfl ?_
      refine QJ.done ?_
      refine PJ.next ?_
      refine WJ.block ?_
      refine WJ.sel (L' := (fun (x : Int) => []) 0) [] ⟨List.nodup_nil, rfl⟩ ?_
      refine WJ.sub (m' := (fun (x : Int) => [(0, str s1), (1, .int .u8 (UInt8.toNat low2 : Int)), (13, .int .i64 (List.length s1 : Int)), (14, .int .i64 x)]) 0) ⟨rfl, rfl, rfl, rfl, trivial⟩ ?_
      refine WJ.loop (X := Int) (fun N (x : Int) => i_isText_l1 kj5 s1 low2 N x = some r) (fun (x : Int) => [(0, str s1), (1, .int .u8 (UInt8.toNat low2 : Int)), (13, .int .i64 (List.length s1 : Int)), (14, .int .i64 x)]) (fun (x : Int) => []) ?_ N 0 hm
      · rintro N x7 hI
        have hm := hI; clear hI
        cases N with
        | zero => cases hm
        | succ N =>
        unfold i_isText_l1 at hm
        refine WJ.seq ?_
        refine WJ.quiet ?_
        refine QJ.step (YldS.yld (y_bin rfl rfl rfl)) rfl ?_
        refine QJ.done ?_
        refine PJ.next ?_
        refine WJ.seq ?_
        refine WJ.cond (t := decide (x7 < (List.length s1 : Int))) rfl (fun hb8 => ?_) (fun hb8 => ?_)
        · replace hm := ifT hm hb8
          refine WJ.skip ?_
          refine PJ.next ?_
          refine WJ.seq ?_
          refine WJ.block ?_
          refine WJ.seq ?_
          refine WJ.quiet ?_
          refine QJ.step (YldS.yld (y_move rfl)) rfl ?_
          refine QJ.step (YldS.yld (y_assign rfl)) rfl ?_
          refine QJ.done ?_
          refine PJ.next ?_
          refine WJ.seq ?_
          refine WJ.quiet ?_
          refine QJ.step (YldS.yld (y_move rfl)) rfl ?_
          refine QJ.step (YldS.yld (y_move rfl)) rfl ?_
          obtain ⟨c9, h10, hm⟩ := bindS hm
          refine QJ.step (YldS.yld (y_idxStr Try.runUnderlying9 rfl rfl h10)) rfl ?_
          refine QJ.step (YldS.yld (y_move rfl)) rfl ?_
          refine QJ.step (YldS.yld (y_bin8 c9 low2 rfl rfl rfl)) rfl ?_
          refine QJ.step (YldS.yld (y_move rfl)) rfl ?_
          obtain ⟨t11, h12, hm⟩ := bindS hm
          refine QJ.cut 5 [(0, str s1), (1, .int .u8 (UInt8.toNat low2 : Int)), (13, .int .i64 (List.length s1 : Int)), (14, .int .i64 x7), (27, .bool t11)] ?_ ?_
          · rcases Bool.eq_false_or_eq_true (decide (c9 < low2)) with hb13 | hb13
            · obtain rfl := orT h12 hb13
              refine QJ.off rfl rfl (cB hb13) rfl rfl ?_
              refine QJ.off rfl rfl (cB hb13) rfl rfl ?_
              refine QJ.off rfl rfl (cB hb13) rfl rfl ?_
              refine QJ.off rfl rfl (cB hb13) rfl rfl ?_
              refine QJ.step (YldS.yld (y_pick_t (cB hb13) rfl)) rfl ?_
              exact QJ.cut_end ⟨rfl, rfl, rfl, rfl, rfl, trivial⟩
            · replace h12 := orF h12 hb13
              refine QJ.on rfl rfl (cB hb13) (YldS.yld (y_move rfl)) rfl ?_
              refine QJ.on rfl rfl (cB hb13) (YldS.yld (y_move rfl)) rfl ?_
              obtain ⟨c14, h15, h12⟩ := bindS h12
              refine QJ.on rfl rfl (cB hb13) (YldS.yld (y_idxStr Try.runUnderlying9 rfl rfl h15)) rfl ?_
              refine QJ.on rfl rfl (cB hb13) (YldS.yld (y_bin8 c14 (126 : UInt8) rfl rfl rfl)) rfl ?_
              refine QJ.step (YldS.yld (y_pick_f (cB hb13) rfl)) rfl ?_
              obtain rfl := Option.some.inj h12
              exact QJ.cut_end ⟨rfl, rfl, rfl, rfl, rfl, trivial⟩
          refine QJ.done ?_
          refine PJ.next ?_
          refine WJ.cond (t := t11) rfl (fun hb16 => ?_) (fun hb16 => ?_)
          · replace hm := ifT hm hb16
            refine WJ.seq ?_
            refine WJ.quiet ?_
            refine QJ.step (YldS.yld (y_assign rfl)) rfl ?_
            refine QJ.done ?_
            refine PJ.next ?_
            refine WJ.ret ?_
            refine PJ.block_ret (PJ.then_ret (PJ.then_ret (PJ.block_ret (PJ.then_ret ?_))))
            obtain rfl := Option.some.inj hm
            refine PJ.sel (L' := []) [] ⟨List.nodup_nil, rfl⟩ ?_
            exact PJ.retn (vs := [.bool false]) Try.results33 ⟨rfl, trivial⟩ ⟨rfl, rfl⟩
          · replace hm := ifF hm hb16
            refine WJ.skip ?_
            refine PJ.block_normal (PJ.next ?_)
            refine WJ.quiet ?_
            refine QJ.step (YldS.yld (y_bin rfl rfl rfl)) rfl ?_
            refine QJ.step (YldS.yld (y_move rfl)) rfl ?_
            refine QJ.done ?_
            exact PJ.round (w64 (x7 + 1)) [] hm ⟨rfl, rfl, rfl, rfl, trivial⟩ ⟨List.nodup_nil, rfl⟩
        · replace hm := ifF hm hb8
          refine WJ.exit ?_
          refine PJ.then_exit (PJ.then_exit (PJ.block_exit ?_))
          exact PJ.joined () [] hm trivial ⟨List.nodup_nil, rfl⟩
    · rintro _ hm
      subst hk6
      refine WJ.seq ?_
      refine WJ.quiet ?_
      refine QJ.step (YldS.yld (y_assign rfl)) rfl ?_
      refine QJ.done ?_
      refine PJ.next ?_
      refine WJ.ret ?_
      obtain rfl := Option.some.inj hm
      refine PJ.sel (L' := []) [] ⟨List.nodup_nil, rfl⟩ ?_
      exact PJ.retn (vs := [.bool true]) Try.results33 ⟨rfl, trivial⟩ ⟨rfl, rfl⟩

set_option maxRecDepth 100000 in
set_option maxHeartbeats 1000000 in
theorem ok_i_isLetter {N : Nat} {s1 : Str} {r : Bool} (hm : i_isLetter N s1 = some r) (w : World)  :
    Calls Try.prog 22 #[str s1] w (Ret (cx w) (.bool r)) := by
  unfold i_isLetter at hm
  refine Calls.enter [str s1] Try.func22 rfl Try.ntmps22 rfl ?_
  refine WJ.seq ?_
  refine WJ.quiet ?_
  refine QJ.step (YldS.yld (y_assign rfl)) rfl ?_
  refine QJ.done ?_
  refine PJ.next ?_
  refine WJ.seq ?_
  refine WJ.quiet ?_
  refine QJ.step (YldS.yld (y_move rfl)) rfl ?_
  refine QJ.step (YldS.yld (y_lenStr Try.runUnderlying9 rfl)) rfl ?_
  refine QJ.step (YldS.yld (y_bin rfl rfl rfl)) rfl ?_
  refine QJ.step (YldS.yld (y_move rfl)) rfl ?_
  obtain ⟨t2, h3, hm⟩ := bindS hm
  refine QJ.cut 3 [(9, .bool t2)] ?_ ?_
  · rcases Bool.eq_false_or_eq_true ((List.length s1 : Int) == 1) with hb4 | hb4
    · replace h3 := andT h3 hb4
      refine QJ.on rfl rfl (cB hb4) (YldS.yld (y_move rfl)) rfl ?_
      obtain ⟨r5, h6, h3⟩ := bindS h3
      refine QJ.on rfl rfl (cB hb4) (y_call Try.call33 rfl (RetG.quiet fun w hw => ok_i_isText h6 w )) rfl ?_
      refine QJ.step (YldS.yld (y_pick_t (cB hb4) rfl)) rfl ?_
      obtain rfl := Option.some.inj h3
      exact QJ.cut_end ⟨rfl, trivial⟩
    · obtain rfl := andF h3 hb4
      refine QJ.off rfl rfl (cB hb4) rfl rfl ?_
      refine QJ.off rfl rfl (cB hb4) rfl rfl ?_
      refine QJ.step (YldS.yld (y_pick_f (cB hb4) rfl)) rfl ?_
      exact QJ.cut_end ⟨rfl, trivial⟩
  refine QJ.step (YldS.yld (y_assign rfl)) rfl ?_
  refine QJ.done ?_
  refine PJ.next ?_
  refine WJ.ret ?_
  obtain rfl := Option.some.inj hm
  refine PJ.sel (L' := []) [] ⟨List.nodup_nil, rfl⟩ ?_
  exact PJ.retn (vs := [.bool t2]) Try.results22 ⟨rfl, trivial⟩ ⟨rfl, rfl⟩

set_option maxRecDepth 100000 in
set_option maxHeartbeats 1000000 in
theorem ok_i_between {n1 : Int} {low2 : Int} {high3 : Int} {r : Bool} (hm : i_between n1 low2 high3 = some r) (w : World)  :
    Calls Try.prog 32 #[.int .i64 n1, .int .i64 low2, .int .i64 high3] w (Ret (cx w) (.bool r)) := by
  unfold i_between at hm
  refine Calls.enter [.int .i64 n1, .int .i64 low2, .int .i64 high3] Try.func32 rfl Try.ntmps32 rfl ?_
  refine WJ.seq ?_
  refine WJ.quiet ?_
  refine QJ.step (YldS.yld (y_assign rfl)) rfl ?_
  refine QJ.done ?_
  refine PJ.next ?_
  refine WJ.seq ?_
  refine WJ.quiet ?_
  refine QJ.step (YldS.yld (y_move rfl)) rfl ?_
  refine QJ.step (YldS.yld (y_move rfl)) rfl ?_
  refine QJ.step (YldS.yld (y_bin rfl rfl rfl)) rfl ?_
  refine QJ.step (YldS.yld (y_move rfl)) rfl ?_
  obtain ⟨t4, h5, hm⟩ := bindS hm
  refine QJ.cut 4 [(14, .bool t4)] ?_ ?_
  · rcases Bool.eq_false_or_eq_true (decide (n1 ≥ low2)) with hb6 | hb6
    · replace h5 := andT h5 hb6
      refine QJ.on rfl rfl (cB hb6) (YldS.yld (y_move rfl)) rfl ?_
      refine QJ.on rfl rfl (cB hb6) (YldS.yld (y_move rfl)) rfl ?_
      refine QJ.on rfl rfl (cB hb6) (YldS.yld (y_bin rfl rfl rfl)) rfl ?_
      refine QJ.step (YldS.yld (y_pick_t (cB hb6) rfl)) rfl ?_
      obtain rfl := Option.some.inj h5
      exact QJ.cut_end ⟨rfl, trivial⟩
    · obtain rfl := andF h5 hb6
      refine QJ.off rfl rfl (cB hb6) rfl rfl ?_
      refine QJ.off rfl rfl (cB hb6) rfl rfl ?_
      refine QJ.off rfl rfl (cB hb6) rfl rfl ?_
      refine QJ.step (YldS.yld (y_pick_f (cB hb6) rfl)) rfl ?_
      exact QJ.cut_end ⟨rfl, trivial⟩
  refine QJ.step (YldS.yld (y_assign rfl)) rfl ?_
  refine QJ.done ?_
  refine PJ.next ?_
  refine WJ.ret ?_
  obtain rfl := Option.some.inj hm
  refine PJ.sel (L' := []) [] ⟨List.nodup_nil, rfl⟩ ?_
  exact PJ.retn (vs := [.bool t4]) Try.results32 ⟨rfl, trivial⟩ ⟨rfl, rfl⟩

set_option maxRecDepth 100000 in
set_option maxHeartbeats 1000000 in
theorem ok_i_validWriter {N : Nat} {w1 : Writer} {r : Bool} (hm : i_validWriter N w1 = some r) (w : World) (v2 : Value) (hr3 : RdS w (cx w).Fz v2 fTypeFault.rp w1.faults) :
    Calls Try.prog 20 #[.agg #[str w1.name, v2]] w (Ret (cx w) (.bool r)) := by
  unfold i_validWriter at hm
  refine Calls.enter [.agg #[str w1.name, v2]] Try.func20 rfl Try.ntmps20 rfl ?_
  refine WJ.seq ?_
  refine WJ.reg ?_
  refine SJ.box (cs := [str w1.name, v2]) rfl rfl rfl fun g4 => ?_
  refine SJ.q (YldS.yld (y_assign rfl)) rfl ?_
  refine SJ.nil ?_
  refine PJ.next ?_
  refine WJ.seq ?_
  refine WJ.seq ?_
  refine WJ.quiet ?_
  refine QJ.step (YldS.yld (y_fldB (o := 0) fld34_0 rfl)) rfl ?_
  refine QJ.step (YldS.yld (y_loadB (k := 0) (off := 0) (v := str w1.name) rfl Try.isAgg9 rfl rfl)) rfl ?_
  obtain ⟨r5, h6, hm⟩ := bindS hm
  refine QJ.step (y_call Try.call31 rfl (RetG.quiet fun w hw => ok_i_IsName h6 w )) rfl ?_
  refine QJ.step (YldS.yld (y_not rfl)) rfl ?_
  refine QJ.step (YldS.yld (y_move rfl)) rfl ?_
  obtain ⟨t7, h8, hm⟩ := bindS hm
  refine QJ.cut 5 [(1, pt g4 0), (14, .bool t7)] ?_ ?_
  · rcases Bool.eq_false_or_eq_true (!r5) with hb9 | hb9
    · obtain rfl := orT h8 hb9
      refine QJ.off rfl rfl (cB hb9) rfl rfl ?_
      refine QJ.off rfl rfl (cB hb9) rfl rfl ?_
      refine QJ.off rfl rfl (cB hb9) rfl rfl ?_
      refine QJ.off rfl rfl (cB hb9) rfl rfl ?_
      refine QJ.step (YldS.yld (y_pick_t (cB hb9) rfl)) rfl ?_
      exact QJ.cut_end ⟨rfl, rfl, trivial⟩
    · replace h8 := orF h8 hb9
      refine QJ.on rfl rfl (cB hb9) (YldS.yld (y_fldB (o := 0) fld34_1 rfl)) rfl ?_
      refine QJ.on rfl rfl (cB hb9) (YldS.yld (y_loadB (k := 0) (off := 1) (v := v2) rfl Try.isAgg29 rfl rfl)) rfl ?_
      refine QJ.on rfl rfl (cB hb9) (YldS.yld (y_lenS Try.runUnderlying29 hr3 rfl)) rfl ?_
      refine QJ.on rfl rfl (cB hb9) (YldS.yld (y_bin rfl rfl rfl)) rfl ?_
      refine QJ.step (YldS.yld (y_pick_f (cB hb9) rfl)) rfl ?_
      obtain rfl := Option.some.inj h8
      exact QJ.cut_end ⟨rfl, rfl, trivial⟩
  refine QJ.done ?_
  refine PJ.next ?_
  refine WJ.cond (t := t7) rfl (fun hb10 => ?_) (fun hb10 => ?_)
  · replace hm := ifT hm hb10
    refine WJ.seq ?_
    refine WJ.quiet ?_
    refine QJ.step (YldS.yld (y_assign rfl)) rfl ?_
    refine QJ.done ?_
    refine PJ.next ?_
    refine WJ.ret ?_
    refine PJ.then_ret ?_
    obtain rfl := Option.some.inj hm
    refine PJ.sel (L' := []) [] ⟨List.nodup_nil, rfl⟩ ?_
    exact PJ.retn (vs := [.bool false]) Try.results20 ⟨rfl, trivial⟩ ⟨rfl, rfl⟩
  · replace hm := ifF hm hb10
    refine WJ.skip ?_
    refine PJ.next ?_
    obtain ⟨kj11, hk12, hm⟩ := withK_open hm
    refine WJ.join (X := Unit) (fun (_ : Unit) => kj11  = some r) (fun (_ : Unit) => []) (fun (_ : Unit) => []) ?_ ?_
    · clear hk12
      refine WJ.seq ?_
      refine WJ.quiet ?_
      refine QJ.step (YldS.yld (y_fldB (o := 0) fld34_1 rfl)) rfl ?_
      refine QJ.step (YldS.yld (y_loadB (k := 0) (off := 1) (v := v2) rfl Try.isAgg29 rfl rfl)) rfl ?_
      refine QJ.step (YldS.yld (y_lenS Try.runUnderlying29 hr3 rfl)) rfl ?_
      refine QJ.step (YldS.yld (y_move rfl)) rfl ?_
      refine QJ.done ?_
      refine PJ.next ?_
      refine WJ.block ?_
      refine WJ.sel (L' := (fun (x : Int) => [box g4 34 [str w1.name, v2]]) 0) [0] ⟨by decide, rfl⟩ ?_
      refine WJ.sub (m' := (fun (x : Int) => [(1, pt g4 0), (16, v2), (17, .int .i64 (List.length w1.faults : Int)), (18, .int .i64 x)]) 0) ⟨rfl, rfl, rfl, rfl, trivial⟩ ?_
      refine WJ.loop (X := Int) (fun N (x : Int) => i_validWriter_l1 kj11 w1 N x = some r) (fun (x : Int) => [(1, pt g4 0), (16, v2), (17, .int .i64 (List.length w1.faults : Int)), (18, .int .i64 x)]) (fun (x : Int) => [box g4 34 [str w1.name, v2]]) ?_ N 0 hm
      · rintro N x13 hI
        have hm := hI; clear hI
        cases N with
        | zero => cases hm
        | succ N =>
        unfold i_validWriter_l1 at hm
        refine WJ.seq ?_
        refine WJ.quiet ?_
        refine QJ.step (YldS.yld (y_bin rfl rfl rfl)) rfl ?_
        refine QJ.done ?_
        refine PJ.next ?_
        refine WJ.seq ?_
        refine WJ.cond (t := decide (x13 < (List.length w1.faults : Int))) rfl (fun hb14 => ?_) (fun hb14 => ?_)
        · replace hm := ifT hm hb14
          refine WJ.skip ?_
          refine PJ.next ?_
          refine WJ.seq ?_
          refine WJ.block ?_
          refine WJ.seq ?_
          refine WJ.reg ?_
          refine SJ.q (YldS.yld (y_move rfl)) rfl ?_
          obtain ⟨e15, h16, hm⟩ := bindS hm
          obtain ⟨ad17, _, rfl, ha18, hy19⟩ := hr3.elem h16
          refine SJ.q (YldS.yld (hy19 Try.runUnderlying29 Try.sizeOf39 rfl rfl)) rfl ?_
          refine SJ.q (YldS.yld (y_loadN Try.isAgg39 Try.sizeOf39 rfl ha18 St.frozenC rfl)) rfl ?_
          refine SJ.alloc (cs := [str [], .int .i64 0]) Try.zeroValue39 rfl rfl fun g20 => ?_
          refine SJ.q (YldS.yld (y_assign rfl)) rfl ?_
          refine SJ.storeL (k := 0) (off := 0) (us := [str e15.letter, .int .i64 e15.kind]) rfl rfl rfl rfl Try.sizeOf39 rfl rfl ?_
          refine SJ.nil ?_
          refine PJ.next ?_
          refine WJ.seq ?_
          refine WJ.quiet_draw follows (by kernel_rfl) ?_
          refine QJ.step (YldS.yld (y_fldB (o := 0) fld39_0 rfl)) rfl ?_
          refine QJ.step (YldS.yld (y_loadB (k := 0) (off := 0) (v := str e15.letter) rfl Try.isAgg9 rfl rfl)) rfl ?_
          obtain ⟨r21, h22, hm⟩ := bindS hm
          refine QJ.step (y_call Try.call22 rfl (RetG.quiet fun w hw => ok_i_isLetter h22 w )) rfl ?_
          refine QJ.step (YldS.yld (y_not rfl)) rfl ?_
          refine QJ.step (YldS.yld (y_move rfl)) rfl ?_
          obtain ⟨t23, h24, hm⟩ := bindS hm
          refine QJ.cut 5 [(1, pt g4 0), (3, .int .i64 x13), (4, pt g20 0), (16, v2), (17, .int .i64 (List.length w1.faults : Int)), (18, .int .i64 x13), (32, .bool t23)] ?_ ?_
          · rcases Bool.eq_false_or_eq_true (!r21) with hb25 | hb25
            · obtain rfl := orT h24 hb25
              refine QJ.off rfl rfl (cB hb25) rfl rfl ?_
              refine QJ.off rfl rfl (cB hb25) rfl rfl ?_
              refine QJ.off rfl rfl (cB hb25) rfl rfl ?_
              refine QJ.off rfl rfl (cB hb25) rfl rfl ?_
              refine QJ.step (YldS.yld (y_pick_t (cB hb25) rfl)) rfl ?_
              exact QJ.cut_end ⟨rfl, rfl, rfl, rfl, rfl, rfl, rfl, trivial⟩
            · replace h24 := orF h24 hb25
              refine QJ.on rfl rfl (cB hb25) (YldS.yld (y_fldB (o := 0) fld39_1 rfl)) rfl ?_
              refine QJ.on rfl rfl (cB hb25) (YldS.yld (y_loadB (k := 0) (off := 1) (v := .int .i64 e15.kind) rfl Try.isAgg2 rfl rfl)) rfl ?_
              obtain ⟨r26, h27, h24⟩ := bindS h24
              refine QJ.on rfl rfl (cB hb25) (y_call Try.call32 rfl (RetG.quiet fun w hw => ok_i_between h27 w )) rfl ?_
              refine QJ.on rfl rfl (cB hb25) (YldS.yld (y_not rfl)) rfl ?_
              refine QJ.step (YldS.yld (y_pick_f (cB hb25) rfl)) rfl ?_
              obtain rfl := Option.some.inj h24
              exact QJ.cut_end ⟨rfl, rfl, rfl, rfl, rfl, rfl, rfl, trivial⟩
          refine QJ.step (YldS.yld (y_move rfl)) rfl ?_
          obtain ⟨t28, h29, hm⟩ := bindS hm
          refine QJ.cut 15 [(1, pt g4 0), (16, v2), (17, .int .i64 (List.length w1.faults : Int)), (18, .int .i64 x13), (48, .bool t28)] ?_ ?_
          · rcases Bool.eq_false_or_eq_true t23 with hb30 | hb30
            · obtain rfl := orT h29 hb30
              refine QJ.off rfl rfl (cB hb30) rfl rfl ?_
              refine QJ.off rfl rfl (cB hb30) rfl rfl ?_
              refine QJ.off rfl rfl (cB hb30) rfl rfl ?_
              refine QJ.off_undef rfl rfl rfl rfl ?_
              refine QJ.off_undef rfl rfl rfl rfl ?_
              refine QJ.off_undef rfl rfl rfl rfl ?_
              refine QJ.off_undef rfl rfl rfl rfl ?_
              refine QJ.off_undef rfl rfl rfl rfl ?_
              refine QJ.off_undef rfl rfl rfl rfl ?_
              refine QJ.off_undef rfl rfl rfl rfl ?_
              refine QJ.off_undef rfl rfl rfl rfl ?_
              refine QJ.off_undef rfl rfl rfl rfl ?_
              refine QJ.off_undef rfl rfl rfl rfl ?_
              refine QJ.off rfl rfl (cB hb30) rfl rfl ?_
              refine QJ.step (YldS.yld (y_pick_t (cB hb30) rfl)) rfl ?_
              exact QJ.cut_end ⟨rfl, rfl, rfl, rfl, rfl, trivial⟩
            · replace h29 := orF h29 hb30
              refine QJ.on rfl rfl (cB hb30) (YldS.yld (y_move rfl)) rfl ?_
              refine QJ.on rfl rfl (cB hb30) (YldS.yld (y_bin rfl rfl rfl)) rfl ?_
              refine QJ.on rfl rfl (cB hb30) (YldS.yld (y_move rfl)) rfl ?_
              obtain ⟨t31, h32, h29⟩ := bindS h29
              refine QJ.cut 11 [(1, pt g4 0), (16, v2), (17, .int .i64 (List.length w1.faults : Int)), (18, .int .i64 x13), (33, .bool t23), (47, .bool t31)] ?_ ?_
              · rcases Bool.eq_false_or_eq_true (decide (x13 > 0)) with hb33 | hb33
                · replace h32 := andT h32 hb33
                  refine QJ.on rfl rfl (cB hb33) (YldS.yld (y_fldB (o := 0) fld39_0 rfl)) rfl ?_
                  refine QJ.on rfl rfl (cB hb33) (YldS.yld (y_loadB (k := 0) (off := 0) (v := str e15.letter) rfl Try.isAgg9 rfl rfl)) rfl ?_
                  refine QJ.on rfl rfl (cB hb33) (YldS.yld (y_fldB (o := 0) fld34_1 rfl)) rfl ?_
                  refine QJ.on rfl rfl (cB hb33) (YldS.yld (y_loadB (k := 1) (off := 1) (v := v2) rfl Try.isAgg29 rfl rfl)) rfl ?_
                  refine QJ.on rfl rfl (cB hb33) (YldS.yld (y_move rfl)) rfl ?_
                  refine QJ.on rfl rfl (cB hb33) (YldS.yld (y_bin rfl rfl rfl)) rfl ?_
                  obtain ⟨e34, h35, h32⟩ := bindS h32
                  obtain ⟨ad36, _, rfl, ha37, hy38⟩ := hr3.elem h35
                  refine QJ.on rfl rfl (cB hb33) (YldS.yld (hy38 Try.runUnderlying29 Try.sizeOf39 rfl rfl)) rfl ?_
                  refine QJ.on rfl rfl (cB hb33) (YldS.yld (y_fld (ad := ad36) fld39_0 rfl)) rfl ?_
                  refine QJ.on rfl rfl (cB hb33) (YldS.yld (y_load1 (v := str e34.letter) Try.isAgg9 (ha37.sub 0 1) St.frozenC rfl)) rfl ?_
                  refine QJ.on rfl rfl (cB hb33) (YldS.yld (y_binS rfl rfl rfl)) rfl ?_
                  refine QJ.on rfl rfl (cB hb30) (YldS.yld (y_pick_t (cB hb33) rfl)) rfl ?_
                  obtain rfl := Option.some.inj h32
                  exact QJ.cut_end ⟨rfl, rfl, rfl, rfl, rfl, rfl, trivial⟩
                · obtain rfl := andF h32 hb33
                  refine QJ.off rfl rfl (cB hb33) rfl rfl ?_
                  refine QJ.off rfl rfl (cB hb33) rfl rfl ?_
                  refine QJ.off rfl rfl (cB hb33) rfl rfl ?_
                  refine QJ.off rfl rfl (cB hb33) rfl rfl ?_
                  refine QJ.off rfl rfl (cB hb33) rfl rfl ?_
                  refine QJ.off rfl rfl (cB hb33) rfl rfl ?_
                  refine QJ.off rfl rfl (cB hb33) rfl rfl ?_
                  refine QJ.off rfl rfl (cB hb33) rfl rfl ?_
                  refine QJ.off rfl rfl (cB hb33) rfl rfl ?_
                  refine QJ.off rfl rfl (cB hb33) rfl rfl ?_
                  refine QJ.on rfl rfl (cB hb30) (YldS.yld (y_pick_f (cB hb33) rfl)) rfl ?_
                  exact QJ.cut_end ⟨rfl, rfl, rfl, rfl, rfl, rfl, trivial⟩
              refine QJ.step (YldS.yld (y_pick_f (cB hb30) rfl)) rfl ?_
              obtain rfl := Option.some.inj h29
              exact QJ.cut_end ⟨rfl, rfl, rfl, rfl, rfl, trivial⟩
          refine QJ.done ?_
          refine PJ.next ?_
          refine WJ.cond (t := t28) rfl (fun hb39 => ?_) (fun hb39 => ?_)
          · replace hm := ifT hm hb39
            refine WJ.seq ?_
            refine WJ.quiet ?_
            refine QJ.step (YldS.yld (y_assign rfl)) rfl ?_
            refine QJ.done ?_
            refine PJ.next ?_
            refine WJ.ret ?_
            refine PJ.block_ret (PJ.then_ret (PJ.then_ret (PJ.block_ret (PJ.then_ret ?_))))
            obtain rfl := Option.some.inj hm
            refine PJ.sel (L' := []) [] ⟨List.nodup_nil, rfl⟩ ?_
            exact PJ.retn (vs := [.bool false]) Try.results20 ⟨rfl, trivial⟩ ⟨rfl, rfl⟩
          · replace hm := ifF hm hb39
            refine WJ.skip ?_
            refine PJ.block_normal (PJ.next ?_)
            refine WJ.quiet ?_
            refine QJ.step (YldS.yld (y_bin rfl rfl rfl)) rfl ?_
            refine QJ.step (YldS.yld (y_move rfl)) rfl ?_
            refine QJ.done ?_
            exact PJ.round (w64 (x13 + 1)) [1] hm ⟨rfl, rfl, rfl, rfl, trivial⟩ ⟨by decide, rfl⟩
        · replace hm := ifF hm hb14
          refine WJ.exit ?_
          refine PJ.then_exit (PJ.then_exit (PJ.block_exit ?_))
          exact PJ.joined () [] hm trivial ⟨List.nodup_nil, rfl⟩
    · rintro _ hm
      subst hk12
      refine WJ.seq ?_
      refine WJ.quiet ?_
      refine QJ.step (YldS.yld (y_assign rfl)) rfl ?_
      refine QJ.done ?_
      refine PJ.next ?_
      refine WJ.ret ?_
      obtain rfl := Option.some.inj hm
      refine PJ.sel (L' := []) [] ⟨List.nodup_nil, rfl⟩ ?_
      exact PJ.retn (vs := [.bool true]) Try.results20 ⟨rfl, trivial⟩ ⟨rfl, rfl⟩

set_option maxRecDepth 100000 in
set_option maxHeartbeats 1000000 in
theorem ok_i_ValidWriters {N : Nat} {list1 : List Writer} {r : Bool} (hm : i_ValidWriters N list1 = some r) (w : World) (v2 : Value) (hr3 : RdS w (cx w).Fz v2 (shWriter.rp fTypeFault.rp) list1) :
    Calls Try.prog 13 #[v2] w (Ret (cx w) (.bool r)) := by
  unfold i_ValidWriters at hm
  refine Calls.enter [v2] Try.func13 rfl Try.ntmps13 rfl ?_
  refine WJ.seq ?_
  refine WJ.quiet ?_
  refine QJ.step (YldS.yld (y_assign rfl)) rfl ?_
  refine QJ.done ?_
  refine PJ.next ?_
  refine WJ.seq ?_
  refine WJ.reg ?_
  refine SJ.makeMap rfl fun g4 => ?_
  refine SJ.q (YldS.yld (y_assign rfl)) rfl ?_
  refine SJ.nil ?_
  refine PJ.next ?_
  obtain ⟨kj5, hk6, hm⟩ := withK_open hm
  refine WJ.join (X := Unit) (fun (_ : Unit) => kj5  = some r) (fun (_ : Unit) => [(0, v2)]) (fun (_ : Unit) => []) ?_ ?_
  · clear hk6
    refine WJ.seq ?_
    refine WJ.quiet ?_
    refine QJ.step (YldS.yld (y_move rfl)) rfl ?_
    refine QJ.step (YldS.yld (y_lenS Try.runUnderlying24 hr3 rfl)) rfl ?_
    refine QJ.step (YldS.yld (y_move rfl)) rfl ?_
    refine QJ.done ?_
    refine PJ.next ?_
    refine WJ.block ?_
    refine WJ.sel (L' := (fun (x : (List (Str × Bool)) × Int) => [mp g4 x.1]) ([], 0)) [0] ⟨by decide, rfl⟩ ?_
    refine WJ.sub (m' := (fun (x : (List (Str × Bool)) × Int) => [(0, v2), (3, .map (some g4)), (7, v2), (8, .int .i64 (List.length list1 : Int)), (9, .int .i64 x.2)]) ([], 0)) ⟨rfl, rfl, rfl, rfl, rfl, trivial⟩ ?_
    refine WJ.loop (X := (List (Str × Bool)) × Int) (fun N (x : (List (Str × Bool)) × Int) => i_ValidWriters_l1 kj5 list1 N x.1 x.2 = some r) (fun (x : (List (Str × Bool)) × Int) => [(0, v2), (3, .map (some g4)), (7, v2), (8, .int .i64 (List.length list1 : Int)), (9, .int .i64 x.2)]) (fun (x : (List (Str × Bool)) × Int) => [mp g4 x.1]) ?_ N ([], 0) hm
    · rintro N ⟨mp7, x8⟩ hI
      have hm := hI; clear hI
      cases N with
      | zero => cases hm
      | succ N =>
      unfold i_ValidWriters_l1 at hm
      refine WJ.seq ?_
      refine WJ.quiet ?_
      refine QJ.step (YldS.yld (y_bin rfl rfl rfl)) rfl ?_
      refine QJ.done ?_
      refine PJ.next ?_
      refine WJ.seq ?_
      refine WJ.cond (t := decide (x8 < (List.length list1 : Int))) rfl (fun hb9 => ?_) (fun hb9 => ?_)
      · replace hm := ifT hm hb9
        refine WJ.skip ?_
        refine PJ.next ?_
        refine WJ.seq ?_
        refine WJ.block ?_
        refine WJ.seq ?_
        refine WJ.reg ?_
        obtain ⟨e10, h11, hm⟩ := bindS hm
        obtain ⟨ad12, _, ⟨v15, rfl, hr16⟩, ha13, hy14⟩ := hr3.elem h11
        refine SJ.q (YldS.yld (hy14 Try.runUnderlying24 Try.sizeOf34 rfl rfl)) rfl ?_
        refine SJ.q (YldS.yld (y_loadN Try.isAgg34 Try.sizeOf34 rfl ha13 St.frozenC rfl)) rfl ?_
        refine SJ.alloc (cs := [str [], .slice none 0 0]) Try.zeroValue34 rfl rfl fun g17 => ?_
        refine SJ.nil_row 39 fTypeFault ?_
        have hc18 := And.intro (RdS.cells1 hr16) (RdS.one1 hr16)
        refine SJ.storeL (k := 1) (off := 0) (us := [str e10.name, v15]) rfl rfl rfl rfl Try.sizeOf34 rfl (by simp only [List.all_cons, hc18.2]; rfl) ?_
        refine SJ.nil ?_
        refine PJ.next ?_
        refine WJ.seq ?_
        refine WJ.seq ?_
        refine WJ.quiet ?_
        refine QJ.step (YldS.yld (y_loadBN (k := 1) (off := 0) (us := [str e10.name, v15]) rfl Try.isAgg34 Try.sizeOf34 rfl rfl)) rfl ?_
        obtain ⟨r19, h20, hm⟩ := bindS hm
        refine QJ.step (y_call Try.call20 rfl (RetG.quiet fun w hw => ok_i_validWriter h20 w _ (hr16.st hw))) rfl ?_
        refine QJ.step (YldS.yld (y_not rfl)) rfl ?_
        refine QJ.step (YldS.yld (y_move rfl)) rfl ?_
        obtain ⟨t21, h22, hm⟩ := bindS hm
        refine QJ.cut 5 [(0, v2), (3, .map (some g4)), (5, pt g17 0), (7, v2), (8, .int .i64 (List.length list1 : Int)), (9, .int .i64 x8), (21, .bool t21)] ?_ ?_
        · rcases Bool.eq_false_or_eq_true (!r19) with hb23 | hb23
          · obtain rfl := orT h22 hb23
            refine QJ.off rfl rfl (cB hb23) rfl rfl ?_
            refine QJ.off rfl rfl (cB hb23) rfl rfl ?_
            refine QJ.off rfl rfl (cB hb23) rfl rfl ?_
            refine QJ.off rfl rfl (cB hb23) rfl rfl ?_
            refine QJ.step (YldS.yld (y_pick_t (cB hb23) rfl)) rfl ?_
            exact QJ.cut_end ⟨rfl, rfl, rfl, rfl, rfl, rfl, rfl, trivial⟩
          · replace h22 := orF h22 hb23
            refine QJ.on rfl rfl (cB hb23) (YldS.yld (y_move rfl)) rfl ?_
            refine QJ.on rfl rfl (cB hb23) (YldS.yld (y_fldB (o := 0) fld34_0 rfl)) rfl ?_
            refine QJ.on rfl rfl (cB hb23) (YldS.yld (y_loadB (k := 1) (off := 0) (v := str e10.name) rfl Try.isAgg9 rfl rfl)) rfl ?_
            refine QJ.on rfl rfl (cB hb23) (YldS.yld (y_lookupSB (k := 2) rfl Try.underlying64 Try.underlying9 Try.zeroValue4 rfl rfl)) rfl ?_
            refine QJ.step (YldS.yld (y_pick_f (cB hb23) rfl)) rfl ?_
            obtain rfl := Option.some.inj h22
            exact QJ.cut_end ⟨rfl, rfl, rfl, rfl, rfl, rfl, rfl, trivial⟩
        refine QJ.done ?_
        refine PJ.next ?_
        refine WJ.cond (t := t21) rfl (fun hb24 => ?_) (fun hb24 => ?_)
        · replace hm := ifT hm hb24
          refine WJ.seq ?_
          refine WJ.quiet ?_
          refine QJ.step (YldS.yld (y_assign rfl)) rfl ?_
          refine QJ.done ?_
          refine PJ.next ?_
          refine WJ.ret ?_
          refine PJ.then_ret (PJ.block_ret (PJ.then_ret (PJ.then_ret (PJ.block_ret (PJ.then_ret ?_)))))
          obtain rfl := Option.some.inj hm
          refine PJ.sel (L' := []) [] ⟨List.nodup_nil, rfl⟩ ?_
          exact PJ.retn (vs := [.bool false]) Try.results13 ⟨rfl, trivial⟩ ⟨rfl, rfl⟩
        · replace hm := ifF hm hb24
          refine WJ.skip ?_
          refine PJ.next ?_
          refine WJ.reg ?_
          refine SJ.q (YldS.yld (y_move rfl)) rfl ?_
          refine SJ.q (YldS.yld (y_fldB (o := 0) fld34_0 rfl)) rfl ?_
          refine SJ.q (YldS.yld (y_loadB (k := 1) (off := 0) (v := str e10.name) rfl Try.isAgg9 rfl rfl)) rfl ?_
          refine SJ.mapUpdateSB (k := 2) Try.underlying64 Try.underlying9 rfl rfl rfl rfl ?_
          refine SJ.nil ?_
          refine PJ.block_normal (PJ.next ?_)
          refine WJ.quiet ?_
          refine QJ.step (YldS.yld (y_bin rfl rfl rfl)) rfl ?_
          refine QJ.step (YldS.yld (y_move rfl)) rfl ?_
          refine QJ.done ?_
          exact PJ.round (mset mp7 e10.name true, w64 (x8 + 1)) [2] hm ⟨rfl, rfl, rfl, rfl, rfl, trivial⟩ ⟨by decide, rfl⟩
      · replace hm := ifF hm hb9
        refine WJ.exit ?_
        refine PJ.then_exit (PJ.then_exit (PJ.block_exit ?_))
        exact PJ.joined () [] hm ⟨rfl, trivial⟩ ⟨List.nodup_nil, rfl⟩
  · rintro _ hm
    subst hk6
    refine WJ.seq ?_
    refine WJ.quiet ?_
    refine QJ.step (YldS.yld (y_move rfl)) rfl ?_
    refine QJ.step (YldS.yld (y_lenS Try.runUnderlying24 hr3 rfl)) rfl ?_
    refine QJ.step (YldS.yld (y_bin rfl rfl rfl)) rfl ?_
    refine QJ.step (YldS.yld (y_assign rfl)) rfl ?_
    refine QJ.done ?_
    refine PJ.next ?_
    refine WJ.ret ?_
    obtain rfl := Option.some.inj hm
    refine PJ.sel (L' := []) [] ⟨List.nodup_nil, rfl⟩ ?_
    exact PJ.retn (vs := [.bool (decide ((List.length list1 : Int) ≤ 12))]) Try.results13 ⟨rfl, trivial⟩ ⟨rfl, rfl⟩

set_option maxRecDepth 100000 in
set_option maxHeartbeats 1000000 in
theorem ok_i_Writer_kind {N : Nat} {w1 : Writer} {letter4 : Str} {r : Int} (hm : i_Writer_kind N w1 letter4 = some r) (w : World) (v2 : Value) (hr3 : RdS w (cx w).Fz v2 fTypeFault.rp w1.faults) :
    Calls Try.prog 23 #[.agg #[str w1.name, v2], str letter4] w (Ret (cx w) (.int .i64 r)) := by
  unfold i_Writer_kind at hm
  refine Calls.enter [.agg #[str w1.name, v2], str letter4] Try.func23 rfl Try.ntmps23 rfl ?_
  refine WJ.seq ?_
  refine WJ.reg ?_
  refine SJ.box (cs := [str w1.name, v2]) rfl rfl rfl fun g5 => ?_
  refine SJ.q (YldS.yld (y_assign rfl)) rfl ?_
  refine SJ.nil ?_
  refine PJ.next ?_
  obtain ⟨kj6, hk7, hm⟩ := withK_open hm
  refine WJ.join (X := Unit) (fun (_ : Unit) => kj6  = some r) (fun (_ : Unit) => []) (fun (_ : Unit) => []) ?_ ?_
  · clear hk7
    refine WJ.seq ?_
    refine WJ.quiet ?_
    refine QJ.step (YldS.yld (y_fldB (o := 0) fld34_1 rfl)) rfl ?_
    refine QJ.step (YldS.yld (y_loadB (k := 0) (off := 1) (v := v2) rfl Try.isAgg29 rfl rfl)) rfl ?_
    refine QJ.step (YldS.yld (y_lenS Try.runUnderlying29 hr3 rfl)) rfl ?_
    refine QJ.step (YldS.yld (y_move rfl)) rfl ?_
    refine QJ.done ?_
    refine PJ.next ?_
    refine WJ.block ?_
    refine WJ.sel (L' := (fun (x : Int) => []) 0) [] ⟨List.nodup_nil, rfl⟩ ?_
    refine WJ.sub (m' := (fun (x : Int) => [(1, str letter4), (8, v2), (9, .int .i64 (List.length w1.faults : Int)), (10, .int .i64 x)]) 0) ⟨rfl, rfl, rfl, rfl, trivial⟩ ?_
    refine WJ.loop (X := Int) (fun N (x : Int) => i_Writer_kind_l1 kj6 w1 letter4 N x = some r) (fun (x : Int) => [(1, str letter4), (8, v2), (9, .int .i64 (List.length w1.faults : Int)), (10, .int .i64 x)]) (fun (x : Int) => []) ?_ N 0 hm
    · rintro N x8 hI
      have hm := hI; clear hI
      cases N with
      | zero => cases hm
      | succ N =>
      unfold i_Writer_kind_l1 at hm
      refine WJ.seq ?_
      refine WJ.quiet ?_
      refine QJ.step (YldS.yld (y_bin rfl rfl rfl)) rfl ?_
      refine QJ.done ?_
      refine PJ.next ?_
      refine WJ.seq ?_
      refine WJ.cond (t := decide (x8 < (List.length w1.faults : Int))) rfl (fun hb9 => ?_) (fun hb9 => ?_)
      · replace hm := ifT hm hb9
        refine WJ.skip ?_
        refine PJ.next ?_
        refine WJ.seq ?_
        refine WJ.block ?_
        refine WJ.seq ?_
        refine WJ.reg ?_
        obtain ⟨e10, h11, hm⟩ := bindS hm
        obtain ⟨ad12, _, rfl, ha13, hy14⟩ := hr3.elem h11
        refine SJ.q (YldS.yld (hy14 Try.runUnderlying29 Try.sizeOf39 rfl rfl)) rfl ?_
        refine SJ.q (YldS.yld (y_loadN Try.isAgg39 Try.sizeOf39 rfl ha13 St.frozenC rfl)) rfl ?_
        refine SJ.alloc (cs := [str [], .int .i64 0]) Try.zeroValue39 rfl rfl fun g15 => ?_
        refine SJ.storeL (k := 0) (off := 0) (us := [str e10.letter, .int .i64 e10.kind]) rfl rfl rfl rfl Try.sizeOf39 rfl rfl ?_
        refine SJ.nil ?_
        refine PJ.next ?_
        refine WJ.seq ?_
        refine WJ.quiet ?_
        refine QJ.step (YldS.yld (y_fldB (o := 0) fld39_0 rfl)) rfl ?_
        refine QJ.step (YldS.yld (y_loadB (k := 0) (off := 0) (v := str e10.letter) rfl Try.isAgg9 rfl rfl)) rfl ?_
        refine QJ.step (YldS.yld (y_move rfl)) rfl ?_
        refine QJ.step (YldS.yld (y_binS rfl rfl rfl)) rfl ?_
        refine QJ.done ?_
        refine PJ.next ?_
        refine WJ.cond (t := (e10.letter == letter4)) rfl (fun hb16 => ?_) (fun hb16 => ?_)
        · replace hm := ifT hm hb16
          refine WJ.seq ?_
          refine WJ.quiet ?_
          refine QJ.step (YldS.yld (y_fldB (o := 0) fld39_1 rfl)) rfl ?_
          refine QJ.step (YldS.yld (y_loadB (k := 0) (off := 1) (v := .int .i64 e10.kind) rfl Try.isAgg2 rfl rfl)) rfl ?_
          refine QJ.step (YldS.yld (y_assign rfl)) rfl ?_
          refine QJ.done ?_
          refine PJ.next ?_
          refine WJ.ret ?_
          refine PJ.block_ret (PJ.then_ret (PJ.then_ret (PJ.block_ret (PJ.then_ret ?_))))
          obtain rfl := Option.some.inj hm
          refine PJ.sel (L' := []) [] ⟨List.nodup_nil, rfl⟩ ?_
          exact PJ.retn (vs := [.int .i64 e10.kind]) Try.results23 ⟨rfl, trivial⟩ ⟨rfl, rfl⟩
        · replace hm := ifF hm hb16
          refine WJ.skip ?_
          refine PJ.block_normal (PJ.next ?_)
          refine WJ.quiet ?_
          refine QJ.step (YldS.yld (y_bin rfl rfl rfl)) rfl ?_
          refine QJ.step (YldS.yld (y_move rfl)) rfl ?_
          refine QJ.done ?_
          exact PJ.round (w64 (x8 + 1)) [] hm ⟨rfl, rfl, rfl, rfl, trivial⟩ ⟨List.nodup_nil, rfl⟩
      · replace hm := ifF hm hb9
        refine WJ.exit ?_
        refine PJ.then_exit (PJ.then_exit (PJ.block_exit ?_))
        exact PJ.joined () [] hm trivial ⟨List.nodup_nil, rfl⟩
  · rintro _ hm
    subst hk7
    refine WJ.seq ?_
    refine WJ.quiet ?_
    refine QJ.step (YldS.yld (y_assign rfl)) rfl ?_
    refine QJ.done ?_
    refine PJ.next ?_
    refine WJ.ret ?_
    obtain rfl := Option.some.inj hm
    refine PJ.sel (L' := []) [] ⟨List.nodup_nil, rfl⟩ ?_
    exact PJ.retn (vs := [.int .i64 0]) Try.results23 ⟨rfl, trivial⟩ ⟨rfl, rfl⟩

set_option maxRecDepth 100000 in
set_option maxHeartbeats 1000000 in
theorem ok_i_apart {N : Nat} {a1 : Writer} {b4 : Writer} {marked7 : List Bool} {g8 : Nat} {r : (List Bool)} (hm : i_apart N a1 b4 marked7 = some r) (w : World) (S : Nat → Prop) (v2 : Value) (hr3 : RdS w (Cx.Fz ⟨w, S⟩) v2 fTypeFault.rp a1.faults) (v5 : Value) (hr6 : RdS w (Cx.Fz ⟨w, S⟩) v5 fTypeFault.rp b4.faults) (hA : (row (av g8 256) 44 fBool marked7).holds w S) :
    Calls Try.prog 14 #[.agg #[str a1.name, v2], .agg #[str b4.name, v5], pt g8 0] w (RetG ⟨w, S⟩ fun u L => (u = tup [] ∧ L = [row (av g8 256) 44 fBool r])) := by
  unfold i_apart at hm
  refine Calls.enter1 hA [.agg #[str a1.name, v2], .agg #[str b4.name, v5], pt g8 0] Try.func14 rfl Try.ntmps14 rfl ?_
  refine WJ.seq ?_
  refine WJ.reg ?_
  refine SJ.box (cs := [str a1.name, v2]) rfl rfl rfl fun g9 => ?_
  refine SJ.box (cs := [str b4.name, v5]) rfl rfl rfl fun g10 => ?_
  refine SJ.nil ?_
  refine PJ.next ?_
  refine WJ.seq ?_
  refine WJ.reg ?_
  refine SJ.q (YldS.yld (y_loadBN (k := 1) (off := 0) (us := [str a1.name, v2]) rfl Try.isAgg34 Try.sizeOf34 rfl rfl)) rfl ?_
  refine SJ.q (YldS.yld (y_loadBN (k := 0) (off := 0) (us := [str b4.name, v5]) rfl Try.isAgg34 Try.sizeOf34 rfl rfl)) rfl ?_
  obtain hz11 := (ZRd.cons (H := shWriter) (Writer.mk a1.name a1.faults) hr3 (ZRd.cons (H := shWriter) (Writer.mk b4.name b4.faults) hr6 ZRd.nil))
  refine SJ.buildSlice (R := fRaw2) (os := [.tmp 10, .tmp 11]) ([mkRaw (n := 2) (shWriter.enc v2 (Writer.mk a1.name a1.faults)) (shWriter.len _ _) (shWriter.one _ _ (RdS.one1 hr3)), mkRaw (n := 2) (shWriter.enc v5 (Writer.mk b4.name b4.faults)) (shWriter.len _ _) (shWriter.one _ _ (RdS.one1 hr6))] : List (Raw 2)) Try.runUnderlying24 Try.sizeOf34 Try.zeroValue34 rfl rfl rfl rfl rfl rfl fun v12 => ?_
  refine SJ.q (YldS.yld (y_lenRow (k := 0) rfl Try.runUnderlying24 rfl)) rfl ?_
  refine SJ.q (YldS.yld (y_move rfl)) rfl ?_
  refine SJ.nil ?_
  refine PJ.next ?_
  refine WJ.block ?_
  refine WJ.sel (L' := (fun (x : (List Bool) × Int) => [row v12 34 fRaw2 ([mkRaw (n := 2) (shWriter.enc v2 (Writer.mk a1.name a1.faults)) (shWriter.len _ _) (shWriter.one _ _ (RdS.one1 hr3)), mkRaw (n := 2) (shWriter.enc v5 (Writer.mk b4.name b4.faults)) (shWriter.len _ _) (shWriter.one _ _ (RdS.one1 hr6))] : List (Raw 2)), box g10 34 [str b4.name, v5], box g9 34 [str a1.name, v2], row (av g8 256) 44 fBool x.1]) (marked7, 0)) [0, 1, 2, 3] ⟨by decide, rfl⟩ ?_
  refine WJ.sub (m' := (fun (x : (List Bool) × Int) => [(2, pt g8 0), (3, pt g9 0), (4, pt g10 0), (12, v12), (13, .int .i64 (List.length ([(Writer.mk a1.name a1.faults), (Writer.mk b4.name b4.faults)] : List Writer) : Int)), (14, .int .i64 x.2)]) (marked7, 0)) ⟨rfl, rfl, rfl, rfl, rfl, rfl, trivial⟩ ?_
  refine WJ.loop (X := (List Bool) × Int) (fun N (x : (List Bool) × Int) => i_apart_l1 a1 b4 N x.1 x.2 = some r) (fun (x : (List Bool) × Int) => [(2, pt g8 0), (3, pt g9 0), (4, pt g10 0), (12, v12), (13, .int .i64 (List.length ([(Writer.mk a1.name a1.faults), (Writer.mk b4.name b4.faults)] : List Writer) : Int)), (14, .int .i64 x.2)]) (fun (x : (List Bool) × Int) => [row v12 34 fRaw2 ([mkRaw (n := 2) (shWriter.enc v2 (Writer.mk a1.name a1.faults)) (shWriter.len _ _) (shWriter.one _ _ (RdS.one1 hr3)), mkRaw (n := 2) (shWriter.enc v5 (Writer.mk b4.name b4.faults)) (shWriter.len _ _) (shWriter.one _ _ (RdS.one1 hr6))] : List (Raw 2)), box g10 34 [str b4.name, v5], box g9 34 [str a1.name, v2], row (av g8 256) 44 fBool x.1]) ?_ N (marked7, 0) hm
  · rintro N ⟨l13, x14⟩ hI
    have hm := hI; clear hI
    cases N with
    | zero => cases hm
    | succ N =>
    unfold i_apart_l1 at hm
    refine WJ.seq ?_
    refine WJ.quiet ?_
    refine QJ.step (YldS.yld (y_bin rfl rfl rfl)) rfl ?_
    refine QJ.done ?_
    refine PJ.next ?_
    refine WJ.seq ?_
    refine WJ.cond (t := decide (x14 < (List.length ([(Writer.mk a1.name a1.faults), (Writer.mk b4.name b4.faults)] : List Writer) : Int))) rfl (fun hb15 => ?_) (fun hb15 => ?_)
    · replace hm := ifT hm hb15
      refine WJ.skip ?_
      refine PJ.next ?_
      obtain ⟨kj17, hk18, hm⟩ := withK_open hm
      refine WJ.join (X := (List Bool)) (fun (x : (List Bool)) => kj17 x = some r) (fun (x : (List Bool)) => [(2, pt g8 0), (3, pt g9 0), (4, pt g10 0), (12, v12), (13, .int .i64 (List.length ([(Writer.mk a1.name a1.faults), (Writer.mk b4.name b4.faults)] : List Writer) : Int)), (14, .int .i64 x14)]) (fun (x : (List Bool)) => [row v12 34 fRaw2 ([mkRaw (n := 2) (shWriter.enc v2 (Writer.mk a1.name a1.faults)) (shWriter.len _ _) (shWriter.one _ _ (RdS.one1 hr3)), mkRaw (n := 2) (shWriter.enc v5 (Writer.mk b4.name b4.faults)) (shWriter.len _ _) (shWriter.one _ _ (RdS.one1 hr6))] : List (Raw 2)), box g10 34 [str b4.name, v5], box g9 34 [str a1.name, v2], row (av g8 256) 44 fBool x]) ?_ ?_
      · clear hk18
        refine WJ.block ?_
        refine WJ.seq ?_
        refine WJ.reg ?_
        obtain ⟨e19, h20, hm⟩ := bindS hm
        obtain ⟨y21, hy22, hs23, hr24⟩ := ZRd.idx hz11 h20
        refine SJ.q (YldS.yld (y_ixRow (k := 0) (R := fRaw2) rfl Try.runUnderlying24 Try.sizeOf34 rfl rfl hy22)) rfl ?_
        refine SJ.q (YldS.yld (y_loadRN (k := 0) (i := (Int.toNat x14)) (off := 0) (us := [str e19.name, (shWriter.sl y21)]) rfl Try.isAgg34 Try.sizeOf34 rfl (idx_get hy22) (sh_cells hs23 rfl))) rfl ?_
        refine SJ.alloc (cs := [str [], .slice none 0 0]) Try.zeroValue34 rfl rfl fun g25 => ?_
        refine SJ.nil_row 39 fTypeFault ?_
        have hc26 := And.intro (RdS.cells1 hr24) (RdS.one1 hr24)
        refine SJ.storeL (k := 1) (off := 0) (us := [str e19.name, (shWriter.sl y21)]) rfl rfl rfl rfl Try.sizeOf34 rfl (by simp only [List.all_cons, hc26.2]; rfl) ?_
        refine SJ.nil ?_
        refine PJ.next ?_
        refine WJ.seq ?_
        refine WJ.quiet ?_
        refine QJ.step (YldS.yld (y_fldB (o := 0) fld34_1 rfl)) rfl ?_
        refine QJ.step (YldS.yld (y_loadB (k := 1) (off := 1) (v := (shWriter.sl y21)) rfl Try.isAgg29 rfl rfl)) rfl ?_
        refine QJ.step (YldS.yld (y_lenS Try.runUnderlying29 hr24 rfl)) rfl ?_
        refine QJ.step (YldS.yld (y_move rfl)) rfl ?_
        refine QJ.done ?_
        refine PJ.next ?_
        refine WJ.block ?_
        refine WJ.sel (L' := (fun (x : (List Bool) × Int) => [row v12 34 fRaw2 ([mkRaw (n := 2) (shWriter.enc v2 (Writer.mk a1.name a1.faults)) (shWriter.len _ _) (shWriter.one _ _ (RdS.one1 hr3)), mkRaw (n := 2) (shWriter.enc v5 (Writer.mk b4.name b4.faults)) (shWriter.len _ _) (shWriter.one _ _ (RdS.one1 hr6))] : List (Raw 2)), box g10 34 [str b4.name, v5], box g9 34 [str a1.name, v2], row (av g8 256) 44 fBool x.1]) (l13, 0)) [2, 3, 4, 5] ⟨by decide, rfl⟩ ?_
        refine WJ.sub (m' := (fun (x : (List Bool) × Int) => [(2, pt g8 0), (3, pt g9 0), (4, pt g10 0), (12, v12), (13, .int .i64 (List.length ([(Writer.mk a1.name a1.faults), (Writer.mk b4.name b4.faults)] : List Writer) : Int)), (14, .int .i64 x14), (19, (shWriter.sl y21)), (20, .int .i64 (List.length e19.faults : Int)), (21, .int .i64 x.2)]) (l13, 0)) ⟨rfl, rfl, rfl, rfl, rfl, rfl, rfl, rfl, rfl, trivial⟩ ?_
        refine WJ.loop (X := (List Bool) × Int) (fun N (x : (List Bool) × Int) => i_apart_l2 kj17 a1 b4 e19 N x.1 x.2 = some r) (fun (x : (List Bool) × Int) => [(2, pt g8 0), (3, pt g9 0), (4, pt g10 0), (12, v12), (13, .int .i64 (List.length ([(Writer.mk a1.name a1.faults), (Writer.mk b4.name b4.faults)] : List Writer) : Int)), (14, .int .i64 x14), (19, (shWriter.sl y21)), (20, .int .i64 (List.length e19.faults : Int)), (21, .int .i64 x.2)]) (fun (x : (List Bool) × Int) => [row v12 34 fRaw2 ([mkRaw (n := 2) (shWriter.enc v2 (Writer.mk a1.name a1.faults)) (shWriter.len _ _) (shWriter.one _ _ (RdS.one1 hr3)), mkRaw (n := 2) (shWriter.enc v5 (Writer.mk b4.name b4.faults)) (shWriter.len _ _) (shWriter.one _ _ (RdS.one1 hr6))] : List (Raw 2)), box g10 34 [str b4.name, v5], box g9 34 [str a1.name, v2], row (av g8 256) 44 fBool x.1]) ?_ N (l13, 0) hm
        · rintro N ⟨l27, x28⟩ hI
          have hm := hI; clear hI
          cases N with
          | zero => cases hm
          | succ N =>
          unfold i_apart_l2 at hm
          refine WJ.seq ?_
          refine WJ.quiet ?_
          refine QJ.step (YldS.yld (y_bin rfl rfl rfl)) rfl ?_
          refine QJ.done ?_
          refine PJ.next ?_
          refine WJ.seq ?_
          refine WJ.cond (t := decide (x28 < (List.length e19.faults : Int))) rfl (fun hb29 => ?_) (fun hb29 => ?_)
          · replace hm := ifT hm hb29
            refine WJ.skip ?_
            refine PJ.next ?_
            obtain ⟨kj31, hk32, hm⟩ := withK_open hm
            refine WJ.join (X := (List Bool)) (fun (x : (List Bool)) => kj31 x = some r) (fun (x : (List Bool)) => [(2, pt g8 0), (3, pt g9 0), (4, pt g10 0), (12, v12), (13, .int .i64 (List.length ([(Writer.mk a1.name a1.faults), (Writer.mk b4.name b4.faults)] : List Writer) : Int)), (14, .int .i64 x14), (19, (shWriter.sl y21)), (20, .int .i64 (List.length e19.faults : Int)), (21, .int .i64 x28)]) (fun (x : (List Bool)) => [row v12 34 fRaw2 ([mkRaw (n := 2) (shWriter.enc v2 (Writer.mk a1.name a1.faults)) (shWriter.len _ _) (shWriter.one _ _ (RdS.one1 hr3)), mkRaw (n := 2) (shWriter.enc v5 (Writer.mk b4.name b4.faults)) (shWriter.len _ _) (shWriter.one _ _ (RdS.one1 hr6))] : List (Raw 2)), box g10 34 [str b4.name, v5], box g9 34 [str a1.name, v2], row (av g8 256) 44 fBool x]) ?_ ?_
            · clear hk32
              refine WJ.block ?_
              refine WJ.seq ?_
              refine WJ.reg ?_
              obtain ⟨e33, h34, hm⟩ := bindS hm
              obtain ⟨ad35, _, rfl, ha36, hy37⟩ := hr24.elem h34
              refine SJ.q (YldS.yld (hy37 Try.runUnderlying29 Try.sizeOf39 rfl rfl)) rfl ?_
              refine SJ.q (YldS.yld (y_loadN Try.isAgg39 Try.sizeOf39 rfl ha36 St.frozenC rfl)) rfl ?_
              refine SJ.alloc (cs := [str [], .int .i64 0]) Try.zeroValue39 rfl rfl fun g38 => ?_
              refine SJ.storeL (k := 0) (off := 0) (us := [str e33.letter, .int .i64 e33.kind]) rfl rfl rfl rfl Try.sizeOf39 rfl rfl ?_
              refine SJ.nil ?_
              refine PJ.next ?_
              refine WJ.seq ?_
              refine WJ.quiet_draw follows (by kernel_rfl) ?_
              refine QJ.step (YldS.yld (y_loadBN (k := 3) (off := 0) (us := [str a1.name, v2]) rfl Try.isAgg34 Try.sizeOf34 rfl rfl)) rfl ?_
              refine QJ.step (YldS.yld (y_fldB (o := 0) fld39_0 rfl)) rfl ?_
              refine QJ.step (YldS.yld (y_loadB (k := 0) (off := 0) (v := str e33.letter) rfl Try.isAgg9 rfl rfl)) rfl ?_
              obtain ⟨r39, h40, hm⟩ := bindS hm
              refine QJ.step (y_call Try.call23 rfl (RetG.quiet fun w hw => ok_i_Writer_kind h40 w _ (hr3.st hw))) rfl ?_
              refine QJ.step (YldS.yld (y_loadBN (k := 2) (off := 0) (us := [str b4.name, v5]) rfl Try.isAgg34 Try.sizeOf34 rfl rfl)) rfl ?_
              refine QJ.step (YldS.yld (y_fldB (o := 0) fld39_0 rfl)) rfl ?_
              refine QJ.step (YldS.yld (y_loadB (k := 0) (off := 0) (v := str e33.letter) rfl Try.isAgg9 rfl rfl)) rfl ?_
              obtain ⟨r41, h42, hm⟩ := bindS hm
              refine QJ.step (y_call Try.call23 rfl (RetG.quiet fun w hw => ok_i_Writer_kind h42 w _ (hr6.st hw))) rfl ?_
              refine QJ.step (YldS.yld (y_bin rfl rfl rfl)) rfl ?_
              refine QJ.done ?_
              refine PJ.next ?_
              refine WJ.cond (t := (r39 != r41)) rfl (fun hb43 => ?_) (fun hb43 => ?_)
              · replace hm := ifT hm hb43
                obtain ⟨c44, h45, hm⟩ := bindS hm
                obtain ⟨e46, h47, hm⟩ := bindS hm
                refine WJ.draws (N := 7) (listed0 := #[false, false, false, false, false, false, false]) [box g38 39 [str e33.letter, .int .i64 e33.kind], row v12 34 fRaw2 ([mkRaw (n := 2) (shWriter.enc v2 (Writer.mk a1.name a1.faults)) (shWriter.len _ _) (shWriter.one _ _ (RdS.one1 hr3)), mkRaw (n := 2) (shWriter.enc v5 (Writer.mk b4.name b4.faults)) (shWriter.len _ _) (shWriter.one _ _ (RdS.one1 hr6))] : List (Raw 2)), box g10 34 [str b4.name, v5], box g9 34 [str a1.name, v2]] follows rfl rfl ?_
                refine RJ.first 0 (listed' := #[true, false, false, false, false, false, false]) [0, 1, 2, 3] rfl (by kernel_rfl) rfl ⟨by decide, rfl⟩ (y_move rfl) rfl ?_
                refine RJ.first 1 (listed' := #[true, true, false, false, false, false, false]) [0, 1, 2, 3] rfl (by kernel_rfl) rfl ⟨by decide, rfl⟩ (y_fldB (o := 0) fld39_0 rfl) rfl ?_
                refine RJ.first 2 (listed' := #[true, true, true, false, false, false, false]) [0, 1, 2, 3] rfl (by kernel_rfl) rfl ⟨by decide, rfl⟩ (y_loadB (k := 0) (off := 0) (v := str e33.letter) rfl Try.isAgg9 rfl rfl) rfl ?_
                refine RJ.first 3 (listed' := #[true, true, true, true, false, false, false]) [0, 1, 2, 3] rfl (by kernel_rfl) rfl ⟨by decide, rfl⟩ (y_idxStr Try.runUnderlying9 rfl rfl h45) rfl ?_
                refine RJ.first 4 (listed' := #[true, true, true, true, true, false, false]) [0, 1, 2, 3] rfl (by kernel_rfl) rfl ⟨by decide, rfl⟩ (y_nil rfl) rfl ?_
                refine RJ.step1 5 [0, 1, 2, 3] (by kernel_rfl) ⟨by decide, rfl⟩ ?_
                refine RO.of (listed' := #[true, true, true, true, true, true, false]) rfl rfl ?_
                refine SJ.q (YldS.yld (y_ixArr (k := 4) (R := fBool) rfl Try.runUnderlying44 Try.sizeOf4 rfl rfl h47)) rfl ?_
                refine SJ.nil ?_
                refine PJ.draw ?_
                refine RJ.step1 6 [0, 1, 2, 3] (by kernel_rfl) ⟨by decide, rfl⟩ ?_
                refine RO.of (listed' := #[true, true, true, true, true, true, true]) rfl rfl ?_
                refine SJ.storeRL (k := 4) (i := (Int.toNat (UInt8.toNat c44 : Int))) (off := 0) (us := [.bool true]) (b := true) rfl rfl (idx_get h47) rfl rfl Try.sizeOf4 rfl rfl rfl ?_
                refine SJ.nil ?_
                refine PJ.draw ?_
                refine RJ.fin [0, 1, 2, 3] (by kernel_rfl) ⟨by decide, rfl⟩ ?_
                refine PJ.block_normal ?_
                exact PJ.joined (List.set l27 (Int.toNat (UInt8.toNat c44 : Int)) true) [1, 2, 3, 4] hm ⟨rfl, rfl, rfl, rfl, rfl, rfl, rfl, rfl, rfl, trivial⟩ ⟨by decide, rfl⟩
              · replace hm := ifF hm hb43
                refine WJ.skip ?_
                refine PJ.block_normal ?_
                exact PJ.joined l27 [1, 2, 3, 4] hm ⟨rfl, rfl, rfl, rfl, rfl, rfl, rfl, rfl, rfl, trivial⟩ ⟨by decide, rfl⟩
            · rintro l30 hm
              subst hk32
              refine WJ.quiet ?_
              refine QJ.step (YldS.yld (y_bin rfl rfl rfl)) rfl ?_
              refine QJ.step (YldS.yld (y_move rfl)) rfl ?_
              refine QJ.done ?_
              exact PJ.round (l30, w64 (x28 + 1)) [0, 1, 2, 3] hm ⟨rfl, rfl, rfl, rfl, rfl, rfl, rfl, rfl, rfl, trivial⟩ ⟨by decide, rfl⟩
          · replace hm := ifF hm hb29
            refine WJ.exit ?_
            refine PJ.then_exit (PJ.then_exit (PJ.block_exit (PJ.block_normal ?_)))
            exact PJ.joined l27 [0, 1, 2, 3] hm ⟨rfl, rfl, rfl, rfl, rfl, rfl, trivial⟩ ⟨by decide, rfl⟩
      · rintro l16 hm
        subst hk18
        refine WJ.quiet ?_
        refine QJ.step (YldS.yld (y_bin rfl rfl rfl)) rfl ?_
        refine QJ.step (YldS.yld (y_move rfl)) rfl ?_
        refine QJ.done ?_
        exact PJ.round (l16, w64 (x14 + 1)) [0, 1, 2, 3] hm ⟨rfl, rfl, rfl, rfl, rfl, rfl, trivial⟩ ⟨by decide, rfl⟩
    · replace hm := ifF hm hb15
      refine WJ.exit ?_
      refine PJ.then_exit (PJ.then_exit (PJ.block_exit (PJ.fin ?_)))
      obtain rfl := Option.some.inj hm
      refine PJ.sel (L' := [row (av g8 256) 44 fBool l13]) [3] ⟨by decide, rfl⟩ ?_
      exact PJ.retn (vs := []) Try.results14 trivial ⟨rfl, rfl⟩

set_option maxRecDepth 100000 in
set_option maxHeartbeats 1000000 in
theorem ok_i_ascending {N : Nat} {marked1 : List Bool} {r : Str} (hm : i_ascending N marked1 = some r) (w : World) (ad2 : Addr) (ha3 : RdS w (cx w).Fz (.slice (some ad2) 256 256) fBool.rp marked1) :
    Calls Try.prog 15 #[.pointer (some ad2)] w (Ret (cx w) (str r)) := by
  unfold i_ascending at hm
  refine Calls.enter [.pointer (some ad2)] Try.func15 rfl Try.ntmps15 rfl ?_
  refine WJ.seq ?_
  refine WJ.quiet ?_
  refine QJ.step (YldS.yld (y_assign rfl)) rfl ?_
  refine QJ.done ?_
  refine PJ.next ?_
  refine WJ.seq ?_
  refine WJ.reg ?_
  refine SJ.buildSlice (R := fByte) (os := []) [] Try.runUnderlying22 Try.sizeOf5 Try.zeroValue5 rfl rfl rfl rfl rfl rfl fun v4 => ?_
  refine SJ.q (YldS.yld (y_assign rfl)) rfl ?_
  refine SJ.nil ?_
  refine PJ.next ?_
  obtain ⟨kj7, hk8, hm⟩ := withK_open hm
  refine WJ.join (X := (List UInt8) × Value) (fun (x : (List UInt8) × Value) => kj7 x.1 = some r) (fun (x : (List UInt8) × Value) => [(3, x.2)]) (fun (x : (List UInt8) × Value) => [row x.2 5 fByte x.1]) ?_ ?_
  · clear hk8
    refine WJ.seq ?_
    refine WJ.quiet ?_
    refine QJ.step (YldS.yld (y_move rfl)) rfl ?_
    refine QJ.done ?_
    refine PJ.next ?_
    refine WJ.block ?_
    refine WJ.sel (L' := (fun (x : (List UInt8) × Value × Int) => [row x.2.1 5 fByte x.1]) ([], v4, 0)) [0] ⟨by decide, rfl⟩ ?_
    refine WJ.sub (m' := (fun (x : (List UInt8) × Value × Int) => [(0, .pointer (some ad2)), (3, x.2.1), (6, .int .i64 x.2.2)]) ([], v4, 0)) ⟨rfl, rfl, rfl, trivial⟩ ?_
    refine WJ.loop (X := (List UInt8) × Value × Int) (fun N (x : (List UInt8) × Value × Int) => i_ascending_l1 kj7 marked1 N x.1 x.2.2 = some r) (fun (x : (List UInt8) × Value × Int) => [(0, .pointer (some ad2)), (3, x.2.1), (6, .int .i64 x.2.2)]) (fun (x : (List UInt8) × Value × Int) => [row x.2.1 5 fByte x.1]) ?_ N ([], v4, 0) hm
    · rintro N ⟨l9, v10, x11⟩ hI
      have hm := hI; clear hI
      cases N with
      | zero => cases hm
      | succ N =>
      unfold i_ascending_l1 at hm
      refine WJ.seq ?_
      refine WJ.quiet ?_
      refine QJ.step (YldS.yld (y_bin rfl rfl rfl)) rfl ?_
      refine QJ.done ?_
      refine PJ.next ?_
      refine WJ.seq ?_
      refine WJ.cond (t := decide (x11 < 256)) rfl (fun hb12 => ?_) (fun hb12 => ?_)
      · replace hm := ifT hm hb12
        refine WJ.skip ?_
        refine PJ.next ?_
        obtain ⟨kj15, hk16, hm⟩ := withK_open hm
        refine WJ.join (X := (List UInt8) × Value) (fun (x : (List UInt8) × Value) => kj15 x.1 = some r) (fun (x : (List UInt8) × Value) => [(0, .pointer (some ad2)), (3, x.2), (6, .int .i64 x11)]) (fun (x : (List UInt8) × Value) => [row x.2 5 fByte x.1]) ?_ ?_
        · clear hk16
          refine WJ.block ?_
          refine WJ.seq ?_
          refine WJ.quiet ?_
          refine QJ.step (YldS.yld (y_move rfl)) rfl ?_
          refine QJ.step (YldS.yld (y_assign rfl)) rfl ?_
          refine QJ.done ?_
          refine PJ.next ?_
          refine WJ.seq ?_
          refine WJ.quiet ?_
          refine QJ.step (YldS.yld (y_move rfl)) rfl ?_
          refine QJ.step (YldS.yld (y_move rfl)) rfl ?_
          refine QJ.step (YldS.yld (y_nil rfl)) rfl ?_
          obtain ⟨e17, h18, hm⟩ := bindS hm
          obtain ⟨ad19, _, rfl, ha20, hy21⟩ := ha3.elemA h18
          refine QJ.step (YldS.yld (hy21 Try.runUnderlying44 Try.sizeOf4 rfl rfl)) rfl ?_
          refine QJ.step (YldS.yld (y_load1 (v := .bool e17) Try.isAgg4 ha20 St.frozenC rfl)) rfl ?_
          refine QJ.done ?_
          refine PJ.next ?_
          refine WJ.cond (t := e17) rfl (fun hb22 => ?_) (fun hb22 => ?_)
          · replace hm := ifT hm hb22
            refine WJ.reg ?_
            refine SJ.q (YldS.yld (y_move rfl)) rfl ?_
            refine SJ.q (YldS.yld (y_move rfl)) rfl ?_
            refine SJ.q (YldS.yld (y_convTo8 Try.runUnderlying3 Try.runUnderlying5 rfl)) rfl ?_
            refine SJ.buildSlice (R := fByte) (os := [.tmp 16]) [UInt8.ofInt x11] Try.runUnderlying22 Try.sizeOf5 Try.zeroValue5 rfl rfl rfl rfl rfl rfl fun v23 => ?_
            obtain ⟨l24, h25, hm⟩ := bindS hm
            refine SJ.append (k := 1) (R := fByte) h25 rfl Try.underlying22 el5 rfl rfl rfl (fun w hw => (hw.row_rd (k := 0) rfl)) rfl fun v26 => ?_
            refine SJ.q (YldS.yld (y_assign rfl)) rfl ?_
            refine SJ.nil ?_
            refine PJ.block_normal ?_
            exact PJ.joined (l24, v26) [1] hm ⟨rfl, rfl, rfl, trivial⟩ ⟨by decide, rfl⟩
          · replace hm := ifF hm hb22
            refine WJ.skip ?_
            refine PJ.block_normal ?_
            exact PJ.joined (l9, v10) [0] hm ⟨rfl, rfl, rfl, trivial⟩ ⟨by decide, rfl⟩
        · rintro ⟨l13, v14⟩ hm
          subst hk16
          refine WJ.quiet ?_
          refine QJ.step (YldS.yld (y_bin rfl rfl rfl)) rfl ?_
          refine QJ.step (YldS.yld (y_move rfl)) rfl ?_
          refine QJ.done ?_
          exact PJ.round (l13, v14, w64 (x11 + 1)) [0] hm ⟨rfl, rfl, rfl, trivial⟩ ⟨by decide, rfl⟩
      · replace hm := ifF hm hb12
        refine WJ.exit ?_
        refine PJ.then_exit (PJ.then_exit (PJ.block_exit ?_))
        exact PJ.joined (l9, v10) [0] hm ⟨rfl, trivial⟩ ⟨by decide, rfl⟩
  · rintro ⟨l5, v6⟩ hm
    subst hk8
    refine WJ.seq ?_
    refine WJ.quiet ?_
    refine QJ.step (YldS.yld (y_move rfl)) rfl ?_
    refine QJ.step (YldS.yld (y_b2s Try.underlying22 Try.underlying9 Try.underlying5 (fun w hw => ⟨_, (hw.row_rd (k := 0) rfl)⟩) rfl)) rfl ?_
    refine QJ.step (YldS.yld (y_assign rfl)) rfl ?_
    refine QJ.done ?_
    refine PJ.next ?_
    refine WJ.ret ?_
    obtain rfl := Option.some.inj hm
    refine PJ.sel (L' := []) [] ⟨List.nodup_nil, rfl⟩ ?_
    exact PJ.retn (vs := [str l5]) Try.results15 ⟨rfl, trivial⟩ ⟨rfl, rfl⟩

set_option maxRecDepth 100000 in
set_option maxHeartbeats 1000000 in
theorem ok_i_firstChoice {N : Nat} {size1 : Int} {r : (List Int)} (hm : i_firstChoice N size1 = some r) (w : World)  :
    Calls Try.prog 16 #[.int .i64 size1] w (RetG (cx w) fun u L => ∃ (u1 : Value), (u = u1 ∧ L = [row u1 3 fI64 r])) := by
  unfold i_firstChoice at hm
  refine Calls.enter [.int .i64 size1] Try.func16 rfl Try.ntmps16 rfl ?_
  refine WJ.seq ?_
  refine WJ.quiet ?_
  refine QJ.step (YldS.yld (y_assign rfl)) rfl ?_
  refine QJ.done ?_
  refine PJ.next ?_
  refine WJ.seq ?_
  refine WJ.reg ?_
  refine SJ.buildSlice (R := fI64) (os := []) [] Try.runUnderlying49 Try.sizeOf3 Try.zeroValue3 rfl rfl rfl rfl rfl rfl fun v2 => ?_
  refine SJ.q (YldS.yld (y_assign rfl)) rfl ?_
  refine SJ.nil ?_
  refine PJ.next ?_
  obtain ⟨kj5, hk6, hm⟩ := withK_open hm
  refine WJ.join (X := (List Int) × Value) (fun (x : (List Int) × Value) => kj5 x.1 = some r) (fun (x : (List Int) × Value) => [(3, x.2)]) (fun (x : (List Int) × Value) => [row x.2 3 fI64 x.1]) ?_ ?_
  · clear hk6
    refine WJ.seq ?_
    refine WJ.quiet ?_
    refine QJ.step (YldS.yld (y_move rfl)) rfl ?_
    refine QJ.step (YldS.yld (y_move rfl)) rfl ?_
    refine QJ.done ?_
    refine PJ.next ?_
    refine WJ.block ?_
    refine WJ.sel (L' := (fun (x : (List Int) × Value × Int) => [row x.2.1 3 fI64 x.1]) ([], v2, 0)) [0] ⟨by decide, rfl⟩ ?_
    refine WJ.sub (m' := (fun (x : (List Int) × Value × Int) => [(3, x.2.1), (6, .int .i64 size1), (7, .int .i64 x.2.2)]) ([], v2, 0)) ⟨rfl, rfl, rfl, trivial⟩ ?_
    refine WJ.loop (X := (List Int) × Value × Int) (fun N (x : (List Int) × Value × Int) => i_firstChoice_l1 kj5 size1 N x.1 x.2.2 = some r) (fun (x : (List Int) × Value × Int) => [(3, x.2.1), (6, .int .i64 size1), (7, .int .i64 x.2.2)]) (fun (x : (List Int) × Value × Int) => [row x.2.1 3 fI64 x.1]) ?_ N ([], v2, 0) hm
    · rintro N ⟨l7, v8, x9⟩ hI
      have hm := hI; clear hI
      cases N with
      | zero => cases hm
      | succ N =>
      unfold i_firstChoice_l1 at hm
      refine WJ.seq ?_
      refine WJ.quiet ?_
      refine QJ.step (YldS.yld (y_bin rfl rfl rfl)) rfl ?_
      refine QJ.done ?_
      refine PJ.next ?_
      refine WJ.seq ?_
      refine WJ.cond (t := decide (x9 < size1)) rfl (fun hb10 => ?_) (fun hb10 => ?_)
      · replace hm := ifT hm hb10
        refine WJ.skip ?_
        refine PJ.next ?_
        refine WJ.seq ?_
        refine WJ.block ?_
        refine WJ.seq ?_
        refine WJ.quiet ?_
        refine QJ.step (YldS.yld (y_move rfl)) rfl ?_
        refine QJ.step (YldS.yld (y_assign rfl)) rfl ?_
        refine QJ.done ?_
        refine PJ.next ?_
        refine WJ.reg ?_
        refine SJ.q (YldS.yld (y_move rfl)) rfl ?_
        refine SJ.q (YldS.yld (y_move rfl)) rfl ?_
        refine SJ.buildSlice (R := fI64) (os := [.tmp 11]) [x9] Try.runUnderlying49 Try.sizeOf3 Try.zeroValue3 rfl rfl rfl rfl rfl rfl fun v11 => ?_
        obtain ⟨l12, h13, hm⟩ := bindS hm
        refine SJ.append (k := 1) (R := fI64) h13 rfl Try.underlying49 el3 rfl rfl rfl (fun w hw => (hw.row_rd (k := 0) rfl)) rfl fun v14 => ?_
        refine SJ.q (YldS.yld (y_assign rfl)) rfl ?_
        refine SJ.nil ?_
        refine PJ.block_normal (PJ.next ?_)
        refine WJ.quiet ?_
        refine QJ.step (YldS.yld (y_bin rfl rfl rfl)) rfl ?_
        refine QJ.step (YldS.yld (y_move rfl)) rfl ?_
        refine QJ.done ?_
        exact PJ.round (l12, v14, w64 (x9 + 1)) [1] hm ⟨rfl, rfl, rfl, trivial⟩ ⟨by decide, rfl⟩
      · replace hm := ifF hm hb10
        refine WJ.exit ?_
        refine PJ.then_exit (PJ.then_exit (PJ.block_exit ?_))
        exact PJ.joined (l7, v8) [0] hm ⟨rfl, trivial⟩ ⟨by decide, rfl⟩
  · rintro ⟨l3, v4⟩ hm
    subst hk6
    refine WJ.seq ?_
    refine WJ.quiet ?_
    refine QJ.step (YldS.yld (y_move rfl)) rfl ?_
    refine QJ.step (YldS.yld (y_assign rfl)) rfl ?_
    refine QJ.done ?_
    refine PJ.next ?_
    refine WJ.ret ?_
    obtain rfl := Option.some.inj hm
    refine PJ.sel (L' := [row v4 3 fI64 l3]) [0] ⟨by decide, rfl⟩ ?_
    exact PJ.retn (vs := [v4]) Try.results16 ⟨rfl, trivial⟩ ⟨_, rfl, rfl⟩

set_option maxRecDepth 100000 in
set_option maxHeartbeats 1000000 in
theorem ok_i_nextChoice {N : Nat} {list1 : List Int} {n3 : Int} {v2 : Value} {r : Bool × (List Int)} (hm : i_nextChoice N list1 n3 = some r) (w : World) (S : Nat → Prop)  (hA : (row v2 3 fI64 list1).holds w S) :
    Calls Try.prog 17 #[v2, .int .i64 n3] w (RetG ⟨w, S⟩ fun u L => (u = .bool r.1 ∧ L = [row v2 3 fI64 r.2])) := by
  unfold i_nextChoice at hm
  refine Calls.enter1 hA [v2, .int .i64 n3] Try.func17 rfl Try.ntmps17 rfl ?_
  refine WJ.seq ?_
  refine WJ.quiet ?_
  refine QJ.step (YldS.yld (y_assign rfl)) rfl ?_
  refine QJ.done ?_
  refine PJ.next ?_
  obtain ⟨kj5, hk6, hm⟩ := withK_open hm
  refine WJ.join (X := (List Int)) (fun (x : (List Int)) => kj5 x = some r) (fun (x : (List Int)) => []) (fun (x : (List Int)) => [row v2 3 fI64 x]) ?_ ?_
  · clear hk6
    refine WJ.seq ?_
    refine WJ.quiet ?_
    refine QJ.step (YldS.yld (y_move rfl)) rfl ?_
    refine QJ.step (YldS.yld (y_lenRow (k := 0) rfl Try.runUnderlying49 rfl)) rfl ?_
    refine QJ.step (YldS.yld (y_bin rfl rfl rfl)) rfl ?_
    refine QJ.step (YldS.yld (y_assign rfl)) rfl ?_
    refine QJ.done ?_
    refine PJ.next ?_
    refine WJ.block ?_
    refine WJ.sel (L' := (fun (x : (List Int) × Int) => [row v2 3 fI64 x.1]) (list1, w64 ((List.length list1 : Int) - 1))) [0] ⟨by decide, rfl⟩ ?_
    refine WJ.sub (m' := (fun (x : (List Int) × Int) => [(0, v2), (1, .int .i64 n3), (5, .int .i64 x.2)]) (list1, w64 ((List.length list1 : Int) - 1))) ⟨rfl, rfl, rfl, trivial⟩ ?_
    refine WJ.loop (X := (List Int) × Int) (fun N (x : (List Int) × Int) => i_nextChoice_l1 kj5 n3 N x.1 x.2 = some r) (fun (x : (List Int) × Int) => [(0, v2), (1, .int .i64 n3), (5, .int .i64 x.2)]) (fun (x : (List Int) × Int) => [row v2 3 fI64 x.1]) ?_ N (list1, w64 ((List.length list1 : Int) - 1)) hm
    · rintro N ⟨l7, i8⟩ hI
      have hm := hI; clear hI
      cases N with
      | zero => cases hm
      | succ N =>
      unfold i_nextChoice_l1 at hm
      refine WJ.seq ?_
      refine WJ.seq ?_
      refine WJ.quiet ?_
      refine QJ.step (YldS.yld (y_move rfl)) rfl ?_
      refine QJ.step (YldS.yld (y_bin rfl rfl rfl)) rfl ?_
      refine QJ.done ?_
      refine PJ.next ?_
      refine WJ.cond (t := decide (i8 ≥ 0)) rfl (fun hb9 => ?_) (fun hb9 => ?_)
      · replace hm := ifT hm hb9
        refine WJ.skip ?_
        refine PJ.next ?_
        obtain ⟨kj11, hk12, hm⟩ := withK_open hm
        refine WJ.join (X := (List Int)) (fun (x : (List Int)) => kj11 x = some r) (fun (x : (List Int)) => [(0, v2), (1, .int .i64 n3), (5, .int .i64 i8)]) (fun (x : (List Int)) => [row v2 3 fI64 x]) ?_ ?_
        · clear hk12
          refine WJ.block ?_
          refine WJ.seq ?_
          refine WJ.quiet ?_
          refine QJ.step (YldS.yld (y_move rfl)) rfl ?_
          refine QJ.step (YldS.yld (y_move rfl)) rfl ?_
          obtain ⟨e13, h14, hm⟩ := bindS hm
          refine QJ.step (YldS.yld (y_ixRow (k := 0) (R := fI64) rfl Try.runUnderlying49 Try.sizeOf3 rfl rfl h14)) rfl ?_
          refine QJ.step (YldS.yld (y_loadR (k := 0) (i := (Int.toNat i8)) (off := 0) (u := .int .i64 e13) rfl Try.isAgg3 rfl (idx_get h14) rfl)) rfl ?_
          refine QJ.step (YldS.yld (y_move rfl)) rfl ?_
          refine QJ.step (YldS.yld (y_move rfl)) rfl ?_
          refine QJ.step (YldS.yld (y_lenRow (k := 0) rfl Try.runUnderlying49 rfl)) rfl ?_
          refine QJ.step (YldS.yld (y_bin rfl rfl rfl)) rfl ?_
          refine QJ.step (YldS.yld (y_move rfl)) rfl ?_
          refine QJ.step (YldS.yld (y_bin rfl rfl rfl)) rfl ?_
          refine QJ.step (YldS.yld (y_bin rfl rfl rfl)) rfl ?_
          refine QJ.done ?_
          refine PJ.next ?_
          refine WJ.cond (t := decide (e13 < (w64 ((w64 (n3 - (List.length l7 : Int))) + i8)))) rfl (fun hb15 => ?_) (fun hb15 => ?_)
          · replace hm := ifT hm hb15
            refine WJ.seq ?_
            refine WJ.reg ?_
            refine SJ.q (YldS.yld (y_move rfl)) rfl ?_
            refine SJ.q (YldS.yld (y_move rfl)) rfl ?_
            obtain ⟨e16, h17, hm⟩ := bindS hm
            refine SJ.q (YldS.yld (y_ixRow (k := 0) (R := fI64) rfl Try.runUnderlying49 Try.sizeOf3 rfl rfl h17)) rfl ?_
            refine SJ.q (YldS.yld (y_loadR (k := 0) (i := (Int.toNat i8)) (off := 0) (u := .int .i64 e16) rfl Try.isAgg3 rfl (idx_get h17) rfl)) rfl ?_
            refine SJ.q (YldS.yld (y_bin rfl rfl rfl)) rfl ?_
            obtain ⟨e18, h19, hm⟩ := bindS hm
            refine SJ.q (YldS.yld (y_ixRow (k := 0) (R := fI64) rfl Try.runUnderlying49 Try.sizeOf3 rfl rfl h19)) rfl ?_
            refine SJ.storeRL (k := 0) (i := (Int.toNat i8)) (off := 0) (us := [.int .i64 (w64 (e16 + 1))]) (b := w64 (e16 + 1)) rfl rfl (idx_get h19) rfl rfl Try.sizeOf3 rfl rfl rfl ?_
            refine SJ.nil ?_
            refine PJ.next ?_
            obtain ⟨kj21, hk22, hm⟩ := withK_open hm
            refine WJ.join (X := (List Int)) (fun (x : (List Int)) => kj21 x = some r) (fun (x : (List Int)) => []) (fun (x : (List Int)) => [row v2 3 fI64 x]) ?_ ?_
            · clear hk22
              refine WJ.seq ?_
              refine WJ.quiet ?_
              refine QJ.step (YldS.yld (y_move rfl)) rfl ?_
              refine QJ.step (YldS.yld (y_bin rfl rfl rfl)) rfl ?_
              refine QJ.step (YldS.yld (y_assign rfl)) rfl ?_
              refine QJ.done ?_
              refine PJ.next ?_
              refine WJ.block ?_
              refine WJ.sel (L' := (fun (x : (List Int) × Int) => [row v2 3 fI64 x.1]) ((List.set l7 (Int.toNat i8) (w64 (e16 + 1))), w64 (i8 + 1))) [0] ⟨by decide, rfl⟩ ?_
              refine WJ.sub (m' := (fun (x : (List Int) × Int) => [(0, v2), (6, .int .i64 x.2)]) ((List.set l7 (Int.toNat i8) (w64 (e16 + 1))), w64 (i8 + 1))) ⟨rfl, rfl, trivial⟩ ?_
              refine WJ.loop (X := (List Int) × Int) (fun N (x : (List Int) × Int) => i_nextChoice_l2 kj21 N x.1 x.2 = some r) (fun (x : (List Int) × Int) => [(0, v2), (6, .int .i64 x.2)]) (fun (x : (List Int) × Int) => [row v2 3 fI64 x.1]) ?_ N ((List.set l7 (Int.toNat i8) (w64 (e16 + 1))), w64 (i8 + 1)) hm
              · rintro N ⟨l23, k24⟩ hI
                have hm := hI; clear hI
                cases N with
                | zero => cases hm
                | succ N =>
                unfold i_nextChoice_l2 at hm
                refine WJ.seq ?_
                refine WJ.seq ?_
                refine WJ.quiet ?_
                refine QJ.step (YldS.yld (y_move rfl)) rfl ?_
                refine QJ.step (YldS.yld (y_move rfl)) rfl ?_
                refine QJ.step (YldS.yld (y_lenRow (k := 0) rfl Try.runUnderlying49 rfl)) rfl ?_
                refine QJ.step (YldS.yld (y_bin rfl rfl rfl)) rfl ?_
                refine QJ.done ?_
                refine PJ.next ?_
                refine WJ.cond (t := decide (k24 < (List.length l23 : Int))) rfl (fun hb25 => ?_) (fun hb25 => ?_)
                · replace hm := ifT hm hb25
                  refine WJ.skip ?_
                  refine PJ.next ?_
                  refine WJ.seq ?_
                  refine WJ.block ?_
                  refine WJ.reg ?_
                  refine SJ.q (YldS.yld (y_move rfl)) rfl ?_
                  refine SJ.q (YldS.yld (y_move rfl)) rfl ?_
                  refine SJ.q (YldS.yld (y_move rfl)) rfl ?_
                  refine SJ.q (YldS.yld (y_move rfl)) rfl ?_
                  refine SJ.q (YldS.yld (y_bin rfl rfl rfl)) rfl ?_
                  obtain ⟨e26, h27, hm⟩ := bindS hm
                  refine SJ.q (YldS.yld (y_ixRow (k := 0) (R := fI64) rfl Try.runUnderlying49 Try.sizeOf3 rfl rfl h27)) rfl ?_
                  refine SJ.q (YldS.yld (y_loadR (k := 0) (i := (Int.toNat (w64 (k24 - 1)))) (off := 0) (u := .int .i64 e26) rfl Try.isAgg3 rfl (idx_get h27) rfl)) rfl ?_
                  refine SJ.q (YldS.yld (y_bin rfl rfl rfl)) rfl ?_
                  obtain ⟨e28, h29, hm⟩ := bindS hm
                  refine SJ.q (YldS.yld (y_ixRow (k := 0) (R := fI64) rfl Try.runUnderlying49 Try.sizeOf3 rfl rfl h29)) rfl ?_
                  refine SJ.storeRL (k := 0) (i := (Int.toNat k24)) (off := 0) (us := [.int .i64 (w64 (e26 + 1))]) (b := w64 (e26 + 1)) rfl rfl (idx_get h29) rfl rfl Try.sizeOf3 rfl rfl rfl ?_
                  refine SJ.nil ?_
                  refine PJ.block_normal (PJ.next ?_)
                  refine WJ.quiet ?_
                  refine QJ.step (YldS.yld (y_move rfl)) rfl ?_
                  refine QJ.step (YldS.yld (y_bin rfl rfl rfl)) rfl ?_
                  refine QJ.step (YldS.yld (y_assign rfl)) rfl ?_
                  refine QJ.done ?_
                  exact PJ.round ((List.set l23 (Int.toNat k24) (w64 (e26 + 1))), w64 (k24 + 1)) [0] hm ⟨rfl, rfl, trivial⟩ ⟨by decide, rfl⟩
                · replace hm := ifF hm hb25
                  refine WJ.exit ?_
                  refine PJ.then_exit (PJ.then_exit (PJ.block_exit ?_))
                  exact PJ.joined l23 [0] hm trivial ⟨by decide, rfl⟩
            · rintro l20 hm
              subst hk22
              refine WJ.seq ?_
              refine WJ.quiet ?_
              refine QJ.step (YldS.yld (y_assign rfl)) rfl ?_
              refine QJ.done ?_
              refine PJ.next ?_
              refine WJ.ret ?_
              refine PJ.block_ret (PJ.then_ret (PJ.then_ret (PJ.block_ret (PJ.then_ret ?_))))
              obtain rfl := Option.some.inj hm
              refine PJ.sel (L' := [row v2 3 fI64 l20]) [0] ⟨by decide, rfl⟩ ?_
              exact PJ.retn (vs := [.bool true]) Try.results17 ⟨rfl, trivial⟩ ⟨rfl, rfl⟩
          · replace hm := ifF hm hb15
            refine WJ.skip ?_
            refine PJ.block_normal ?_
            exact PJ.joined l7 [0] hm ⟨rfl, rfl, rfl, trivial⟩ ⟨by decide, rfl⟩
        · rintro l10 hm
          subst hk12
          refine WJ.quiet ?_
          refine QJ.step (YldS.yld (y_move rfl)) rfl ?_
          refine QJ.step (YldS.yld (y_bin rfl rfl rfl)) rfl ?_
          refine QJ.step (YldS.yld (y_assign rfl)) rfl ?_
          refine QJ.done ?_
          exact PJ.round (l10, w64 (i8 - 1)) [0] hm ⟨rfl, rfl, rfl, trivial⟩ ⟨by decide, rfl⟩
      · replace hm := ifF hm hb9
        refine WJ.exit ?_
        refine PJ.then_exit (PJ.then_exit (PJ.block_exit ?_))
        exact PJ.joined l7 [0] hm trivial ⟨by decide, rfl⟩
  · rintro l4 hm
    subst hk6
    refine WJ.seq ?_
    refine WJ.quiet ?_
    refine QJ.step (YldS.yld (y_assign rfl)) rfl ?_
    refine QJ.done ?_
    refine PJ.next ?_
    refine WJ.ret ?_
    obtain rfl := Option.some.inj hm
    refine PJ.sel (L' := [row v2 3 fI64 l4]) [0] ⟨by decide, rfl⟩ ?_
    exact PJ.retn (vs := [.bool false]) Try.results17 ⟨rfl, trivial⟩ ⟨rfl, rfl⟩

set_option maxRecDepth 100000 in
set_option maxHeartbeats 1000000 in
theorem ok_i_FewestLetters {N : Nat} {list1 : List Writer} {r : (List Str) × Int} (hm : i_FewestLetters N list1 = some r) (w : World) (v2 : Value) (hr3 : RdS w (cx w).Fz v2 (shWriter.rp fTypeFault.rp) list1) :
    Calls Try.prog 6 #[v2] w (RetG (cx w) fun u L => ∃ (u1 : Value), (u = tup [u1, .int .i64 r.2] ∧ L = [row u1 9 fStr r.1])) := by
  unfold i_FewestLetters at hm
  refine Calls.enter [v2] Try.func6 rfl Try.ntmps6 rfl ?_
  refine WJ.seq ?_
  refine WJ.quiet ?_
  refine QJ.step (YldS.yld (y_assign rfl)) rfl ?_
  refine QJ.step (YldS.yld (y_assign rfl)) rfl ?_
  refine QJ.done ?_
  refine PJ.next ?_
  refine WJ.seq ?_
  refine WJ.seq ?_
  refine WJ.quiet ?_
  refine QJ.step (YldS.yld (y_move rfl)) rfl ?_
  obtain ⟨r4, h5, hm⟩ := bindS hm
  refine QJ.step (y_call Try.call13 rfl (RetG.quiet fun w hw => ok_i_ValidWriters h5 w _ (hr3.st hw))) rfl ?_
  refine QJ.step (YldS.yld (y_not rfl)) rfl ?_
  refine QJ.done ?_
  refine PJ.next ?_
  refine WJ.cond (t := !r4) rfl (fun hb6 => ?_) (fun hb6 => ?_)
  · replace hm := ifT hm hb6
    refine WJ.seq ?_
    refine WJ.quiet ?_
    refine QJ.step (YldS.yld (y_assign rfl)) rfl ?_
    refine QJ.step (YldS.yld (y_assign rfl)) rfl ?_
    refine QJ.done ?_
    refine PJ.next ?_
    refine WJ.ret ?_
    refine PJ.then_ret ?_
    refine PJ.nil_row 9 fStr ?_
    obtain rfl := Option.some.inj hm
    refine PJ.sel (L' := [row (.slice none 0 0) 9 fStr []]) [0] ⟨by decide, rfl⟩ ?_
    exact PJ.retn (vs := [(.slice none 0 0), .int .i64 1]) Try.results6 ⟨rfl, rfl, trivial⟩ ⟨_, rfl, rfl⟩
  · replace hm := ifF hm hb6
    refine WJ.skip ?_
    refine PJ.next ?_
    refine WJ.seq ?_
    refine WJ.reg ?_
    refine SJ.q (YldS.yld (y_build0 Try.runUnderlying44 zv44 Try.sizeOf4)) rfl ?_
    refine SJ.allocA (R := fBool) (xs := List.replicate 256 false) 256 zv44 rfl rfl rfl rfl fun g7 => ?_
    refine SJ.storeA (k := 0) (ys := (List.replicate 256 false)) rfl rfl rfl rfl (by simp) Try.sizeOf44 (by simp [length_encs, fBool]) ?_
    refine SJ.nil ?_
    refine PJ.next ?_
    refine WJ.seq ?_
    refine WJ.reg ?_
    refine SJ.buildSlice (R := fAr44) (os := []) ([] : List (List Bool)) Try.runUnderlying45 Try.sizeOf44 zv44 rfl rfl rfl rfl rfl rfl fun v8 => ?_
    refine SJ.q (YldS.yld (y_assign rfl)) rfl ?_
    refine SJ.nil ?_
    refine PJ.next ?_
    obtain ⟨kj12, hk13, hm⟩ := withK_open hm
    refine WJ.join (X := (List (List Bool)) × Value × (List Bool)) (fun (x : (List (List Bool)) × Value × (List Bool)) => kj12 x.1 x.2.2 = some r) (fun (x : (List (List Bool)) × Value × (List Bool)) => [(4, pt g7 0), (5, x.2.1)]) (fun (x : (List (List Bool)) × Value × (List Bool)) => [row x.2.1 44 fAr44 x.1, row (av g7 256) 44 fBool x.2.2]) ?_ ?_
    · clear hk13
      refine WJ.seq ?_
      refine WJ.quiet ?_
      refine QJ.step (YldS.yld (y_move rfl)) rfl ?_
      refine QJ.step (YldS.yld (y_lenS Try.runUnderlying24 hr3 rfl)) rfl ?_
      refine QJ.step (YldS.yld (y_move rfl)) rfl ?_
      refine QJ.done ?_
      refine PJ.next ?_
      refine WJ.block ?_
      refine WJ.sel (L' := (fun (x : (List (List Bool)) × Value × (List Bool) × Int) => [row x.2.1 44 fAr44 x.1, row (av g7 256) 44 fBool x.2.2.1]) (([] : List (List Bool)), v8, (List.replicate 256 false), 0)) [0, 1] ⟨by decide, rfl⟩ ?_
      refine WJ.sub (m' := (fun (x : (List (List Bool)) × Value × (List Bool) × Int) => [(0, v2), (4, pt g7 0), (5, x.2.1), (26, .int .i64 (List.length list1 : Int)), (27, .int .i64 x.2.2.2)]) (([] : List (List Bool)), v8, (List.replicate 256 false), 0)) ⟨rfl, rfl, rfl, rfl, rfl, trivial⟩ ?_
      refine WJ.loop (X := (List (List Bool)) × Value × (List Bool) × Int) (fun N (x : (List (List Bool)) × Value × (List Bool) × Int) => i_FewestLetters_l1 kj12 list1 N x.1 x.2.2.1 x.2.2.2 = some r) (fun (x : (List (List Bool)) × Value × (List Bool) × Int) => [(0, v2), (4, pt g7 0), (5, x.2.1), (26, .int .i64 (List.length list1 : Int)), (27, .int .i64 x.2.2.2)]) (fun (x : (List (List Bool)) × Value × (List Bool) × Int) => [row x.2.1 44 fAr44 x.1, row (av g7 256) 44 fBool x.2.2.1]) ?_ N (([] : List (List Bool)), v8, (List.replicate 256 false), 0) hm
      · rintro N ⟨l14, v15, l16, x17⟩ hI
        have hm := hI; clear hI
        cases N with
        | zero => cases hm
        | succ N =>
        unfold i_FewestLetters_l1 at hm
        refine WJ.seq ?_
        refine WJ.quiet ?_
        refine QJ.step (YldS.yld (y_bin rfl rfl rfl)) rfl ?_
        refine QJ.done ?_
        refine PJ.next ?_
        refine WJ.seq ?_
        refine WJ.cond (t := decide (x17 < (List.length list1 : Int))) rfl (fun hb18 => ?_) (fun hb18 => ?_)
        · replace hm := ifT hm hb18
          refine WJ.skip ?_
          refine PJ.next ?_
          obtain ⟨kj22, hk23, hm⟩ := withK_open hm
          refine WJ.join (X := (List (List Bool)) × Value × (List Bool)) (fun (x : (List (List Bool)) × Value × (List Bool)) => kj22 x.1 x.2.2 = some r) (fun (x : (List (List Bool)) × Value × (List Bool)) => [(0, v2), (4, pt g7 0), (5, x.2.1), (26, .int .i64 (List.length list1 : Int)), (27, .int .i64 x17)]) (fun (x : (List (List Bool)) × Value × (List Bool)) => [row x.2.1 44 fAr44 x.1, row (av g7 256) 44 fBool x.2.2]) ?_ ?_
          · clear hk23
            refine WJ.block ?_
            refine WJ.seq ?_
            refine WJ.quiet ?_
            refine QJ.step (YldS.yld (y_move rfl)) rfl ?_
            refine QJ.step (YldS.yld (y_assign rfl)) rfl ?_
            refine QJ.done ?_
            refine PJ.next ?_
            refine WJ.seq ?_
            refine WJ.quiet ?_
            refine QJ.step (YldS.yld (y_move rfl)) rfl ?_
            refine QJ.step (YldS.yld (y_move rfl)) rfl ?_
            refine QJ.done ?_
            refine PJ.next ?_
            refine WJ.block ?_
            refine WJ.sel (L' := (fun (x : (List (List Bool)) × Value × (List Bool) × Int) => [row x.2.1 44 fAr44 x.1, row (av g7 256) 44 fBool x.2.2.1]) (l14, v15, l16, 0)) [0, 1] ⟨by decide, rfl⟩ ?_
            refine WJ.sub (m' := (fun (x : (List (List Bool)) × Value × (List Bool) × Int) => [(0, v2), (4, pt g7 0), (5, x.2.1), (6, .int .i64 x17), (26, .int .i64 (List.length list1 : Int)), (27, .int .i64 x17), (30, .int .i64 x17), (31, .int .i64 x.2.2.2)]) (l14, v15, l16, 0)) ⟨rfl, rfl, rfl, rfl, rfl, rfl, rfl, rfl, trivial⟩ ?_
            refine WJ.loop (X := (List (List Bool)) × Value × (List Bool) × Int) (fun N (x : (List (List Bool)) × Value × (List Bool) × Int) => i_FewestLetters_l2 kj22 list1 x17 N x.1 x.2.2.1 x.2.2.2 = some r) (fun (x : (List (List Bool)) × Value × (List Bool) × Int) => [(0, v2), (4, pt g7 0), (5, x.2.1), (6, .int .i64 x17), (26, .int .i64 (List.length list1 : Int)), (27, .int .i64 x17), (30, .int .i64 x17), (31, .int .i64 x.2.2.2)]) (fun (x : (List (List Bool)) × Value × (List Bool) × Int) => [row x.2.1 44 fAr44 x.1, row (av g7 256) 44 fBool x.2.2.1]) ?_ N (l14, v15, l16, 0) hm
            · rintro N ⟨l24, v25, l26, x27⟩ hI
              have hm := hI; clear hI
              cases N with
              | zero => cases hm
              | succ N =>
              unfold i_FewestLetters_l2 at hm
              refine WJ.seq ?_
              refine WJ.quiet ?_
              refine QJ.step (YldS.yld (y_bin rfl rfl rfl)) rfl ?_
              refine QJ.done ?_
              refine PJ.next ?_
              refine WJ.seq ?_
              refine WJ.cond (t := decide (x27 < x17)) rfl (fun hb28 => ?_) (fun hb28 => ?_)
              · replace hm := ifT hm hb28
                refine WJ.skip ?_
                refine PJ.next ?_
                refine WJ.seq ?_
                refine WJ.block ?_
                refine WJ.seq ?_
                refine WJ.quiet ?_
                refine QJ.step (YldS.yld (y_move rfl)) rfl ?_
                refine QJ.step (YldS.yld (y_assign rfl)) rfl ?_
                refine QJ.done ?_
                refine PJ.next ?_
                refine WJ.seq ?_
                refine WJ.reg ?_
                refine SJ.q (YldS.yld (y_build0 Try.runUnderlying44 zv44 Try.sizeOf4)) rfl ?_
                refine SJ.allocA (R := fBool) (xs := List.replicate 256 false) 256 zv44 rfl rfl rfl rfl fun g29 => ?_
                refine SJ.storeA (k := 0) (ys := (List.replicate 256 false)) rfl rfl rfl rfl (by simp) Try.sizeOf44 (by simp [length_encs, fBool]) ?_
                refine SJ.nil ?_
                refine PJ.next ?_
                refine WJ.seq ?_
                obtain ⟨e30, h31, hm⟩ := bindS hm
                obtain ⟨ad32, _, ⟨v35, rfl, hr36⟩, ha33, hy34⟩ := hr3.elem h31
                obtain ⟨e37, h38, hm⟩ := bindS hm
                obtain ⟨ad39, _, ⟨v42, rfl, hr43⟩, ha40, hy41⟩ := hr3.elem h38
                obtain ⟨r44, h45, hm⟩ := bindS hm
                refine WJ.draws (N := 9) (listed0 := #[false, false, false, false, false, false, false, false, false]) [row v25 44 fAr44 l24, row (av g7 256) 44 fBool l26] follows rfl rfl ?_
                refine RJ.first 0 (listed' := #[true, false, false, false, false, false, false, false, false]) [1, 2] rfl (by kernel_rfl) rfl ⟨by decide, rfl⟩ (y_move rfl) rfl ?_
                refine RJ.first 1 (listed' := #[true, true, false, false, false, false, false, false, false]) [1, 2] rfl (by kernel_rfl) rfl ⟨by decide, rfl⟩ (y_move rfl) rfl ?_
                refine RJ.first 2 (listed' := #[true, true, true, false, false, false, false, false, false]) [1, 2] rfl (by kernel_rfl) rfl ⟨by decide, rfl⟩ (hy34 Try.runUnderlying24 Try.sizeOf34 rfl rfl) rfl ?_
                refine RJ.first 3 (listed' := #[true, true, true, true, false, false, false, false, false]) [1, 2] rfl (by kernel_rfl) rfl ⟨by decide, rfl⟩ (y_loadN Try.isAgg34 Try.sizeOf34 rfl ha33 St.frozenC rfl) rfl ?_
                refine RJ.first 4 (listed' := #[true, true, true, true, true, false, false, false, false]) [1, 2] rfl (by kernel_rfl) rfl ⟨by decide, rfl⟩ (y_move rfl) rfl ?_
                refine RJ.first 5 (listed' := #[true, true, true, true, true, true, false, false, false]) [1, 2] rfl (by kernel_rfl) rfl ⟨by decide, rfl⟩ (y_move rfl) rfl ?_
                refine RJ.first 6 (listed' := #[true, true, true, true, true, true, true, false, false]) [1, 2] rfl (by kernel_rfl) rfl ⟨by decide, rfl⟩ (hy41 Try.runUnderlying24 Try.sizeOf34 rfl rfl) rfl ?_
                refine RJ.first 7 (listed' := #[true, true, true, true, true, true, true, true, false]) [1, 2] rfl (by kernel_rfl) rfl ⟨by decide, rfl⟩ (y_loadN Try.isAgg34 Try.sizeOf34 rfl ha40 St.frozenC rfl) rfl ?_
                refine RJ.step1 8 [1, 2] (by kernel_rfl) ⟨by decide, rfl⟩ ?_
                refine RO.of (listed' := #[true, true, true, true, true, true, true, true, true]) rfl rfl ?_
                refine SJ.call2 (k := 0) rfl Try.call14 rfl (fun w S hw hA hO hB => ok_i_apart h45 w S _ (hr36.st1 hw hO) _ (hr43.st1 hw hO) hA) rfl ?_
                rintro _ _ ⟨rfl, rfl⟩
                refine SJ.nil ?_
                refine PJ.draw ?_
                refine RJ.fin [1, 2] (by kernel_rfl) ⟨by decide, rfl⟩ ?_
                refine PJ.next ?_
                refine WJ.seq ?_
                refine WJ.seq ?_
                refine WJ.quiet ?_
                obtain ⟨r46, h47, hm⟩ := bindS hm
                refine QJ.step (y_call Try.call15 rfl (RetG.quiet fun w hw => ok_i_ascending h47 w _ (hw.row_rd (k := 0) rfl))) rfl ?_
                refine QJ.step (YldS.yld (y_binS rfl rfl rfl)) rfl ?_
                refine QJ.done ?_
                refine PJ.next ?_
                refine WJ.cond (t := (r46 == [])) rfl (fun hb48 => ?_) (fun hb48 => ?_)
                · replace hm := ifT hm hb48
                  refine WJ.seq ?_
                  refine WJ.quiet ?_
                  refine QJ.step (YldS.yld (y_assign rfl)) rfl ?_
                  refine QJ.step (YldS.yld (y_assign rfl)) rfl ?_
                  refine QJ.done ?_
                  refine PJ.next ?_
                  refine WJ.ret ?_
                  refine PJ.then_ret (PJ.block_ret (PJ.then_ret (PJ.then_ret (PJ.block_ret (PJ.block_ret (PJ.then_ret (PJ.then_ret (PJ.block_ret (PJ.then_ret ?_)))))))))
                  refine PJ.nil_row 9 fStr ?_
                  obtain rfl := Option.some.inj hm
                  refine PJ.sel (L' := [row (.slice none 0 0) 9 fStr []]) [0] ⟨by decide, rfl⟩ ?_
                  exact PJ.retn (vs := [(.slice none 0 0), .int .i64 9]) Try.results6 ⟨rfl, rfl, trivial⟩ ⟨_, rfl, rfl⟩
                · replace hm := ifF hm hb48
                  refine WJ.skip ?_
                  refine PJ.next ?_
                  refine WJ.seq ?_
                  obtain ⟨e49, h50, hm⟩ := bindS hm
                  obtain ⟨ad51, _, ⟨v54, rfl, hr55⟩, ha52, hy53⟩ := hr3.elem h50
                  obtain ⟨e56, h57, hm⟩ := bindS hm
                  obtain ⟨ad58, _, ⟨v61, rfl, hr62⟩, ha59, hy60⟩ := hr3.elem h57
                  obtain ⟨r63, h64, hm⟩ := bindS hm
                  refine WJ.draws (N := 9) (listed0 := #[false, false, false, false, false, false, false, false, false]) [row (av g29 256) 44 fBool r44, row v25 44 fAr44 l24] follows rfl rfl ?_
                  refine RJ.first 0 (listed' := #[true, false, false, false, false, false, false, false, false]) [0, 1] rfl (by kernel_rfl) rfl ⟨by decide, rfl⟩ (y_move rfl) rfl ?_
                  refine RJ.first 1 (listed' := #[true, true, false, false, false, false, false, false, false]) [0, 1] rfl (by kernel_rfl) rfl ⟨by decide, rfl⟩ (y_move rfl) rfl ?_
                  refine RJ.first 2 (listed' := #[true, true, true, false, false, false, false, false, false]) [0, 1] rfl (by kernel_rfl) rfl ⟨by decide, rfl⟩ (hy53 Try.runUnderlying24 Try.sizeOf34 rfl rfl) rfl ?_
                  refine RJ.first 3 (listed' := #[true, true, true, true, false, false, false, false, false]) [0, 1] rfl (by kernel_rfl) rfl ⟨by decide, rfl⟩ (y_loadN Try.isAgg34 Try.sizeOf34 rfl ha52 St.frozenC rfl) rfl ?_
                  refine RJ.first 4 (listed' := #[true, true, true, true, true, false, false, false, false]) [0, 1] rfl (by kernel_rfl) rfl ⟨by decide, rfl⟩ (y_move rfl) rfl ?_
                  refine RJ.first 5 (listed' := #[true, true, true, true, true, true, false, false, false]) [0, 1] rfl (by kernel_rfl) rfl ⟨by decide, rfl⟩ (y_move rfl) rfl ?_
                  refine RJ.first 6 (listed' := #[true, true, true, true, true, true, true, false, false]) [0, 1] rfl (by kernel_rfl) rfl ⟨by decide, rfl⟩ (hy60 Try.runUnderlying24 Try.sizeOf34 rfl rfl) rfl ?_
                  refine RJ.first 7 (listed' := #[true, true, true, true, true, true, true, true, false]) [0, 1] rfl (by kernel_rfl) rfl ⟨by decide, rfl⟩ (y_loadN Try.isAgg34 Try.sizeOf34 rfl ha59 St.frozenC rfl) rfl ?_
                  refine RJ.step1 8 [0, 1] (by kernel_rfl) ⟨by decide, rfl⟩ ?_
                  refine RO.of (listed' := #[true, true, true, true, true, true, true, true, true]) rfl rfl ?_
                  refine SJ.call2 (k := 2) rfl Try.call14 rfl (fun w S hw hA hO hB => ok_i_apart h64 w S _ (hr55.st1 hw hO) _ (hr62.st1 hw hO) hA) rfl ?_
                  rintro _ _ ⟨rfl, rfl⟩
                  refine SJ.nil ?_
                  refine PJ.draw ?_
                  refine RJ.fin [1, 2] (by kernel_rfl) ⟨by decide, rfl⟩ ?_
                  refine PJ.next ?_
                  refine WJ.reg ?_
                  refine SJ.q (YldS.yld (y_move rfl)) rfl ?_
                  refine SJ.q (YldS.yld (y_loadA (k := 1) (R := fBool) rfl Try.isAgg44 Try.sizeOf44 rfl rfl)) rfl ?_
                  refine SJ.arrLen 1 rfl fun hl65 => ?_
                  refine SJ.buildSlice (R := fAr44) (os := [.tmp 56]) ([r44] : List (List Bool)) Try.runUnderlying45 Try.sizeOf44 zv44 rfl rfl rfl (by simp only [List.map_cons, List.map_nil, fArr_enc hl65]; rfl) rfl rfl fun v66 => ?_
                  obtain ⟨l67, h68, hm⟩ := bindS hm
                  refine SJ.appendB (k := 3) (R := fAr44) h68 rfl Try.underlying45 el44 rfl rfl rfl (fun w hw => (hw.row_rd (k := 0) rfl)) rfl fun v69 => ?_
                  refine SJ.q (YldS.yld (y_assign rfl)) rfl ?_
                  refine SJ.nil ?_
                  refine PJ.block_normal (PJ.next ?_)
                  refine WJ.quiet ?_
                  refine QJ.step (YldS.yld (y_bin rfl rfl rfl)) rfl ?_
                  refine QJ.step (YldS.yld (y_move rfl)) rfl ?_
                  refine QJ.done ?_
                  exact PJ.round (l67, v69, r63, w64 (x27 + 1)) [3, 1] hm ⟨rfl, rfl, rfl, rfl, rfl, rfl, rfl, rfl, trivial⟩ ⟨by decide, rfl⟩
              · replace hm := ifF hm hb28
                refine WJ.exit ?_
                refine PJ.then_exit (PJ.then_exit (PJ.block_exit (PJ.block_normal ?_)))
                exact PJ.joined (l24, v25, l26) [0, 1] hm ⟨rfl, rfl, rfl, rfl, rfl, trivial⟩ ⟨by decide, rfl⟩
          · rintro ⟨l19, v20, l21⟩ hm
            subst hk23
            refine WJ.quiet ?_
            refine QJ.step (YldS.yld (y_bin rfl rfl rfl)) rfl ?_
            refine QJ.step (YldS.yld (y_move rfl)) rfl ?_
            refine QJ.done ?_
            exact PJ.round (l19, v20, l21, w64 (x17 + 1)) [0, 1] hm ⟨rfl, rfl, rfl, rfl, rfl, trivial⟩ ⟨by decide, rfl⟩
        · replace hm := ifF hm hb18
          refine WJ.exit ?_
          refine PJ.then_exit (PJ.then_exit (PJ.block_exit ?_))
          exact PJ.joined (l14, v15, l16) [0, 1] hm ⟨rfl, rfl, trivial⟩ ⟨by decide, rfl⟩
    · rintro ⟨l9, v10, l11⟩ hm
      subst hk13
      refine WJ.seq ?_
      refine WJ.quiet ?_
      obtain ⟨r70, h71, hm⟩ := bindS hm
      refine QJ.step (y_call Try.call15 rfl (RetG.quiet fun w hw => ok_i_ascending h71 w _ (hw.row_rd (k := 1) rfl))) rfl ?_
      refine QJ.step (YldS.yld (y_assign rfl)) rfl ?_
      refine QJ.done ?_
      refine PJ.next ?_
      refine WJ.seq ?_
      refine WJ.seq ?_
      refine WJ.quiet ?_
      refine QJ.step (YldS.yld (y_move rfl)) rfl ?_
      refine QJ.step (YldS.yld (y_lenStr Try.runUnderlying9 rfl)) rfl ?_
      refine QJ.step (YldS.yld (y_bin rfl rfl rfl)) rfl ?_
      refine QJ.done ?_
      refine PJ.next ?_
      refine WJ.cond (t := decide ((List.length r70 : Int) > 16)) rfl (fun hb72 => ?_) (fun hb72 => ?_)
      · replace hm := ifT hm hb72
        refine WJ.seq ?_
        refine WJ.quiet ?_
        refine QJ.step (YldS.yld (y_assign rfl)) rfl ?_
        refine QJ.step (YldS.yld (y_assign rfl)) rfl ?_
        refine QJ.done ?_
        refine PJ.next ?_
        refine WJ.ret ?_
        refine PJ.then_ret ?_
        refine PJ.nil_row 9 fStr ?_
        obtain rfl := Option.some.inj hm
        refine PJ.sel (L' := [row (.slice none 0 0) 9 fStr []]) [0] ⟨by decide, rfl⟩ ?_
        exact PJ.retn (vs := [(.slice none 0 0), .int .i64 5]) Try.results6 ⟨rfl, rfl, trivial⟩ ⟨_, rfl, rfl⟩
      · replace hm := ifF hm hb72
        refine WJ.skip ?_
        refine PJ.next ?_
        refine WJ.seq ?_
        refine WJ.quiet ?_
        refine QJ.step (YldS.yld (y_assign rfl)) rfl ?_
        refine QJ.done ?_
        refine PJ.next ?_
        refine WJ.block ?_
        refine WJ.sel (L' := (fun (x : Int) => [row v10 44 fAr44 l9]) 0) [0] ⟨by decide, rfl⟩ ?_
        refine WJ.sub (m' := (fun (x : Int) => [(5, v10), (9, str r70), (10, .int .i64 x)]) 0) ⟨rfl, rfl, rfl, trivial⟩ ?_
        refine WJ.loop (X := Int) (fun N (x : Int) => i_FewestLetters_l3 l9 r70 N x = some r) (fun (x : Int) => [(5, v10), (9, str r70), (10, .int .i64 x)]) (fun (x : Int) => [row v10 44 fAr44 l9]) ?_ N 0 hm
        · rintro N size73 hI
          have hm := hI; clear hI
          cases N with
          | zero => cases hm
          | succ N =>
          unfold i_FewestLetters_l3 at hm
          obtain ⟨kj74, hk75, hm⟩ := withK_open hm
          refine WJ.join (X := Unit) (fun (_ : Unit) => kj74  = some r) (fun (_ : Unit) => [(5, v10), (9, str r70), (10, .int .i64 size73)]) (fun (_ : Unit) => [row v10 44 fAr44 l9]) ?_ ?_
          · clear hk75
            refine WJ.block ?_
            refine WJ.seq ?_
            refine WJ.reg ?_
            refine SJ.q (YldS.yld (y_move rfl)) rfl ?_
            obtain ⟨r76, h77, hm⟩ := bindS hm
            refine SJ.call Try.call16 rfl (fun w hw => ok_i_firstChoice h77 w ) rfl ?_
            rintro v78 _ ⟨_, rfl, rfl⟩
            refine SJ.q (YldS.yld (y_assign rfl)) rfl ?_
            refine SJ.nil ?_
            refine PJ.next ?_
            refine WJ.block ?_
            refine WJ.sel (L' := (fun (x : (List Int)) => [row v78 3 fI64 x, row v10 44 fAr44 l9]) r76) [0, 1] ⟨by decide, rfl⟩ ?_
            refine WJ.sub (m' := (fun (x : (List Int)) => [(5, v10), (9, str r70), (10, .int .i64 size73), (11, v78)]) r76) ⟨rfl, rfl, rfl, rfl, trivial⟩ ?_
            refine WJ.loop (X := (List Int)) (fun N (x : (List Int)) => i_FewestLetters_l4 kj74 l9 r70 N x = some r) (fun (x : (List Int)) => [(5, v10), (9, str r70), (10, .int .i64 size73), (11, v78)]) (fun (x : (List Int)) => [row v78 3 fI64 x, row v10 44 fAr44 l9]) ?_ N r76 hm
            · rintro N l79 hI
              have hm := hI; clear hI
              cases N with
              | zero => cases hm
              | succ N =>
              unfold i_FewestLetters_l4 at hm
              refine WJ.block ?_
              refine WJ.seq ?_
              refine WJ.quiet ?_
              refine QJ.step (YldS.yld (y_assign rfl)) rfl ?_
              refine QJ.done ?_
              refine PJ.next ?_
              obtain ⟨kj81, hk82, hm⟩ := withK_open hm
              refine WJ.join (X := Bool) (fun (x : Bool) => kj81 x = some r) (fun (x : Bool) => [(5, v10), (9, str r70), (10, .int .i64 size73), (11, v78), (12, .bool x)]) (fun (x : Bool) => [row v78 3 fI64 l79, row v10 44 fAr44 l9]) ?_ ?_
              · clear hk82
                refine WJ.seq ?_
                refine WJ.quiet ?_
                refine QJ.step (YldS.yld (y_move rfl)) rfl ?_
                refine QJ.step (YldS.yld (y_lenRow (k := 1) rfl Try.runUnderlying45 rfl)) rfl ?_
                refine QJ.step (YldS.yld (y_move rfl)) rfl ?_
                refine QJ.done ?_
                refine PJ.next ?_
                refine WJ.block ?_
                refine WJ.sel (L' := (fun (x : Bool × Int) => [row v78 3 fI64 l79, row v10 44 fAr44 l9]) (true, 0)) [0, 1] ⟨by decide, rfl⟩ ?_
                refine WJ.sub (m' := (fun (x : Bool × Int) => [(5, v10), (9, str r70), (10, .int .i64 size73), (11, v78), (12, .bool x.1), (70, .int .i64 (List.length l9 : Int)), (71, .int .i64 x.2)]) (true, 0)) ⟨rfl, rfl, rfl, rfl, rfl, rfl, rfl, trivial⟩ ?_
                refine WJ.loop (X := Bool × Int) (fun N (x : Bool × Int) => i_FewestLetters_l5 kj81 l9 r70 l79 N x.1 x.2 = some r) (fun (x : Bool × Int) => [(5, v10), (9, str r70), (10, .int .i64 size73), (11, v78), (12, .bool x.1), (70, .int .i64 (List.length l9 : Int)), (71, .int .i64 x.2)]) (fun (x : Bool × Int) => [row v78 3 fI64 l79, row v10 44 fAr44 l9]) ?_ N (true, 0) hm
                · rintro N ⟨all83, x84⟩ hI
                  have hm := hI; clear hI
                  cases N with
                  | zero => cases hm
                  | succ N =>
                  unfold i_FewestLetters_l5 at hm
                  refine WJ.seq ?_
                  refine WJ.quiet ?_
                  refine QJ.step (YldS.yld (y_bin rfl rfl rfl)) rfl ?_
                  refine QJ.done ?_
                  refine PJ.next ?_
                  refine WJ.seq ?_
                  refine WJ.cond (t := decide (x84 < (List.length l9 : Int))) rfl (fun hb85 => ?_) (fun hb85 => ?_)
                  · replace hm := ifT hm hb85
                    refine WJ.skip ?_
                    refine PJ.next ?_
                    obtain ⟨kj87, hk88, hm⟩ := withK_open hm
                    refine WJ.join (X := Bool) (fun (x : Bool) => kj87 x = some r) (fun (x : Bool) => [(5, v10), (9, str r70), (10, .int .i64 size73), (11, v78), (12, .bool x), (70, .int .i64 (List.length l9 : Int)), (71, .int .i64 x84)]) (fun (x : Bool) => [row v78 3 fI64 l79, row v10 44 fAr44 l9]) ?_ ?_
                    · clear hk88
                      refine WJ.block ?_
                      refine WJ.seq ?_
                      refine WJ.quiet ?_
                      refine QJ.step (YldS.yld (y_move rfl)) rfl ?_
                      refine QJ.step (YldS.yld (y_assign rfl)) rfl ?_
                      refine QJ.done ?_
                      refine PJ.next ?_
                      refine WJ.seq ?_
                      refine WJ.quiet ?_
                      refine QJ.step (YldS.yld (y_assign rfl)) rfl ?_
                      refine QJ.done ?_
                      refine PJ.next ?_
                      obtain ⟨kj90, hk91, hm⟩ := withK_open hm
                      refine WJ.join (X := Bool) (fun (x : Bool) => kj90 x = some r) (fun (x : Bool) => [(5, v10), (9, str r70), (10, .int .i64 size73), (11, v78), (12, .bool all83), (14, .bool x), (70, .int .i64 (List.length l9 : Int)), (71, .int .i64 x84)]) (fun (x : Bool) => [row v78 3 fI64 l79, row v10 44 fAr44 l9]) ?_ ?_
                      · clear hk91
                        refine WJ.seq ?_
                        refine WJ.quiet ?_
                        refine QJ.step (YldS.yld (y_move rfl)) rfl ?_
                        refine QJ.step (YldS.yld (y_lenRow (k := 0) rfl Try.runUnderlying49 rfl)) rfl ?_
                        refine QJ.step (YldS.yld (y_move rfl)) rfl ?_
                        refine QJ.done ?_
                        refine PJ.next ?_
                        refine WJ.block ?_
                        refine WJ.sel (L' := (fun (x : Bool × Int) => [row v78 3 fI64 l79, row v10 44 fAr44 l9]) (false, 0)) [0, 1] ⟨by decide, rfl⟩ ?_
                        refine WJ.sub (m' := (fun (x : Bool × Int) => [(5, v10), (9, str r70), (10, .int .i64 size73), (11, v78), (12, .bool all83), (13, .int .i64 x84), (14, .bool x.1), (70, .int .i64 (List.length l9 : Int)), (71, .int .i64 x84), (74, v78), (75, .int .i64 (List.length l79 : Int)), (76, .int .i64 x.2)]) (false, 0)) ⟨rfl, rfl, rfl, rfl, rfl, rfl, rfl, rfl, rfl, rfl, rfl, rfl, trivial⟩ ?_
                        refine WJ.loop (X := Bool × Int) (fun N (x : Bool × Int) => i_FewestLetters_l6 kj90 l9 r70 l79 x84 N x.1 x.2 = some r) (fun (x : Bool × Int) => [(5, v10), (9, str r70), (10, .int .i64 size73), (11, v78), (12, .bool all83), (13, .int .i64 x84), (14, .bool x.1), (70, .int .i64 (List.length l9 : Int)), (71, .int .i64 x84), (74, v78), (75, .int .i64 (List.length l79 : Int)), (76, .int .i64 x.2)]) (fun (x : Bool × Int) => [row v78 3 fI64 l79, row v10 44 fAr44 l9]) ?_ N (false, 0) hm
                        · rintro N ⟨told92, x93⟩ hI
                          have hm := hI; clear hI
                          cases N with
                          | zero => cases hm
                          | succ N =>
                          unfold i_FewestLetters_l6 at hm
                          refine WJ.seq ?_
                          refine WJ.quiet ?_
                          refine QJ.step (YldS.yld (y_bin rfl rfl rfl)) rfl ?_
                          refine QJ.done ?_
                          refine PJ.next ?_
                          refine WJ.seq ?_
                          refine WJ.cond (t := decide (x93 < (List.length l79 : Int))) rfl (fun hb94 => ?_) (fun hb94 => ?_)
                          · replace hm := ifT hm hb94
                            refine WJ.skip ?_
                            refine PJ.next ?_
                            refine WJ.seq ?_
                            refine WJ.block ?_
                            refine WJ.seq ?_
                            refine WJ.quiet ?_
                            obtain ⟨e95, h96, hm⟩ := bindS hm
                            refine QJ.step (YldS.yld (y_ixRow (k := 0) (R := fI64) rfl Try.runUnderlying49 Try.sizeOf3 rfl rfl h96)) rfl ?_
                            refine QJ.step (YldS.yld (y_loadR (k := 0) (i := (Int.toNat x93)) (off := 0) (u := .int .i64 e95) rfl Try.isAgg3 rfl (idx_get h96) rfl)) rfl ?_
                            refine QJ.step (YldS.yld (y_assign rfl)) rfl ?_
                            refine QJ.done ?_
                            refine PJ.next ?_
                            refine WJ.quiet_draw follows (by kernel_rfl) ?_
                            refine QJ.step (YldS.yld (y_move rfl)) rfl ?_
                            refine QJ.step (YldS.yld (y_move rfl)) rfl ?_
                            obtain ⟨t97, h98, hm⟩ := bindS hm
                            refine QJ.cut 9 [(5, v10), (9, str r70), (10, .int .i64 size73), (11, v78), (12, .bool all83), (13, .int .i64 x84), (70, .int .i64 (List.length l9 : Int)), (71, .int .i64 x84), (74, v78), (75, .int .i64 (List.length l79 : Int)), (76, .int .i64 x93), (90, .bool t97)] ?_ ?_
                            · rcases Bool.eq_false_or_eq_true told92 with hb99 | hb99
                              · obtain rfl := orT h98 hb99
                                refine QJ.off rfl rfl (cB hb99) rfl rfl ?_
                                refine QJ.off rfl rfl (cB hb99) rfl rfl ?_
                                refine QJ.off rfl rfl (cB hb99) rfl rfl ?_
                                refine QJ.off rfl rfl (cB hb99) rfl rfl ?_
                                refine QJ.off rfl rfl (cB hb99) rfl rfl ?_
                                refine QJ.off rfl rfl (cB hb99) rfl rfl ?_
                                refine QJ.off rfl rfl (cB hb99) rfl rfl ?_
                                refine QJ.off rfl rfl (cB hb99) rfl rfl ?_
                                refine QJ.step (YldS.yld (y_pick_t (cB hb99) rfl)) rfl ?_
                                exact QJ.cut_end ⟨rfl, rfl, rfl, rfl, rfl, rfl, rfl, rfl, rfl, rfl, rfl, rfl, trivial⟩
                              · replace h98 := orF h98 hb99
                                refine QJ.on rfl rfl (cB hb99) (YldS.yld (y_move rfl)) rfl ?_
                                refine QJ.on rfl rfl (cB hb99) (YldS.yld (y_move rfl)) rfl ?_
                                refine QJ.on rfl rfl (cB hb99) (YldS.yld (y_move rfl)) rfl ?_
                                refine QJ.on rfl rfl (cB hb99) (YldS.yld (y_move rfl)) rfl ?_
                                obtain ⟨c100, h101, h98⟩ := bindS h98
                                refine QJ.on rfl rfl (cB hb99) (YldS.yld (y_idxStr Try.runUnderlying9 rfl rfl h101)) rfl ?_
                                obtain ⟨e102, h103, h98⟩ := bindS h98
                                refine QJ.on rfl rfl (cB hb99) (YldS.yld (y_ixRow (k := 1) (R := fAr44) rfl Try.runUnderlying45 Try.sizeOf44 rfl rfl h103)) rfl ?_
                                obtain ⟨e104, h105, h98⟩ := bindS h98
                                refine QJ.on rfl rfl (cB hb99) (YldS.yld (y_ixRA (RA := fAr44) (R := fBool) (i := (Int.toNat x84)) Try.runUnderlying44 Try.sizeOf4 rfl rfl h105)) rfl ?_
                                refine QJ.on rfl rfl (cB hb99) (YldS.yld (y_loadR (k := 1) (i := (Int.toNat x84)) (off := Int.toNat (UInt8.toNat c100 : Int) * fBool.size) (u := .bool e104) rfl Try.isAgg4 rfl (idx_get h103) (fArr_get h105 rfl))) rfl ?_
                                refine QJ.step (YldS.yld (y_pick_f (cB hb99) rfl)) rfl ?_
                                obtain rfl := Option.some.inj h98
                                exact QJ.cut_end ⟨rfl, rfl, rfl, rfl, rfl, rfl, rfl, rfl, rfl, rfl, rfl, rfl, trivial⟩
                            refine QJ.step (YldS.yld (y_assign rfl)) rfl ?_
                            refine QJ.done ?_
                            refine PJ.block_normal (PJ.next ?_)
                            refine WJ.quiet ?_
                            refine QJ.step (YldS.yld (y_bin rfl rfl rfl)) rfl ?_
                            refine QJ.step (YldS.yld (y_move rfl)) rfl ?_
                            refine QJ.done ?_
                            exact PJ.round (t97, w64 (x93 + 1)) [0, 1] hm ⟨rfl, rfl, rfl, rfl, rfl, rfl, rfl, rfl, rfl, rfl, rfl, rfl, trivial⟩ ⟨by decide, rfl⟩
                          · replace hm := ifF hm hb94
                            refine WJ.exit ?_
                            refine PJ.then_exit (PJ.then_exit (PJ.block_exit ?_))
                            exact PJ.joined told92 [0, 1] hm ⟨rfl, rfl, rfl, rfl, rfl, rfl, rfl, rfl, trivial⟩ ⟨by decide, rfl⟩
                      · rintro told89 hm
                        subst hk91
                        refine WJ.quiet ?_
                        refine QJ.step (YldS.yld (y_move rfl)) rfl ?_
                        refine QJ.step (YldS.yld (y_move rfl)) rfl ?_
                        obtain ⟨t106, h107, hm⟩ := bindS hm
                        refine QJ.cut 2 [(5, v10), (9, str r70), (10, .int .i64 size73), (11, v78), (70, .int .i64 (List.length l9 : Int)), (71, .int .i64 x84), (95, .bool t106)] ?_ ?_
                        · rcases Bool.eq_false_or_eq_true all83 with hb108 | hb108
                          · replace h107 := andT h107 hb108
                            refine QJ.on rfl rfl (cB hb108) (YldS.yld (y_move rfl)) rfl ?_
                            refine QJ.step (YldS.yld (y_pick_t (cB hb108) rfl)) rfl ?_
                            obtain rfl := Option.some.inj h107
                            exact QJ.cut_end ⟨rfl, rfl, rfl, rfl, rfl, rfl, rfl, trivial⟩
                          · obtain rfl := andF h107 hb108
                            refine QJ.off rfl rfl (cB hb108) rfl rfl ?_
                            refine QJ.step (YldS.yld (y_pick_f (cB hb108) rfl)) rfl ?_
                            exact QJ.cut_end ⟨rfl, rfl, rfl, rfl, rfl, rfl, rfl, trivial⟩
                        refine QJ.step (YldS.yld (y_assign rfl)) rfl ?_
                        refine QJ.done ?_
                        refine PJ.block_normal ?_
                        exact PJ.joined t106 [0, 1] hm ⟨rfl, rfl, rfl, rfl, rfl, rfl, rfl, trivial⟩ ⟨by decide, rfl⟩
                    · rintro all86 hm
                      subst hk88
                      refine WJ.quiet ?_
                      refine QJ.step (YldS.yld (y_bin rfl rfl rfl)) rfl ?_
                      refine QJ.step (YldS.yld (y_move rfl)) rfl ?_
                      refine QJ.done ?_
                      exact PJ.round (all86, w64 (x84 + 1)) [0, 1] hm ⟨rfl, rfl, rfl, rfl, rfl, rfl, rfl, trivial⟩ ⟨by decide, rfl⟩
                  · replace hm := ifF hm hb85
                    refine WJ.exit ?_
                    refine PJ.then_exit (PJ.then_exit (PJ.block_exit ?_))
                    exact PJ.joined all83 [0, 1] hm ⟨rfl, rfl, rfl, rfl, rfl, trivial⟩ ⟨by decide, rfl⟩
              · rintro all80 hm
                subst hk82
                obtain ⟨kj109, hk110, hm⟩ := withK_open hm
                refine WJ.join (X := Unit) (fun (_ : Unit) => kj109  = some r) (fun (_ : Unit) => [(5, v10), (9, str r70), (10, .int .i64 size73), (11, v78)]) (fun (_ : Unit) => [row v78 3 fI64 l79, row v10 44 fAr44 l9]) ?_ ?_
                · clear hk110
                  refine WJ.seq ?_
                  refine WJ.quiet ?_
                  refine QJ.step (YldS.yld (y_move rfl)) rfl ?_
                  refine QJ.done ?_
                  refine PJ.next ?_
                  refine WJ.cond (t := all80) rfl (fun hb111 => ?_) (fun hb111 => ?_)
                  · replace hm := ifT hm hb111
                    refine WJ.seq ?_
                    refine WJ.reg ?_
                    refine SJ.buildSlice (R := fStr) (os := []) [] Try.runUnderlying26 Try.sizeOf9 Try.zeroValue9 rfl rfl rfl rfl rfl rfl fun v112 => ?_
                    refine SJ.q (YldS.yld (y_assign rfl)) rfl ?_
                    refine SJ.nil ?_
                    refine PJ.next ?_
                    obtain ⟨kj115, hk116, hm⟩ := withK_open hm
                    refine WJ.join (X := (List Str) × Value) (fun (x : (List Str) × Value) => kj115 x.1 = some r) (fun (x : (List Str) × Value) => [(17, x.2)]) (fun (x : (List Str) × Value) => [row x.2 9 fStr x.1]) ?_ ?_
                    · clear hk116
                      refine WJ.seq ?_
                      refine WJ.quiet ?_
                      refine QJ.step (YldS.yld (y_move rfl)) rfl ?_
                      refine QJ.step (YldS.yld (y_lenRow (k := 1) rfl Try.runUnderlying49 rfl)) rfl ?_
                      refine QJ.step (YldS.yld (y_move rfl)) rfl ?_
                      refine QJ.done ?_
                      refine PJ.next ?_
                      refine WJ.block ?_
                      refine WJ.sel (L' := (fun (x : (List Str) × Value × Int) => [row x.2.1 9 fStr x.1, row v78 3 fI64 l79]) ([], v112, 0)) [0, 1] ⟨by decide, rfl⟩ ?_
                      refine WJ.sub (m' := (fun (x : (List Str) × Value × Int) => [(9, str r70), (17, x.2.1), (99, v78), (100, .int .i64 (List.length l79 : Int)), (101, .int .i64 x.2.2)]) ([], v112, 0)) ⟨rfl, rfl, rfl, rfl, rfl, trivial⟩ ?_
                      refine WJ.loop (X := (List Str) × Value × Int) (fun N (x : (List Str) × Value × Int) => i_FewestLetters_l7 kj115 r70 l79 N x.1 x.2.2 = some r) (fun (x : (List Str) × Value × Int) => [(9, str r70), (17, x.2.1), (99, v78), (100, .int .i64 (List.length l79 : Int)), (101, .int .i64 x.2.2)]) (fun (x : (List Str) × Value × Int) => [row x.2.1 9 fStr x.1, row v78 3 fI64 l79]) ?_ N ([], v112, 0) hm
                      · rintro N ⟨l117, v118, x119⟩ hI
                        have hm := hI; clear hI
                        cases N with
                        | zero => cases hm
                        | succ N =>
                        unfold i_FewestLetters_l7 at hm
                        refine WJ.seq ?_
                        refine WJ.quiet ?_
                        refine QJ.step (YldS.yld (y_bin rfl rfl rfl)) rfl ?_
                        refine QJ.done ?_
                        refine PJ.next ?_
                        refine WJ.seq ?_
                        refine WJ.cond (t := decide (x119 < (List.length l79 : Int))) rfl (fun hb120 => ?_) (fun hb120 => ?_)
                        · replace hm := ifT hm hb120
                          refine WJ.skip ?_
                          refine PJ.next ?_
                          refine WJ.seq ?_
                          refine WJ.block ?_
                          refine WJ.seq ?_
                          refine WJ.quiet ?_
                          obtain ⟨e121, h122, hm⟩ := bindS hm
                          refine QJ.step (YldS.yld (y_ixRow (k := 1) (R := fI64) rfl Try.runUnderlying49 Try.sizeOf3 rfl rfl h122)) rfl ?_
                          refine QJ.step (YldS.yld (y_loadR (k := 1) (i := (Int.toNat x119)) (off := 0) (u := .int .i64 e121) rfl Try.isAgg3 rfl (idx_get h122) rfl)) rfl ?_
                          refine QJ.step (YldS.yld (y_assign rfl)) rfl ?_
                          refine QJ.done ?_
                          refine PJ.next ?_
                          refine WJ.reg ?_
                          refine SJ.q (YldS.yld (y_move rfl)) rfl ?_
                          refine SJ.q (YldS.yld (y_move rfl)) rfl ?_
                          refine SJ.q (YldS.yld (y_move rfl)) rfl ?_
                          refine SJ.q (YldS.yld (y_move rfl)) rfl ?_
                          refine SJ.q (YldS.yld (y_bin rfl rfl rfl)) rfl ?_
                          obtain ⟨s123, h124, hm⟩ := bindS hm
                          refine SJ.q (YldS.yld (y_subStr (i := some e121) (j := some (w64 (e121 + 1))) h124 Try.runUnderlying9 rfl ⟨_, rfl⟩ ⟨_, rfl⟩)) rfl ?_
                          refine SJ.buildSlice (R := fStr) (os := [.tmp 110]) [s123] Try.runUnderlying26 Try.sizeOf9 Try.zeroValue9 rfl rfl rfl rfl rfl rfl fun v125 => ?_
                          obtain ⟨l126, h127, hm⟩ := bindS hm
                          refine SJ.append (k := 1) (R := fStr) h127 rfl Try.underlying26 el9 rfl rfl rfl (fun w hw => (hw.row_rd (k := 0) rfl)) rfl fun v128 => ?_
                          refine SJ.q (YldS.yld (y_assign rfl)) rfl ?_
                          refine SJ.nil ?_
                          refine PJ.block_normal (PJ.next ?_)
                          refine WJ.quiet ?_
                          refine QJ.step (YldS.yld (y_bin rfl rfl rfl)) rfl ?_
                          refine QJ.step (YldS.yld (y_move rfl)) rfl ?_
                          refine QJ.done ?_
                          exact PJ.round (l126, v128, w64 (x119 + 1)) [1, 2] hm ⟨rfl, rfl, rfl, rfl, rfl, trivial⟩ ⟨by decide, rfl⟩
                        · replace hm := ifF hm hb120
                          refine WJ.exit ?_
                          refine PJ.then_exit (PJ.then_exit (PJ.block_exit ?_))
                          exact PJ.joined (l117, v118) [0] hm ⟨rfl, trivial⟩ ⟨by decide, rfl⟩
                    · rintro ⟨l113, v114⟩ hm
                      subst hk116
                      refine WJ.seq ?_
                      refine WJ.quiet ?_
                      refine QJ.step (YldS.yld (y_move rfl)) rfl ?_
                      refine QJ.step (YldS.yld (y_assign rfl)) rfl ?_
                      refine QJ.step (YldS.yld (y_assign rfl)) rfl ?_
                      refine QJ.done ?_
                      refine PJ.next ?_
                      refine WJ.ret ?_
                      refine PJ.then_ret (PJ.block_ret (PJ.then_ret (PJ.block_ret (PJ.block_ret (PJ.then_ret (PJ.then_ret (PJ.block_ret ?_)))))))
                      obtain rfl := Option.some.inj hm
                      refine PJ.sel (L' := [row v114 9 fStr l113]) [0] ⟨by decide, rfl⟩ ?_
                      exact PJ.retn (vs := [v114, .int .i64 0]) Try.results6 ⟨rfl, rfl, trivial⟩ ⟨_, rfl, rfl⟩
                  · replace hm := ifF hm hb111
                    refine WJ.skip ?_
                    exact PJ.joined () [0, 1] hm ⟨rfl, rfl, rfl, rfl, trivial⟩ ⟨by decide, rfl⟩
                · rintro _ hm
                  subst hk110
                  refine WJ.seq ?_
                  refine WJ.reg ?_
                  refine SJ.q (YldS.yld (y_move rfl)) rfl ?_
                  refine SJ.q (YldS.yld (y_move rfl)) rfl ?_
                  refine SJ.q (YldS.yld (y_lenStr Try.runUnderlying9 rfl)) rfl ?_
                  obtain ⟨r129, h130, hm⟩ := bindS hm
                  refine SJ.call1 (k := 0) rfl Try.call17 rfl (fun w S hw hA hO => ok_i_nextChoice h130 w S  hA) rfl ?_
                  rintro _ _ ⟨rfl, rfl⟩
                  refine SJ.q (YldS.yld (y_not rfl)) rfl ?_
                  refine SJ.nil ?_
                  refine PJ.next ?_
                  refine WJ.cond (t := !r129.1) rfl (fun hb131 => ?_) (fun hb131 => ?_)
                  · replace hm := ifT hm hb131
                    refine WJ.exit ?_
                    refine PJ.block_exit_ne rfl (PJ.then_exit (PJ.block_exit (PJ.block_normal ?_)))
                    exact PJ.joined () [1] hm ⟨rfl, rfl, rfl, trivial⟩ ⟨by decide, rfl⟩
                  · replace hm := ifF hm hb131
                    refine WJ.skip ?_
                    refine PJ.block_normal ?_
                    exact PJ.round r129.2 [0, 1] hm ⟨rfl, rfl, rfl, rfl, trivial⟩ ⟨by decide, rfl⟩
          · rintro _ hm
            subst hk75
            refine WJ.quiet ?_
            refine QJ.step (YldS.yld (y_move rfl)) rfl ?_
            refine QJ.step (YldS.yld (y_bin rfl rfl rfl)) rfl ?_
            refine QJ.step (YldS.yld (y_assign rfl)) rfl ?_
            refine QJ.done ?_
            exact PJ.round (w64 (size73 + 1)) [0] hm ⟨rfl, rfl, rfl, trivial⟩ ⟨by decide, rfl⟩

set_option maxRecDepth 100000 in
set_option maxHeartbeats 1000000 in
theorem ok_i_RareFaults_c1 {i1 : Int} {k2 : Int} {x3 : List TypeFault} {r : Bool} (hm : i_RareFaults_c1 i1 k2 x3 = some r) (w : World) (ad4 : Addr) (v6 : Value) (ha5 : At w (cx w).Fz ad4 [v6]) (hr7 : RdS w (cx w).Fz v6 fTypeFault.rp x3) :
    Calls Try.prog 19 #[.int .i64 i1, .int .i64 k2, .pointer (some ad4)] w (Ret (cx w) (.bool r)) := by
  unfold i_RareFaults_c1 at hm
  refine Calls.enter [.int .i64 i1, .int .i64 k2, .pointer (some ad4)] Try.func19 rfl Try.ntmps19 rfl ?_
  refine WJ.seq ?_
  refine WJ.quiet ?_
  refine QJ.step (YldS.yld (y_assign rfl)) rfl ?_
  refine QJ.done ?_
  refine PJ.next ?_
  refine WJ.seq ?_
  refine WJ.seq ?_
  refine WJ.quiet_draw follows (by kernel_rfl) ?_
  refine QJ.step (YldS.yld (y_load1 (v := v6) Try.isAgg29 ha5 St.frozenC rfl)) rfl ?_
  refine QJ.step (YldS.yld (y_move rfl)) rfl ?_
  obtain ⟨e8, h9, hm⟩ := bindS hm
  obtain ⟨ad10, _, rfl, ha11, hy12⟩ := hr7.elem h9
  refine QJ.step (YldS.yld (hy12 Try.runUnderlying29 Try.sizeOf39 rfl rfl)) rfl ?_
  refine QJ.step (YldS.yld (y_fld (ad := ad10) fld39_0 rfl)) rfl ?_
  refine QJ.step (YldS.yld (y_load1 (v := str e8.letter) Try.isAgg9 (ha11.sub 0 1) St.frozenC rfl)) rfl ?_
  refine QJ.step (YldS.yld (y_load1 (v := v6) Try.isAgg29 ha5 St.frozenC rfl)) rfl ?_
  refine QJ.step (YldS.yld (y_move rfl)) rfl ?_
  obtain ⟨e13, h14, hm⟩ := bindS hm
  obtain ⟨ad15, _, rfl, ha16, hy17⟩ := hr7.elem h14
  refine QJ.step (YldS.yld (hy17 Try.runUnderlying29 Try.sizeOf39 rfl rfl)) rfl ?_
  refine QJ.step (YldS.yld (y_fld (ad := ad15) fld39_0 rfl)) rfl ?_
  refine QJ.step (YldS.yld (y_load1 (v := str e13.letter) Try.isAgg9 (ha16.sub 0 1) St.frozenC rfl)) rfl ?_
  refine QJ.step (YldS.yld (y_binS rfl rfl rfl)) rfl ?_
  refine QJ.done ?_
  refine PJ.next ?_
  refine WJ.cond (t := (e8.letter != e13.letter)) rfl (fun hb18 => ?_) (fun hb18 => ?_)
  · replace hm := ifT hm hb18
    refine WJ.seq ?_
    refine WJ.quiet_draw follows (by kernel_rfl) ?_
    refine QJ.step (YldS.yld (y_load1 (v := v6) Try.isAgg29 ha5 St.frozenC rfl)) rfl ?_
    refine QJ.step (YldS.yld (y_move rfl)) rfl ?_
    obtain ⟨e19, h20, hm⟩ := bindS hm
    obtain ⟨ad21, _, rfl, ha22, hy23⟩ := hr7.elem h20
    refine QJ.step (YldS.yld (hy23 Try.runUnderlying29 Try.sizeOf39 rfl rfl)) rfl ?_
    refine QJ.step (YldS.yld (y_fld (ad := ad21) fld39_0 rfl)) rfl ?_
    refine QJ.step (YldS.yld (y_load1 (v := str e19.letter) Try.isAgg9 (ha22.sub 0 1) St.frozenC rfl)) rfl ?_
    refine QJ.step (YldS.yld (y_load1 (v := v6) Try.isAgg29 ha5 St.frozenC rfl)) rfl ?_
    refine QJ.step (YldS.yld (y_move rfl)) rfl ?_
    obtain ⟨e24, h25, hm⟩ := bindS hm
    obtain ⟨ad26, _, rfl, ha27, hy28⟩ := hr7.elem h25
    refine QJ.step (YldS.yld (hy28 Try.runUnderlying29 Try.sizeOf39 rfl rfl)) rfl ?_
    refine QJ.step (YldS.yld (y_fld (ad := ad26) fld39_0 rfl)) rfl ?_
    refine QJ.step (YldS.yld (y_load1 (v := str e24.letter) Try.isAgg9 (ha27.sub 0 1) St.frozenC rfl)) rfl ?_
    refine QJ.step (YldS.yld (y_binS rfl rfl rfl)) rfl ?_
    refine QJ.step (YldS.yld (y_assign rfl)) rfl ?_
    refine QJ.done ?_
    refine PJ.next ?_
    refine WJ.ret ?_
    refine PJ.then_ret ?_
    obtain rfl := Option.some.inj hm
    refine PJ.sel (L' := []) [] ⟨List.nodup_nil, rfl⟩ ?_
    exact PJ.retn (vs := [.bool (ltL e19.letter e24.letter)]) Try.results19 ⟨rfl, trivial⟩ ⟨rfl, rfl⟩
  · replace hm := ifF hm hb18
    refine WJ.skip ?_
    refine PJ.next ?_
    refine WJ.seq ?_
    refine WJ.quiet_draw follows (by kernel_rfl) ?_
    refine QJ.step (YldS.yld (y_load1 (v := v6) Try.isAgg29 ha5 St.frozenC rfl)) rfl ?_
    refine QJ.step (YldS.yld (y_move rfl)) rfl ?_
    obtain ⟨e29, h30, hm⟩ := bindS hm
    obtain ⟨ad31, _, rfl, ha32, hy33⟩ := hr7.elem h30
    refine QJ.step (YldS.yld (hy33 Try.runUnderlying29 Try.sizeOf39 rfl rfl)) rfl ?_
    refine QJ.step (YldS.yld (y_fld (ad := ad31) fld39_1 rfl)) rfl ?_
    refine QJ.step (YldS.yld (y_load1 (v := .int .i64 e29.kind) Try.isAgg2 (ha32.sub 1 1) St.frozenC rfl)) rfl ?_
    refine QJ.step (YldS.yld (y_load1 (v := v6) Try.isAgg29 ha5 St.frozenC rfl)) rfl ?_
    refine QJ.step (YldS.yld (y_move rfl)) rfl ?_
    obtain ⟨e34, h35, hm⟩ := bindS hm
    obtain ⟨ad36, _, rfl, ha37, hy38⟩ := hr7.elem h35
    refine QJ.step (YldS.yld (hy38 Try.runUnderlying29 Try.sizeOf39 rfl rfl)) rfl ?_
    refine QJ.step (YldS.yld (y_fld (ad := ad36) fld39_1 rfl)) rfl ?_
    refine QJ.step (YldS.yld (y_load1 (v := .int .i64 e34.kind) Try.isAgg2 (ha37.sub 1 1) St.frozenC rfl)) rfl ?_
    refine QJ.step (YldS.yld (y_bin rfl rfl rfl)) rfl ?_
    refine QJ.step (YldS.yld (y_assign rfl)) rfl ?_
    refine QJ.done ?_
    refine PJ.next ?_
    refine WJ.ret ?_
    obtain rfl := Option.some.inj hm
    refine PJ.sel (L' := []) [] ⟨List.nodup_nil, rfl⟩ ?_
    exact PJ.retn (vs := [.bool (decide (e29.kind < e34.kind))]) Try.results19 ⟨rfl, trivial⟩ ⟨rfl, rfl⟩

set_option maxRecDepth 100000 in
set_option maxHeartbeats 1000000 in
theorem ok_sort_insertionSort_func {N : Nat} {xs1 : List α} {a2 : Int} {b3 : Int} {lt : α → α → Bool} {AA : List α → Asn} {gl gs : Nat} {lb sb : Array Value} {r : (List α)} (hm : sort_insertionSort_func N xs1 a2 b3 lt = some r) (w : World) (S : Nat → Prop) (hS : SrtOk Try.prog AA lt gl gs lb sb) (hA : (AA xs1).holds w S) :
    Calls Try.prog 47 #[.agg #[.func (.func gl) #[] lb, .func (.func gs) #[] sb], .int .i64 a2, .int .i64 b3] w (RetG ⟨w, S⟩ fun u L => (u = tup [] ∧ L = [AA r])) := by
  unfold sort_insertionSort_func at hm
  refine Calls.enter1 hA [.agg #[.func (.func gl) #[] lb, .func (.func gs) #[] sb], .int .i64 a2, .int .i64 b3] Try.func47 rfl Try.ntmps47 rfl ?_
  refine WJ.seq ?_
  refine WJ.reg ?_
  refine SJ.box (cs := [.func (.func gl) #[] lb, .func (.func gs) #[] sb]) rfl rfl rfl fun g4 => ?_
  refine SJ.nil ?_
  refine PJ.next ?_
  refine WJ.seq ?_
  refine WJ.quiet ?_
  refine QJ.step (YldS.yld (y_move rfl)) rfl ?_
  refine QJ.step (YldS.yld (y_bin rfl rfl rfl)) rfl ?_
  refine QJ.step (YldS.yld (y_assign rfl)) rfl ?_
  refine QJ.done ?_
  refine PJ.next ?_
  refine WJ.block ?_
  refine WJ.sel (L' := (fun (x : (List α) × Int) => [box g4 77 [.func (.func gl) #[] lb, .func (.func gs) #[] sb], AA x.1]) (xs1, w64 (a2 + 1))) [0, 1] ⟨by decide, rfl⟩ ?_
  refine WJ.sub (m' := (fun (x : (List α) × Int) => [(1, .int .i64 a2), (2, .int .i64 b3), (3, pt g4 0), (6, .int .i64 x.2)]) (xs1, w64 (a2 + 1))) ⟨rfl, rfl, rfl, rfl, trivial⟩ ?_
  refine WJ.loop (X := (List α) × Int) (fun N (x : (List α) × Int) => sort_insertionSort_func_l1 lt a2 b3 N x.1 x.2 = some r) (fun (x : (List α) × Int) => [(1, .int .i64 a2), (2, .int .i64 b3), (3, pt g4 0), (6, .int .i64 x.2)]) (fun (x : (List α) × Int) => [box g4 77 [.func (.func gl) #[] lb, .func (.func gs) #[] sb], AA x.1]) ?_ N (xs1, w64 (a2 + 1)) hm
  · rintro N ⟨l5, i6⟩ hI
    have hm := hI; clear hI
    cases N with
    | zero => cases hm
    | succ N =>
    unfold sort_insertionSort_func_l1 at hm
    refine WJ.seq ?_
    refine WJ.seq ?_
    refine WJ.quiet ?_
    refine QJ.step (YldS.yld (y_move rfl)) rfl ?_
    refine QJ.step (YldS.yld (y_move rfl)) rfl ?_
    refine QJ.step (YldS.yld (y_bin rfl rfl rfl)) rfl ?_
    refine QJ.done ?_
    refine PJ.next ?_
    refine WJ.cond (t := decide (i6 < b3)) rfl (fun hb7 => ?_) (fun hb7 => ?_)
    · replace hm := ifT hm hb7
      refine WJ.skip ?_
      refine PJ.next ?_
      obtain ⟨kj9, hk10, hm⟩ := withK_open hm
      refine WJ.join (X := (List α)) (fun (x : (List α)) => kj9 x = some r) (fun (x : (List α)) => [(1, .int .i64 a2), (2, .int .i64 b3), (3, pt g4 0), (6, .int .i64 i6)]) (fun (x : (List α)) => [box g4 77 [.func (.func gl) #[] lb, .func (.func gs) #[] sb], AA x]) ?_ ?_
      · clear hk10
        refine WJ.block ?_
        refine WJ.seq ?_
        refine WJ.quiet ?_
        refine QJ.step (YldS.yld (y_move rfl)) rfl ?_
        refine QJ.step (YldS.yld (y_assign rfl)) rfl ?_
        refine QJ.done ?_
        refine PJ.next ?_
        refine WJ.block ?_
        refine WJ.sel (L' := (fun (x : (List α) × Int) => [box g4 77 [.func (.func gl) #[] lb, .func (.func gs) #[] sb], AA x.1]) (l5, i6)) [0, 1] ⟨by decide, rfl⟩ ?_
        refine WJ.sub (m' := (fun (x : (List α) × Int) => [(1, .int .i64 a2), (2, .int .i64 b3), (3, pt g4 0), (6, .int .i64 i6), (7, .int .i64 x.2)]) (l5, i6)) ⟨rfl, rfl, rfl, rfl, rfl, trivial⟩ ?_
        refine WJ.loop (X := (List α) × Int) (fun N (x : (List α) × Int) => sort_insertionSort_func_l2 kj9 lt a2 N x.1 x.2 = some r) (fun (x : (List α) × Int) => [(1, .int .i64 a2), (2, .int .i64 b3), (3, pt g4 0), (6, .int .i64 i6), (7, .int .i64 x.2)]) (fun (x : (List α) × Int) => [box g4 77 [.func (.func gl) #[] lb, .func (.func gs) #[] sb], AA x.1]) ?_ N (l5, i6) hm
        · rintro N ⟨l11, j12⟩ hI
          have hm := hI; clear hI
          cases N with
          | zero => cases hm
          | succ N =>
          unfold sort_insertionSort_func_l2 at hm
          refine WJ.seq ?_
          refine WJ.seq ?_
          refine WJ.quiet ?_
          refine QJ.step (YldS.yld (y_move rfl)) rfl ?_
          refine QJ.step (YldS.yld (y_move rfl)) rfl ?_
          refine QJ.step (YldS.yld (y_bin rfl rfl rfl)) rfl ?_
          refine QJ.step (YldS.yld (y_move rfl)) rfl ?_
          obtain ⟨t13, h14, hm⟩ := bindS hm
          refine QJ.cut 7 [(1, .int .i64 a2), (2, .int .i64 b3), (3, pt g4 0), (6, .int .i64 i6), (7, .int .i64 j12), (26, .bool t13)] ?_ ?_
          · rcases Bool.eq_false_or_eq_true (decide (j12 > a2)) with hb15 | hb15
            · replace h14 := andT h14 hb15
              refine QJ.on rfl rfl (cB hb15) (YldS.yld (y_fldB (o := 0) fld77_0 rfl)) rfl ?_
              refine QJ.on rfl rfl (cB hb15) (YldS.yld (y_loadB (k := 0) (off := 0) (v := .func (.func gl) #[] lb) rfl Try.isAgg54 rfl rfl)) rfl ?_
              refine QJ.on rfl rfl (cB hb15) (YldS.yld (y_move rfl)) rfl ?_
              refine QJ.on rfl rfl (cB hb15) (YldS.yld (y_move rfl)) rfl ?_
              refine QJ.on rfl rfl (cB hb15) (YldS.yld (y_bin rfl rfl rfl)) rfl ?_
              obtain ⟨b17, h16, h14⟩ := bindS h14
              refine QJ.on rfl rfl (cB hb15) (y_callL hS h16 (k := 1) rfl rfl rfl) rfl ?_
              refine QJ.step (YldS.yld (y_pick_t (cB hb15) rfl)) rfl ?_
              obtain rfl := Option.some.inj h14
              exact QJ.cut_end ⟨rfl, rfl, rfl, rfl, rfl, rfl, trivial⟩
            · obtain rfl := andF h14 hb15
              refine QJ.off rfl rfl (cB hb15) rfl rfl ?_
              refine QJ.off rfl rfl (cB hb15) rfl rfl ?_
              refine QJ.off rfl rfl (cB hb15) rfl rfl ?_
              refine QJ.off rfl rfl (cB hb15) rfl rfl ?_
              refine QJ.off rfl rfl (cB hb15) rfl rfl ?_
              refine QJ.off rfl rfl (cB hb15) rfl rfl ?_
              refine QJ.step (YldS.yld (y_pick_f (cB hb15) rfl)) rfl ?_
              exact QJ.cut_end ⟨rfl, rfl, rfl, rfl, rfl, rfl, trivial⟩
          refine QJ.done ?_
          refine PJ.next ?_
          refine WJ.cond (t := t13) rfl (fun hb18 => ?_) (fun hb18 => ?_)
          · replace hm := ifT hm hb18
            refine WJ.skip ?_
            refine PJ.next ?_
            refine WJ.seq ?_
            refine WJ.block ?_
            refine WJ.reg ?_
            refine SJ.q (YldS.yld (y_fldB (o := 0) fld77_1 rfl)) rfl ?_
            refine SJ.q (YldS.yld (y_loadB (k := 0) (off := 1) (v := .func (.func gs) #[] sb) rfl Try.isAgg70 rfl rfl)) rfl ?_
            refine SJ.q (YldS.yld (y_move rfl)) rfl ?_
            refine SJ.q (YldS.yld (y_move rfl)) rfl ?_
            refine SJ.q (YldS.yld (y_bin rfl rfl rfl)) rfl ?_
            obtain ⟨l20, h19, hm⟩ := bindS hm
            refine SJ.swapF hS h19 (k := 1) rfl rfl rfl rfl ?_
            refine SJ.nil ?_
            refine PJ.block_normal (PJ.next ?_)
            refine WJ.quiet ?_
            refine QJ.step (YldS.yld (y_move rfl)) rfl ?_
            refine QJ.step (YldS.yld (y_bin rfl rfl rfl)) rfl ?_
            refine QJ.step (YldS.yld (y_assign rfl)) rfl ?_
            refine QJ.done ?_
            exact PJ.round (l20, w64 (j12 - 1)) [0, 1] hm ⟨rfl, rfl, rfl, rfl, rfl, trivial⟩ ⟨by decide, rfl⟩
          · replace hm := ifF hm hb18
            refine WJ.exit ?_
            refine PJ.then_exit (PJ.then_exit (PJ.block_exit (PJ.block_normal ?_)))
            exact PJ.joined l11 [0, 1] hm ⟨rfl, rfl, rfl, rfl, trivial⟩ ⟨by decide, rfl⟩
      · rintro l8 hm
        subst hk10
        refine WJ.quiet ?_
        refine QJ.step (YldS.yld (y_move rfl)) rfl ?_
        refine QJ.step (YldS.yld (y_bin rfl rfl rfl)) rfl ?_
        refine QJ.step (YldS.yld (y_assign rfl)) rfl ?_
        refine QJ.done ?_
        exact PJ.round (l8, w64 (i6 + 1)) [0, 1] hm ⟨rfl, rfl, rfl, rfl, trivial⟩ ⟨by decide, rfl⟩
    · replace hm := ifF hm hb7
      refine WJ.exit ?_
      refine PJ.then_exit (PJ.then_exit (PJ.block_exit (PJ.fin ?_)))
      obtain rfl := Option.some.inj hm
      refine PJ.sel (L' := [AA l5]) [1] ⟨by decide, rfl⟩ ?_
      exact PJ.retn (vs := []) Try.results47 trivial ⟨rfl, rfl⟩

set_option maxRecDepth 100000 in
set_option maxHeartbeats 1000000 in
theorem ok_sort_siftDown_func {N : Nat} {xs1 : List α} {lo2 : Int} {hi3 : Int} {first4 : Int} {lt : α → α → Bool} {AA : List α → Asn} {gl gs : Nat} {lb sb : Array Value} {r : (List α)} (hm : sort_siftDown_func N xs1 lo2 hi3 first4 lt = some r) (w : World) (S : Nat → Prop) (hS : SrtOk Try.prog AA lt gl gs lb sb) (hA : (AA xs1).holds w S) :
    Calls Try.prog 56 #[.agg #[.func (.func gl) #[] lb, .func (.func gs) #[] sb], .int .i64 lo2, .int .i64 hi3, .int .i64 first4] w (RetG ⟨w, S⟩ fun u L => (u = tup [] ∧ L = [AA r])) := by
  unfold sort_siftDown_func at hm
  refine Calls.enter1 hA [.agg #[.func (.func gl) #[] lb, .func (.func gs) #[] sb], .int .i64 lo2, .int .i64 hi3, .int .i64 first4] Try.func56 rfl Try.ntmps56 rfl ?_
  refine WJ.seq ?_
  refine WJ.reg ?_
  refine SJ.box (cs := [.func (.func gl) #[] lb, .func (.func gs) #[] sb]) rfl rfl rfl fun g5 => ?_
  refine SJ.nil ?_
  refine PJ.next ?_
  refine WJ.seq ?_
  refine WJ.quiet ?_
  refine QJ.step (YldS.yld (y_move rfl)) rfl ?_
  refine QJ.step (YldS.yld (y_assign rfl)) rfl ?_
  refine QJ.done ?_
  refine PJ.next ?_
  refine WJ.block ?_
  refine WJ.sel (L' := (fun (x : (List α) × Int) => [box g5 77 [.func (.func gl) #[] lb, .func (.func gs) #[] sb], AA x.1]) (xs1, lo2)) [0, 1] ⟨by decide, rfl⟩ ?_
  refine WJ.sub (m' := (fun (x : (List α) × Int) => [(2, .int .i64 hi3), (3, .int .i64 first4), (4, pt g5 0), (8, .int .i64 x.2)]) (xs1, lo2)) ⟨rfl, rfl, rfl, rfl, trivial⟩ ?_
  refine WJ.loop (X := (List α) × Int) (fun N (x : (List α) × Int) => sort_siftDown_func_l1 lt hi3 first4 N x.1 x.2 = some r) (fun (x : (List α) × Int) => [(2, .int .i64 hi3), (3, .int .i64 first4), (4, pt g5 0), (8, .int .i64 x.2)]) (fun (x : (List α) × Int) => [box g5 77 [.func (.func gl) #[] lb, .func (.func gs) #[] sb], AA x.1]) ?_ N (xs1, lo2) hm
  · rintro N ⟨l6, root7⟩ hI
    have hm := hI; clear hI
    cases N with
    | zero => cases hm
    | succ N =>
    unfold sort_siftDown_func_l1 at hm
    refine WJ.block ?_
    refine WJ.seq ?_
    refine WJ.quiet ?_
    refine QJ.step (YldS.yld (y_move rfl)) rfl ?_
    refine QJ.step (YldS.yld (y_bin rfl rfl rfl)) rfl ?_
    refine QJ.step (YldS.yld (y_bin rfl rfl rfl)) rfl ?_
    refine QJ.step (YldS.yld (y_assign rfl)) rfl ?_
    refine QJ.done ?_
    refine PJ.next ?_
    refine WJ.seq ?_
    refine WJ.seq ?_
    refine WJ.quiet ?_
    refine QJ.step (YldS.yld (y_move rfl)) rfl ?_
    refine QJ.step (YldS.yld (y_move rfl)) rfl ?_
    refine QJ.step (YldS.yld (y_bin rfl rfl rfl)) rfl ?_
    refine QJ.done ?_
    refine PJ.next ?_
    refine WJ.cond (t := decide ((w64 ((w64 (2 * root7)) + 1)) ≥ hi3)) rfl (fun hb8 => ?_) (fun hb8 => ?_)
    · replace hm := ifT hm hb8
      refine WJ.exit ?_
      refine PJ.then_exit (PJ.block_exit_ne rfl (PJ.then_exit (PJ.block_exit (PJ.fin ?_))))
      obtain rfl := Option.some.inj hm
      refine PJ.sel (L' := [AA l6]) [1] ⟨by decide, rfl⟩ ?_
      exact PJ.retn (vs := []) Try.results56 trivial ⟨rfl, rfl⟩
    · replace hm := ifF hm hb8
      refine WJ.skip ?_
      refine PJ.next ?_
      obtain ⟨kj10, hk11, hm⟩ := withK_open hm
      refine WJ.join (X := Int) (fun (x : Int) => kj10 x = some r) (fun (x : Int) => [(2, .int .i64 hi3), (3, .int .i64 first4), (4, pt g5 0), (8, .int .i64 root7), (9, .int .i64 x)]) (fun (x : Int) => [box g5 77 [.func (.func gl) #[] lb, .func (.func gs) #[] sb], AA l6]) ?_ ?_
      · clear hk11
        refine WJ.seq ?_
        refine WJ.quiet ?_
        refine QJ.step (YldS.yld (y_move rfl)) rfl ?_
        refine QJ.step (YldS.yld (y_bin rfl rfl rfl)) rfl ?_
        refine QJ.step (YldS.yld (y_move rfl)) rfl ?_
        refine QJ.step (YldS.yld (y_bin rfl rfl rfl)) rfl ?_
        refine QJ.step (YldS.yld (y_move rfl)) rfl ?_
        obtain ⟨t12, h13, hm⟩ := bindS hm
        refine QJ.cut 11 [(2, .int .i64 hi3), (3, .int .i64 first4), (4, pt g5 0), (8, .int .i64 root7), (9, .int .i64 (w64 ((w64 (2 * root7)) + 1))), (32, .bool t12)] ?_ ?_
        · rcases Bool.eq_false_or_eq_true (decide ((w64 ((w64 ((w64 (2 * root7)) + 1)) + 1)) < hi3)) with hb14 | hb14
          · replace h13 := andT h13 hb14
            refine QJ.on rfl rfl (cB hb14) (YldS.yld (y_fldB (o := 0) fld77_0 rfl)) rfl ?_
            refine QJ.on rfl rfl (cB hb14) (YldS.yld (y_loadB (k := 0) (off := 0) (v := .func (.func gl) #[] lb) rfl Try.isAgg54 rfl rfl)) rfl ?_
            refine QJ.on rfl rfl (cB hb14) (YldS.yld (y_move rfl)) rfl ?_
            refine QJ.on rfl rfl (cB hb14) (YldS.yld (y_move rfl)) rfl ?_
            refine QJ.on rfl rfl (cB hb14) (YldS.yld (y_bin rfl rfl rfl)) rfl ?_
            refine QJ.on rfl rfl (cB hb14) (YldS.yld (y_move rfl)) rfl ?_
            refine QJ.on rfl rfl (cB hb14) (YldS.yld (y_move rfl)) rfl ?_
            refine QJ.on rfl rfl (cB hb14) (YldS.yld (y_bin rfl rfl rfl)) rfl ?_
            refine QJ.on rfl rfl (cB hb14) (YldS.yld (y_bin rfl rfl rfl)) rfl ?_
            obtain ⟨b16, h15, h13⟩ := bindS h13
            refine QJ.on rfl rfl (cB hb14) (y_callL hS h15 (k := 1) rfl rfl rfl) rfl ?_
            refine QJ.step (YldS.yld (y_pick_t (cB hb14) rfl)) rfl ?_
            obtain rfl := Option.some.inj h13
            exact QJ.cut_end ⟨rfl, rfl, rfl, rfl, rfl, rfl, trivial⟩
          · obtain rfl := andF h13 hb14
            refine QJ.off rfl rfl (cB hb14) rfl rfl ?_
            refine QJ.off rfl rfl (cB hb14) rfl rfl ?_
            refine QJ.off rfl rfl (cB hb14) rfl rfl ?_
            refine QJ.off rfl rfl (cB hb14) rfl rfl ?_
            refine QJ.off rfl rfl (cB hb14) rfl rfl ?_
            refine QJ.off rfl rfl (cB hb14) rfl rfl ?_
            refine QJ.off rfl rfl (cB hb14) rfl rfl ?_
            refine QJ.off rfl rfl (cB hb14) rfl rfl ?_
            refine QJ.off rfl rfl (cB hb14) rfl rfl ?_
            refine QJ.off rfl rfl (cB hb14) rfl rfl ?_
            refine QJ.step (YldS.yld (y_pick_f (cB hb14) rfl)) rfl ?_
            exact QJ.cut_end ⟨rfl, rfl, rfl, rfl, rfl, rfl, trivial⟩
        refine QJ.done ?_
        refine PJ.next ?_
        refine WJ.cond (t := t12) rfl (fun hb17 => ?_) (fun hb17 => ?_)
        · replace hm := ifT hm hb17
          refine WJ.quiet ?_
          refine QJ.step (YldS.yld (y_move rfl)) rfl ?_
          refine QJ.step (YldS.yld (y_bin rfl rfl rfl)) rfl ?_
          refine QJ.step (YldS.yld (y_assign rfl)) rfl ?_
          refine QJ.done ?_
          exact PJ.joined (w64 ((w64 ((w64 (2 * root7)) + 1)) + 1)) [0, 1] hm ⟨rfl, rfl, rfl, rfl, rfl, trivial⟩ ⟨by decide, rfl⟩
        · replace hm := ifF hm hb17
          refine WJ.skip ?_
          exact PJ.joined (w64 ((w64 (2 * root7)) + 1)) [0, 1] hm ⟨rfl, rfl, rfl, rfl, rfl, trivial⟩ ⟨by decide, rfl⟩
      · rintro child9 hm
        subst hk11
        refine WJ.seq ?_
        refine WJ.seq ?_
        refine WJ.quiet ?_
        refine QJ.step (YldS.yld (y_fldB (o := 0) fld77_0 rfl)) rfl ?_
        refine QJ.step (YldS.yld (y_loadB (k := 0) (off := 0) (v := .func (.func gl) #[] lb) rfl Try.isAgg54 rfl rfl)) rfl ?_
        refine QJ.step (YldS.yld (y_move rfl)) rfl ?_
        refine QJ.step (YldS.yld (y_move rfl)) rfl ?_
        refine QJ.step (YldS.yld (y_bin rfl rfl rfl)) rfl ?_
        refine QJ.step (YldS.yld (y_move rfl)) rfl ?_
        refine QJ.step (YldS.yld (y_move rfl)) rfl ?_
        refine QJ.step (YldS.yld (y_bin rfl rfl rfl)) rfl ?_
        obtain ⟨b19, h18, hm⟩ := bindS hm
        refine QJ.step (y_callL hS h18 (k := 1) rfl rfl rfl) rfl ?_
        refine QJ.step (YldS.yld (y_not rfl)) rfl ?_
        refine QJ.done ?_
        refine PJ.next ?_
        refine WJ.cond (t := !b19) rfl (fun hb20 => ?_) (fun hb20 => ?_)
        · replace hm := ifT hm hb20
          refine WJ.ret ?_
          refine PJ.then_ret (PJ.block_ret (PJ.then_ret (PJ.block_ret ?_)))
          obtain rfl := Option.some.inj hm
          refine PJ.sel (L' := [AA l6]) [1] ⟨by decide, rfl⟩ ?_
          exact PJ.retn (vs := []) Try.results56 trivial ⟨rfl, rfl⟩
        · replace hm := ifF hm hb20
          refine WJ.skip ?_
          refine PJ.next ?_
          refine WJ.seq ?_
          refine WJ.reg ?_
          refine SJ.q (YldS.yld (y_fldB (o := 0) fld77_1 rfl)) rfl ?_
          refine SJ.q (YldS.yld (y_loadB (k := 0) (off := 1) (v := .func (.func gs) #[] sb) rfl Try.isAgg70 rfl rfl)) rfl ?_
          refine SJ.q (YldS.yld (y_move rfl)) rfl ?_
          refine SJ.q (YldS.yld (y_move rfl)) rfl ?_
          refine SJ.q (YldS.yld (y_bin rfl rfl rfl)) rfl ?_
          refine SJ.q (YldS.yld (y_move rfl)) rfl ?_
          refine SJ.q (YldS.yld (y_move rfl)) rfl ?_
          refine SJ.q (YldS.yld (y_bin rfl rfl rfl)) rfl ?_
          obtain ⟨l22, h21, hm⟩ := bindS hm
          refine SJ.swapF hS h21 (k := 1) rfl rfl rfl rfl ?_
          refine SJ.nil ?_
          refine PJ.next ?_
          refine WJ.quiet ?_
          refine QJ.step (YldS.yld (y_move rfl)) rfl ?_
          refine QJ.step (YldS.yld (y_assign rfl)) rfl ?_
          refine QJ.done ?_
          refine PJ.block_normal ?_
          exact PJ.round (l22, child9) [0, 1] hm ⟨rfl, rfl, rfl, rfl, trivial⟩ ⟨by decide, rfl⟩

set_option maxRecDepth 100000 in
set_option maxHeartbeats 1000000 in
theorem ok_sort_heapSort_func {N : Nat} {xs1 : List α} {a2 : Int} {b3 : Int} {lt : α → α → Bool} {AA : List α → Asn} {gl gs : Nat} {lb sb : Array Value} {r : (List α)} (hm : sort_heapSort_func N xs1 a2 b3 lt = some r) (w : World) (S : Nat → Prop) (hS : SrtOk Try.prog AA lt gl gs lb sb) (hA : (AA xs1).holds w S) :
    Calls Try.prog 48 #[.agg #[.func (.func gl) #[] lb, .func (.func gs) #[] sb], .int .i64 a2, .int .i64 b3] w (RetG ⟨w, S⟩ fun u L => (u = tup [] ∧ L = [AA r])) := by
  unfold sort_heapSort_func at hm
  refine Calls.enter1 hA [.agg #[.func (.func gl) #[] lb, .func (.func gs) #[] sb], .int .i64 a2, .int .i64 b3] Try.func48 rfl Try.ntmps48 rfl ?_
  refine WJ.seq ?_
  refine WJ.reg ?_
  refine SJ.box (cs := [.func (.func gl) #[] lb, .func (.func gs) #[] sb]) rfl rfl rfl fun g4 => ?_
  refine SJ.nil ?_
  refine PJ.next ?_
  refine WJ.seq ?_
  refine WJ.quiet ?_
  refine QJ.step (YldS.yld (y_move rfl)) rfl ?_
  refine QJ.step (YldS.yld (y_assign rfl)) rfl ?_
  refine QJ.done ?_
  refine PJ.next ?_
  refine WJ.seq ?_
  refine WJ.quiet ?_
  refine QJ.step (YldS.yld (y_assign rfl)) rfl ?_
  refine QJ.done ?_
  refine PJ.next ?_
  refine WJ.seq ?_
  refine WJ.quiet ?_
  refine QJ.step (YldS.yld (y_move rfl)) rfl ?_
  refine QJ.step (YldS.yld (y_move rfl)) rfl ?_
  refine QJ.step (YldS.yld (y_bin rfl rfl rfl)) rfl ?_
  refine QJ.step (YldS.yld (y_assign rfl)) rfl ?_
  refine QJ.done ?_
  refine PJ.next ?_
  obtain ⟨kj6, hk7, hm⟩ := withK_open hm
  refine WJ.join (X := (List α)) (fun (x : (List α)) => kj6 x = some r) (fun (x : (List α)) => [(3, pt g4 0), (6, .int .i64 a2), (7, .int .i64 0), (8, .int .i64 (w64 (b3 - a2)))]) (fun (x : (List α)) => [box g4 77 [.func (.func gl) #[] lb, .func (.func gs) #[] sb], AA x]) ?_ ?_
  · clear hk7
    refine WJ.seq ?_
    refine WJ.quiet ?_
    refine QJ.step (YldS.yld (y_move rfl)) rfl ?_
    refine QJ.step (YldS.yld (y_bin rfl rfl rfl)) rfl ?_
    refine QJ.step (YldS.yld (y_quo rfl rfl (by decide))) rfl ?_
    refine QJ.step (YldS.yld (y_assign rfl)) rfl ?_
    refine QJ.done ?_
    refine PJ.next ?_
    refine WJ.block ?_
    refine WJ.sel (L' := (fun (x : (List α) × Int) => [box g4 77 [.func (.func gl) #[] lb, .func (.func gs) #[] sb], AA x.1]) (xs1, w64 (Int.tdiv (w64 ((w64 (b3 - a2)) - 1)) 2))) [0, 1] ⟨by decide, rfl⟩ ?_
    refine WJ.sub (m' := (fun (x : (List α) × Int) => [(3, pt g4 0), (6, .int .i64 a2), (7, .int .i64 0), (8, .int .i64 (w64 (b3 - a2))), (9, .int .i64 x.2)]) (xs1, w64 (Int.tdiv (w64 ((w64 (b3 - a2)) - 1)) 2))) ⟨rfl, rfl, rfl, rfl, rfl, trivial⟩ ?_
    refine WJ.loop (X := (List α) × Int) (fun N (x : (List α) × Int) => sort_heapSort_func_l1 kj6 lt a2 b3 N x.1 x.2 = some r) (fun (x : (List α) × Int) => [(3, pt g4 0), (6, .int .i64 a2), (7, .int .i64 0), (8, .int .i64 (w64 (b3 - a2))), (9, .int .i64 x.2)]) (fun (x : (List α) × Int) => [box g4 77 [.func (.func gl) #[] lb, .func (.func gs) #[] sb], AA x.1]) ?_ N (xs1, w64 (Int.tdiv (w64 ((w64 (b3 - a2)) - 1)) 2)) hm
    · rintro N ⟨l8, i9⟩ hI
      have hm := hI; clear hI
      cases N with
      | zero => cases hm
      | succ N =>
      unfold sort_heapSort_func_l1 at hm
      refine WJ.seq ?_
      refine WJ.seq ?_
      refine WJ.quiet ?_
      refine QJ.step (YldS.yld (y_move rfl)) rfl ?_
      refine QJ.step (YldS.yld (y_bin rfl rfl rfl)) rfl ?_
      refine QJ.done ?_
      refine PJ.next ?_
      refine WJ.cond (t := decide (i9 ≥ 0)) rfl (fun hb10 => ?_) (fun hb10 => ?_)
      · replace hm := ifT hm hb10
        refine WJ.skip ?_
        refine PJ.next ?_
        refine WJ.seq ?_
        refine WJ.block ?_
        refine WJ.reg ?_
        refine SJ.q (YldS.yld (y_loadBN (k := 0) (off := 0) (us := [.func (.func gl) #[] lb, .func (.func gs) #[] sb]) rfl Try.isAgg77 Try.sizeOf77 rfl rfl)) rfl ?_
        refine SJ.q (YldS.yld (y_move rfl)) rfl ?_
        refine SJ.q (YldS.yld (y_move rfl)) rfl ?_
        refine SJ.q (YldS.yld (y_move rfl)) rfl ?_
        obtain ⟨r11, h12, hm⟩ := bindS hm
        refine SJ.call1 (k := 1) rfl Try.call56 rfl (fun w S hw hA hO => ok_sort_siftDown_func h12 w S hS hA) rfl ?_
        rintro _ _ ⟨rfl, rfl⟩
        refine SJ.nil ?_
        refine PJ.block_normal (PJ.next ?_)
        refine WJ.quiet ?_
        refine QJ.step (YldS.yld (y_move rfl)) rfl ?_
        refine QJ.step (YldS.yld (y_bin rfl rfl rfl)) rfl ?_
        refine QJ.step (YldS.yld (y_assign rfl)) rfl ?_
        refine QJ.done ?_
        exact PJ.round (r11, w64 (i9 - 1)) [1, 0] hm ⟨rfl, rfl, rfl, rfl, rfl, trivial⟩ ⟨by decide, rfl⟩
      · replace hm := ifF hm hb10
        refine WJ.exit ?_
        refine PJ.then_exit (PJ.then_exit (PJ.block_exit ?_))
        exact PJ.joined l8 [0, 1] hm ⟨rfl, rfl, rfl, rfl, trivial⟩ ⟨by decide, rfl⟩
  · rintro l5 hm
    subst hk7
    refine WJ.seq ?_
    refine WJ.quiet ?_
    refine QJ.step (YldS.yld (y_move rfl)) rfl ?_
    refine QJ.step (YldS.yld (y_bin rfl rfl rfl)) rfl ?_
    refine QJ.step (YldS.yld (y_assign rfl)) rfl ?_
    refine QJ.done ?_
    refine PJ.next ?_
    refine WJ.block ?_
    refine WJ.sel (L' := (fun (x : (List α) × Int) => [box g4 77 [.func (.func gl) #[] lb, .func (.func gs) #[] sb], AA x.1]) (l5, w64 ((w64 (b3 - a2)) - 1))) [0, 1] ⟨by decide, rfl⟩ ?_
    refine WJ.sub (m' := (fun (x : (List α) × Int) => [(3, pt g4 0), (6, .int .i64 a2), (7, .int .i64 0), (10, .int .i64 x.2)]) (l5, w64 ((w64 (b3 - a2)) - 1))) ⟨rfl, rfl, rfl, rfl, trivial⟩ ?_
    refine WJ.loop (X := (List α) × Int) (fun N (x : (List α) × Int) => sort_heapSort_func_l2 lt a2 N x.1 x.2 = some r) (fun (x : (List α) × Int) => [(3, pt g4 0), (6, .int .i64 a2), (7, .int .i64 0), (10, .int .i64 x.2)]) (fun (x : (List α) × Int) => [box g4 77 [.func (.func gl) #[] lb, .func (.func gs) #[] sb], AA x.1]) ?_ N (l5, w64 ((w64 (b3 - a2)) - 1)) hm
    · rintro N ⟨l13, i14⟩ hI
      have hm := hI; clear hI
      cases N with
      | zero => cases hm
      | succ N =>
      unfold sort_heapSort_func_l2 at hm
      refine WJ.seq ?_
      refine WJ.seq ?_
      refine WJ.quiet ?_
      refine QJ.step (YldS.yld (y_move rfl)) rfl ?_
      refine QJ.step (YldS.yld (y_bin rfl rfl rfl)) rfl ?_
      refine QJ.done ?_
      refine PJ.next ?_
      refine WJ.cond (t := decide (i14 ≥ 0)) rfl (fun hb15 => ?_) (fun hb15 => ?_)
      · replace hm := ifT hm hb15
        refine WJ.skip ?_
        refine PJ.next ?_
        refine WJ.seq ?_
        refine WJ.block ?_
        refine WJ.seq ?_
        refine WJ.reg ?_
        refine SJ.q (YldS.yld (y_fldB (o := 0) fld77_1 rfl)) rfl ?_
        refine SJ.q (YldS.yld (y_loadB (k := 0) (off := 1) (v := .func (.func gs) #[] sb) rfl Try.isAgg70 rfl rfl)) rfl ?_
        refine SJ.q (YldS.yld (y_move rfl)) rfl ?_
        refine SJ.q (YldS.yld (y_move rfl)) rfl ?_
        refine SJ.q (YldS.yld (y_move rfl)) rfl ?_
        refine SJ.q (YldS.yld (y_bin rfl rfl rfl)) rfl ?_
        obtain ⟨l17, h16, hm⟩ := bindS hm
        refine SJ.swapF hS h16 (k := 1) rfl rfl rfl rfl ?_
        refine SJ.nil ?_
        refine PJ.next ?_
        refine WJ.reg ?_
        refine SJ.q (YldS.yld (y_loadBN (k := 0) (off := 0) (us := [.func (.func gl) #[] lb, .func (.func gs) #[] sb]) rfl Try.isAgg77 Try.sizeOf77 rfl rfl)) rfl ?_
        refine SJ.q (YldS.yld (y_move rfl)) rfl ?_
        refine SJ.q (YldS.yld (y_move rfl)) rfl ?_
        refine SJ.q (YldS.yld (y_move rfl)) rfl ?_
        obtain ⟨r18, h19, hm⟩ := bindS hm
        refine SJ.call1 (k := 1) rfl Try.call56 rfl (fun w S hw hA hO => ok_sort_siftDown_func h19 w S hS hA) rfl ?_
        rintro _ _ ⟨rfl, rfl⟩
        refine SJ.nil ?_
        refine PJ.block_normal (PJ.next ?_)
        refine WJ.quiet ?_
        refine QJ.step (YldS.yld (y_move rfl)) rfl ?_
        refine QJ.step (YldS.yld (y_bin rfl rfl rfl)) rfl ?_
        refine QJ.step (YldS.yld (y_assign rfl)) rfl ?_
        refine QJ.done ?_
        exact PJ.round (r18, w64 (i14 - 1)) [1, 0] hm ⟨rfl, rfl, rfl, rfl, trivial⟩ ⟨by decide, rfl⟩
      · replace hm := ifF hm hb15
        refine WJ.exit ?_
        refine PJ.then_exit (PJ.then_exit (PJ.block_exit (PJ.fin ?_)))
        obtain rfl := Option.some.inj hm
        refine PJ.sel (L' := [AA l13]) [1] ⟨by decide, rfl⟩ ?_
        exact PJ.retn (vs := []) Try.results48 trivial ⟨rfl, rfl⟩

set_option maxRecDepth 100000 in
set_option maxHeartbeats 1000000 in
theorem ok_bits_Len64 {x1 : Int} {r : Int} (hm : bits_Len64 x1 = some r) (w : World)  :
    Calls Try.prog 46 #[.int .u64 x1] w (Ret (cx w) (.int .i64 r)) := by
  unfold bits_Len64 at hm
  refine Calls.enter [.int .u64 x1] Try.func46 rfl Try.ntmps46 rfl ?_
  refine WJ.seq ?_
  refine WJ.quiet ?_
  refine QJ.step (YldS.yld (y_assign rfl)) rfl ?_
  refine QJ.done ?_
  refine PJ.next ?_
  obtain ⟨kj4, hk5, hm⟩ := withK_open hm
  refine WJ.join (X := Int × Int) (fun (x : Int × Int) => kj4 x.1 x.2 = some r) (fun (x : Int × Int) => [(0, .int .u64 x.1), (2, .int .i64 x.2)]) (fun (x : Int × Int) => []) ?_ ?_
  · clear hk5
    refine WJ.seq ?_
    refine WJ.quiet ?_
    refine QJ.step (YldS.yld (y_move rfl)) rfl ?_
    refine QJ.step (YldS.yld (y_bin rfl rfl rfl)) rfl ?_
    refine QJ.done ?_
    refine PJ.next ?_
    refine WJ.cond (t := decide (x1 ≥ 4294967296)) rfl (fun hb6 => ?_) (fun hb6 => ?_)
    · replace hm := ifT hm hb6
      refine WJ.seq ?_
      refine WJ.quiet ?_
      refine QJ.step (YldS.yld (y_move rfl)) rfl ?_
      refine QJ.step (YldS.yld (y_shru rfl rfl rfl)) rfl ?_
      refine QJ.step (YldS.yld (y_assign rfl)) rfl ?_
      refine QJ.done ?_
      refine PJ.next ?_
      refine WJ.quiet ?_
      refine QJ.step (YldS.yld (y_assign rfl)) rfl ?_
      refine QJ.done ?_
      exact PJ.joined (ushr x1 32, 32) [] hm ⟨rfl, rfl, trivial⟩ ⟨List.nodup_nil, rfl⟩
    · replace hm := ifF hm hb6
      refine WJ.skip ?_
      exact PJ.joined (x1, 0) [] hm ⟨rfl, rfl, trivial⟩ ⟨List.nodup_nil, rfl⟩
  · rintro ⟨x2, n3⟩ hm
    subst hk5
    obtain ⟨kj9, hk10, hm⟩ := withK_open hm
    refine WJ.join (X := Int × Int) (fun (x : Int × Int) => kj9 x.1 x.2 = some r) (fun (x : Int × Int) => [(0, .int .u64 x.1), (2, .int .i64 x.2)]) (fun (x : Int × Int) => []) ?_ ?_
    · clear hk10
      refine WJ.seq ?_
      refine WJ.quiet ?_
      refine QJ.step (YldS.yld (y_move rfl)) rfl ?_
      refine QJ.step (YldS.yld (y_bin rfl rfl rfl)) rfl ?_
      refine QJ.done ?_
      refine PJ.next ?_
      refine WJ.cond (t := decide (x2 ≥ 65536)) rfl (fun hb11 => ?_) (fun hb11 => ?_)
      · replace hm := ifT hm hb11
        refine WJ.seq ?_
        refine WJ.quiet ?_
        refine QJ.step (YldS.yld (y_move rfl)) rfl ?_
        refine QJ.step (YldS.yld (y_shru rfl rfl rfl)) rfl ?_
        refine QJ.step (YldS.yld (y_assign rfl)) rfl ?_
        refine QJ.done ?_
        refine PJ.next ?_
        refine WJ.quiet ?_
        refine QJ.step (YldS.yld (y_move rfl)) rfl ?_
        refine QJ.step (YldS.yld (y_bin rfl rfl rfl)) rfl ?_
        refine QJ.step (YldS.yld (y_assign rfl)) rfl ?_
        refine QJ.done ?_
        exact PJ.joined (ushr x2 16, w64 (n3 + 16)) [] hm ⟨rfl, rfl, trivial⟩ ⟨List.nodup_nil, rfl⟩
      · replace hm := ifF hm hb11
        refine WJ.skip ?_
        exact PJ.joined (x2, n3) [] hm ⟨rfl, rfl, trivial⟩ ⟨List.nodup_nil, rfl⟩
    · rintro ⟨x7, n8⟩ hm
      subst hk10
      obtain ⟨kj14, hk15, hm⟩ := withK_open hm
      refine WJ.join (X := Int × Int) (fun (x : Int × Int) => kj14 x.1 x.2 = some r) (fun (x : Int × Int) => [(0, .int .u64 x.1), (2, .int .i64 x.2)]) (fun (x : Int × Int) => []) ?_ ?_
      · clear hk15
        refine WJ.seq ?_
        refine WJ.quiet ?_
        refine QJ.step (YldS.yld (y_move rfl)) rfl ?_
        refine QJ.step (YldS.yld (y_bin rfl rfl rfl)) rfl ?_
        refine QJ.done ?_
        refine PJ.next ?_
        refine WJ.cond (t := decide (x7 ≥ 256)) rfl (fun hb16 => ?_) (fun hb16 => ?_)
        · replace hm := ifT hm hb16
          refine WJ.seq ?_
          refine WJ.quiet ?_
          refine QJ.step (YldS.yld (y_move rfl)) rfl ?_
          refine QJ.step (YldS.yld (y_shru rfl rfl rfl)) rfl ?_
          refine QJ.step (YldS.yld (y_assign rfl)) rfl ?_
          refine QJ.done ?_
          refine PJ.next ?_
          refine WJ.quiet ?_
          refine QJ.step (YldS.yld (y_move rfl)) rfl ?_
          refine QJ.step (YldS.yld (y_bin rfl rfl rfl)) rfl ?_
          refine QJ.step (YldS.yld (y_assign rfl)) rfl ?_
          refine QJ.done ?_
          exact PJ.joined (ushr x7 8, w64 (n8 + 8)) [] hm ⟨rfl, rfl, trivial⟩ ⟨List.nodup_nil, rfl⟩
        · replace hm := ifF hm hb16
          refine WJ.skip ?_
          exact PJ.joined (x7, n8) [] hm ⟨rfl, rfl, trivial⟩ ⟨List.nodup_nil, rfl⟩
      · rintro ⟨x12, n13⟩ hm
        subst hk15
        refine WJ.seq ?_
        refine WJ.quiet ?_
        refine QJ.step (YldS.yld (y_move rfl)) rfl ?_
        refine QJ.step (YldS.yld (y_move rfl)) rfl ?_
        refine QJ.step (YldS.yld (y_convTo8 Try.runUnderlying61 Try.runUnderlying5 rfl)) rfl ?_
        obtain ⟨c17, h18, hm⟩ := bindS hm
        refine QJ.step (YldS.yld (y_idxStr Try.runUnderlying9 rfl rfl h18)) rfl ?_
        refine QJ.step (YldS.yld (y_conv8 Try.runUnderlying5 Try.runUnderlying3 rfl)) rfl ?_
        refine QJ.step (YldS.yld (y_bin rfl rfl rfl)) rfl ?_
        refine QJ.step (YldS.yld (y_assign rfl)) rfl ?_
        refine QJ.done ?_
        refine PJ.next ?_
        refine WJ.ret ?_
        obtain rfl := Option.some.inj hm
        refine PJ.sel (L' := []) [] ⟨List.nodup_nil, rfl⟩ ?_
        exact PJ.retn (vs := [.int .i64 (w64 (n13 + (UInt8.toNat c17 : Int)))]) Try.results46 ⟨rfl, trivial⟩ ⟨rfl, rfl⟩

set_option maxRecDepth 100000 in
set_option maxHeartbeats 1000000 in
theorem ok_bits_Len {x1 : Int} {r : Int} (hm : bits_Len x1 = some r) (w : World)  :
    Calls Try.prog 29 #[.int .u64 x1] w (Ret (cx w) (.int .i64 r)) := by
  unfold bits_Len at hm
  refine Calls.enter [.int .u64 x1] Try.func29 rfl Try.ntmps29 rfl ?_
  refine WJ.seq ?_
  refine WJ.quiet ?_
  refine QJ.step (YldS.yld (y_assign rfl)) rfl ?_
  refine QJ.done ?_
  refine PJ.next ?_
  refine WJ.seq ?_
  refine WJ.if_f rfl ?_
  refine WJ.skip ?_
  refine PJ.next ?_
  refine WJ.seq ?_
  refine WJ.quiet ?_
  refine QJ.step (YldS.yld (y_move rfl)) rfl ?_
  obtain ⟨r2, h3, hm⟩ := bindS hm
  refine QJ.step (y_call Try.call46 rfl (RetG.quiet fun w hw => ok_bits_Len64 h3 w )) rfl ?_
  refine QJ.step (YldS.yld (y_assign rfl)) rfl ?_
  refine QJ.done ?_
  refine PJ.next ?_
  refine WJ.ret ?_
  obtain rfl := Option.some.inj hm
  refine PJ.sel (L' := []) [] ⟨List.nodup_nil, rfl⟩ ?_
  exact PJ.retn (vs := [.int .i64 r2]) Try.results29 ⟨rfl, trivial⟩ ⟨rfl, rfl⟩

set_option maxRecDepth 100000 in
set_option maxHeartbeats 1000000 in
theorem ok_sort_nextPowerOfTwo {length1 : Int} {r : Int} (hm : sort_nextPowerOfTwo length1 = some r) (w : World)  :
    Calls Try.prog 57 #[.int .i64 length1] w (Ret (cx w) (.int .u64 r)) := by
  unfold sort_nextPowerOfTwo at hm
  refine Calls.enter [.int .i64 length1] Try.func57 rfl Try.ntmps57 rfl ?_
  refine WJ.seq ?_
  refine WJ.quiet ?_
  refine QJ.step (YldS.yld (y_assign rfl)) rfl ?_
  refine QJ.done ?_
  refine PJ.next ?_
  refine WJ.seq ?_
  refine WJ.quiet ?_
  refine QJ.step (YldS.yld (y_move rfl)) rfl ?_
  refine QJ.step (YldS.yld (y_convI Try.runUnderlying3 Try.runUnderlying74 rfl)) rfl ?_
  obtain ⟨r2, h3, hm⟩ := bindS hm
  refine QJ.step (y_call Try.call29 rfl (RetG.quiet fun w hw => ok_bits_Len h3 w )) rfl ?_
  refine QJ.step (YldS.yld (y_convI Try.runUnderlying3 Try.runUnderlying74 rfl)) rfl ?_
  refine QJ.step (YldS.yld (y_assign rfl)) rfl ?_
  refine QJ.done ?_
  refine PJ.next ?_
  refine WJ.seq ?_
  refine WJ.quiet ?_
  refine QJ.step (YldS.yld (y_move rfl)) rfl ?_
  obtain ⟨q4, h5, hm⟩ := bindS hm
  refine QJ.step (YldS.yld (y_shlu' h5 rfl rfl)) rfl ?_
  refine QJ.step (YldS.yld (y_assign rfl)) rfl ?_
  refine QJ.done ?_
  refine PJ.next ?_
  refine WJ.ret ?_
  obtain rfl := Option.some.inj hm
  refine PJ.sel (L' := []) [] ⟨List.nodup_nil, rfl⟩ ?_
  exact PJ.retn (vs := [.int .u64 q4]) Try.results57 ⟨rfl, trivial⟩ ⟨rfl, rfl⟩

set_option maxRecDepth 100000 in
set_option maxHeartbeats 1000000 in
theorem ok_sort_xorshift_Next {r1 : Int} {g2 : Nat} {r : Int × Int} (hm : sort_xorshift_Next r1 = some r) (w : World) (S : Nat → Prop)  (hA : (box g2 97 [.int .u64 r1]).holds w S) :
    Calls Try.prog 58 #[pt g2 0] w (RetG ⟨w, S⟩ fun u L => (u = .int .u64 r.1 ∧ L = [box g2 97 [.int .u64 r.2]])) := by
  unfold sort_xorshift_Next at hm
  refine Calls.enter1 hA [pt g2 0] Try.func58 rfl Try.ntmps58 rfl ?_
  refine WJ.seq ?_
  refine WJ.quiet ?_
  refine QJ.step (YldS.yld (y_assign rfl)) rfl ?_
  refine QJ.done ?_
  refine PJ.next ?_
  refine WJ.seq ?_
  obtain ⟨q3, h4, hm⟩ := bindS hm
  refine WJ.draws (N := 10) (listed0 := #[false, false, false, false, false, false, false, false, false, false]) [] follows rfl rfl ?_
  refine RJ.first 0 (listed' := #[true, false, false, false, false, false, false, false, false, false]) [] rfl (by kernel_rfl) rfl ⟨List.nodup_nil, rfl⟩ (y_move rfl) rfl ?_
  refine RJ.first 1 (listed' := #[true, true, false, false, false, false, false, false, false, false]) [] rfl (by kernel_rfl) rfl ⟨List.nodup_nil, rfl⟩ (y_nil rfl) rfl ?_
  refine RJ.first 3 (listed' := #[true, true, false, true, false, false, false, false, false, false]) [] rfl (by kernel_rfl) rfl ⟨List.nodup_nil, rfl⟩ (y_move rfl) rfl ?_
  refine RJ.first 4 (listed' := #[true, true, false, true, true, false, false, false, false, false]) [] rfl (by kernel_rfl) rfl ⟨List.nodup_nil, rfl⟩ (y_nil rfl) rfl ?_
  refine RJ.hold (X := Unit) 3 #[true, true, true, true, true, true, true, false, false, false] (fun (_ : Unit) => [(0, pt g2 0), (3, pt g2 0), (5, .int .u64 r1), (9, .int .u64 q3)]) (fun (_ : Unit) => [box g2 97 [.int .u64 r1]]) ?_ ?_
  · rintro _
    refine RJ.first 7 (listed' := #[true, true, true, true, true, true, true, true, false, false]) [] rfl (by kernel_rfl) rfl ⟨List.nodup_nil, rfl⟩ (y_xoru rfl rfl) rfl ?_
    refine RJ.first 8 (listed' := #[true, true, true, true, true, true, true, true, true, false]) [] rfl (by kernel_rfl) rfl ⟨List.nodup_nil, rfl⟩ (y_nil rfl) rfl ?_
    refine RJ.step1 9 [] (by kernel_rfl) ⟨List.nodup_nil, rfl⟩ ?_
    refine RO.of (listed' := #[true, true, true, true, true, true, true, true, true, true]) rfl rfl ?_
    refine SJ.storeL (k := 0) (off := 0) (us := [.int .u64 (uxor r1 q3)]) rfl rfl rfl rfl Try.sizeOf97 rfl rfl ?_
    refine SJ.nil ?_
    refine PJ.draw ?_
    refine RJ.fin [] (by kernel_rfl) ⟨List.nodup_nil, rfl⟩ ?_
    refine PJ.next ?_
    refine WJ.seq ?_
    refine WJ.draws (N := 10) (listed0 := #[false, false, false, false, false, false, false, false, false, false]) [] follows rfl rfl ?_
    refine RJ.first 0 (listed' := #[true, false, false, false, false, false, false, false, false, false]) [] rfl (by kernel_rfl) rfl ⟨List.nodup_nil, rfl⟩ (y_move rfl) rfl ?_
    refine RJ.first 1 (listed' := #[true, true, false, false, false, false, false, false, false, false]) [] rfl (by kernel_rfl) rfl ⟨List.nodup_nil, rfl⟩ (y_nil rfl) rfl ?_
    refine RJ.first 3 (listed' := #[true, true, false, true, false, false, false, false, false, false]) [] rfl (by kernel_rfl) rfl ⟨List.nodup_nil, rfl⟩ (y_move rfl) rfl ?_
    refine RJ.first 4 (listed' := #[true, true, false, true, true, false, false, false, false, false]) [] rfl (by kernel_rfl) rfl ⟨List.nodup_nil, rfl⟩ (y_nil rfl) rfl ?_
    refine RJ.hold (X := Unit) 3 #[true, true, true, true, true, true, true, false, false, false] (fun (_ : Unit) => [(0, pt g2 0), (12, pt g2 0), (14, .int .u64 (uxor r1 q3)), (18, .int .u64 (ushr (uxor r1 q3) 7))]) (fun (_ : Unit) => [box g2 97 [.int .u64 (uxor r1 q3)]]) ?_ ?_
    · rintro _
      refine RJ.first 7 (listed' := #[true, true, true, true, true, true, true, true, false, false]) [] rfl (by kernel_rfl) rfl ⟨List.nodup_nil, rfl⟩ (y_xoru rfl rfl) rfl ?_
      refine RJ.first 8 (listed' := #[true, true, true, true, true, true, true, true, true, false]) [] rfl (by kernel_rfl) rfl ⟨List.nodup_nil, rfl⟩ (y_nil rfl) rfl ?_
      refine RJ.step1 9 [] (by kernel_rfl) ⟨List.nodup_nil, rfl⟩ ?_
      refine RO.of (listed' := #[true, true, true, true, true, true, true, true, true, true]) rfl rfl ?_
      refine SJ.storeL (k := 0) (off := 0) (us := [.int .u64 (uxor (uxor r1 q3) (ushr (uxor r1 q3) 7))]) rfl rfl rfl rfl Try.sizeOf97 rfl rfl ?_
      refine SJ.nil ?_
      refine PJ.draw ?_
      refine RJ.fin [] (by kernel_rfl) ⟨List.nodup_nil, rfl⟩ ?_
      refine PJ.next ?_
      refine WJ.seq ?_
      obtain ⟨q7, h8, hm⟩ := bindS hm
      refine WJ.draws (N := 10) (listed0 := #[false, false, false, false, false, false, false, false, false, false]) [] follows rfl rfl ?_
      refine RJ.first 0 (listed' := #[true, false, false, false, false, false, false, false, false, false]) [] rfl (by kernel_rfl) rfl ⟨List.nodup_nil, rfl⟩ (y_move rfl) rfl ?_
      refine RJ.first 1 (listed' := #[true, true, false, false, false, false, false, false, false, false]) [] rfl (by kernel_rfl) rfl ⟨List.nodup_nil, rfl⟩ (y_nil rfl) rfl ?_
      refine RJ.first 3 (listed' := #[true, true, false, true, false, false, false, false, false, false]) [] rfl (by kernel_rfl) rfl ⟨List.nodup_nil, rfl⟩ (y_move rfl) rfl ?_
      refine RJ.first 4 (listed' := #[true, true, false, true, true, false, false, false, false, false]) [] rfl (by kernel_rfl) rfl ⟨List.nodup_nil, rfl⟩ (y_nil rfl) rfl ?_
      refine RJ.hold (X := Unit) 3 #[true, true, true, true, true, true, true, false, false, false] (fun (_ : Unit) => [(0, pt g2 0), (21, pt g2 0), (23, .int .u64 (uxor (uxor r1 q3) (ushr (uxor r1 q3) 7))), (27, .int .u64 q7)]) (fun (_ : Unit) => [box g2 97 [.int .u64 (uxor (uxor r1 q3) (ushr (uxor r1 q3) 7))]]) ?_ ?_
      · rintro _
        refine RJ.first 7 (listed' := #[true, true, true, true, true, true, true, true, false, false]) [] rfl (by kernel_rfl) rfl ⟨List.nodup_nil, rfl⟩ (y_xoru rfl rfl) rfl ?_
        refine RJ.first 8 (listed' := #[true, true, true, true, true, true, true, true, true, false]) [] rfl (by kernel_rfl) rfl ⟨List.nodup_nil, rfl⟩ (y_nil rfl) rfl ?_
        refine RJ.step1 9 [] (by kernel_rfl) ⟨List.nodup_nil, rfl⟩ ?_
        refine RO.of (listed' := #[true, true, true, true, true, true, true, true, true, true]) rfl rfl ?_
        refine SJ.storeL (k := 0) (off := 0) (us := [.int .u64 (uxor (uxor (uxor r1 q3) (ushr (uxor r1 q3) 7)) q7)]) rfl rfl rfl rfl Try.sizeOf97 rfl rfl ?_
        refine SJ.nil ?_
        refine PJ.draw ?_
        refine RJ.fin [] (by kernel_rfl) ⟨List.nodup_nil, rfl⟩ ?_
        refine PJ.next ?_
        refine WJ.seq ?_
        refine WJ.quiet ?_
        refine QJ.step (YldS.yld (y_move rfl)) rfl ?_
        refine QJ.step (YldS.yld (y_nil rfl)) rfl ?_
        refine QJ.step (YldS.yld (y_loadB (k := 0) (off := 0) (v := .int .u64 (uxor (uxor (uxor r1 q3) (ushr (uxor r1 q3) 7)) q7)) rfl Try.isAgg97 rfl rfl)) rfl ?_
        refine QJ.step (YldS.yld (y_assign rfl)) rfl ?_
        refine QJ.done ?_
        refine PJ.next ?_
        refine WJ.ret ?_
        obtain rfl := Option.some.inj hm
        refine PJ.sel (L' := [box g2 97 [.int .u64 (uxor (uxor (uxor r1 q3) (ushr (uxor r1 q3) 7)) q7)]]) [0] ⟨by decide, rfl⟩ ?_
        exact PJ.retn (vs := [.int .u64 (uxor (uxor (uxor r1 q3) (ushr (uxor r1 q3) 7)) q7)]) Try.results58 ⟨rfl, trivial⟩ ⟨rfl, rfl⟩
      · intro hD9
        refine RJ.step2 2 5 [] (by kernel_rfl) ⟨List.nodup_nil, rfl⟩ ?_ ?_
        · refine RO.of (listed' := #[true, true, true, true, true, false, false, false, false, false]) rfl rfl ?_
          refine SJ.q (YldS.yld (y_loadB (k := 0) (off := 0) (v := .int .u64 (uxor (uxor r1 q3) (ushr (uxor r1 q3) 7))) rfl Try.isAgg97 rfl rfl)) rfl ?_
          refine SJ.nil ?_
          refine PJ.draw ?_
          refine RJ.step1 5 [] (by kernel_rfl) ⟨List.nodup_nil, rfl⟩ ?_
          refine RO.of (listed' := #[true, true, true, true, true, true, false, false, false, false]) rfl rfl ?_
          refine SJ.q (YldS.yld (y_loadB (k := 0) (off := 0) (v := .int .u64 (uxor (uxor r1 q3) (ushr (uxor r1 q3) 7))) rfl Try.isAgg97 rfl rfl)) rfl ?_
          refine SJ.nil ?_
          refine PJ.draw ?_
          refine RJ.first 6 (listed' := #[true, true, true, true, true, true, true, false, false, false]) [] rfl (by kernel_rfl) rfl ⟨List.nodup_nil, rfl⟩ (y_shlu' h8 rfl rfl) rfl ?_
          exact RJ.weak (hD9 ()) [0] ⟨rfl, rfl, rfl, rfl, trivial⟩ ⟨by decide, rfl⟩
        · refine RO.of (listed' := #[true, true, false, true, true, true, false, false, false, false]) rfl rfl ?_
          refine SJ.q (YldS.yld (y_loadB (k := 0) (off := 0) (v := .int .u64 (uxor (uxor r1 q3) (ushr (uxor r1 q3) 7))) rfl Try.isAgg97 rfl rfl)) rfl ?_
          refine SJ.nil ?_
          refine PJ.draw ?_
          refine RJ.first 6 (listed' := #[true, true, false, true, true, true, true, false, false, false]) [] rfl (by kernel_rfl) rfl ⟨List.nodup_nil, rfl⟩ (y_shlu' h8 rfl rfl) rfl ?_
          refine RJ.step1 2 [] (by kernel_rfl) ⟨List.nodup_nil, rfl⟩ ?_
          refine RO.of (listed' := #[true, true, true, true, true, true, true, false, false, false]) rfl rfl ?_
          refine SJ.q (YldS.yld (y_loadB (k := 0) (off := 0) (v := .int .u64 (uxor (uxor r1 q3) (ushr (uxor r1 q3) 7))) rfl Try.isAgg97 rfl rfl)) rfl ?_
          refine SJ.nil ?_
          refine PJ.draw ?_
          exact RJ.weak (hD9 ()) [0] ⟨rfl, rfl, rfl, rfl, trivial⟩ ⟨by decide, rfl⟩
    · intro hD6
      refine RJ.step2 2 5 [] (by kernel_rfl) ⟨List.nodup_nil, rfl⟩ ?_ ?_
      · refine RO.of (listed' := #[true, true, true, true, true, false, false, false, false, false]) rfl rfl ?_
        refine SJ.q (YldS.yld (y_loadB (k := 0) (off := 0) (v := .int .u64 (uxor r1 q3)) rfl Try.isAgg97 rfl rfl)) rfl ?_
        refine SJ.nil ?_
        refine PJ.draw ?_
        refine RJ.step1 5 [] (by kernel_rfl) ⟨List.nodup_nil, rfl⟩ ?_
        refine RO.of (listed' := #[true, true, true, true, true, true, false, false, false, false]) rfl rfl ?_
        refine SJ.q (YldS.yld (y_loadB (k := 0) (off := 0) (v := .int .u64 (uxor r1 q3)) rfl Try.isAgg97 rfl rfl)) rfl ?_
        refine SJ.nil ?_
        refine PJ.draw ?_
        refine RJ.first 6 (listed' := #[true, true, true, true, true, true, true, false, false, false]) [] rfl (by kernel_rfl) rfl ⟨List.nodup_nil, rfl⟩ (y_shru rfl rfl rfl) rfl ?_
        exact RJ.weak (hD6 ()) [0] ⟨rfl, rfl, rfl, rfl, trivial⟩ ⟨by decide, rfl⟩
      · refine RO.of (listed' := #[true, true, false, true, true, true, false, false, false, false]) rfl rfl ?_
        refine SJ.q (YldS.yld (y_loadB (k := 0) (off := 0) (v := .int .u64 (uxor r1 q3)) rfl Try.isAgg97 rfl rfl)) rfl ?_
        refine SJ.nil ?_
        refine PJ.draw ?_
        refine RJ.first 6 (listed' := #[true, true, false, true, true, true, true, false, false, false]) [] rfl (by kernel_rfl) rfl ⟨List.nodup_nil, rfl⟩ (y_shru rfl rfl rfl) rfl ?_
        refine RJ.step1 2 [] (by kernel_rfl) ⟨List.nodup_nil, rfl⟩ ?_
        refine RO.of (listed' := #[true, true, true, true, true, true, true, false, false, false]) rfl rfl ?_
        refine SJ.q (YldS.yld (y_loadB (k := 0) (off := 0) (v := .int .u64 (uxor r1 q3)) rfl Try.isAgg97 rfl rfl)) rfl ?_
        refine SJ.nil ?_
        refine PJ.draw ?_
        exact RJ.weak (hD6 ()) [0] ⟨rfl, rfl, rfl, rfl, trivial⟩ ⟨by decide, rfl⟩
  · intro hD5
    refine RJ.step2 2 5 [] (by kernel_rfl) ⟨List.nodup_nil, rfl⟩ ?_ ?_
    · refine RO.of (listed' := #[true, true, true, true, true, false, false, false, false, false]) rfl rfl ?_
      refine SJ.q (YldS.yld (y_loadB (k := 0) (off := 0) (v := .int .u64 r1) rfl Try.isAgg97 rfl rfl)) rfl ?_
      refine SJ.nil ?_
      refine PJ.draw ?_
      refine RJ.step1 5 [] (by kernel_rfl) ⟨List.nodup_nil, rfl⟩ ?_
      refine RO.of (listed' := #[true, true, true, true, true, true, false, false, false, false]) rfl rfl ?_
      refine SJ.q (YldS.yld (y_loadB (k := 0) (off := 0) (v := .int .u64 r1) rfl Try.isAgg97 rfl rfl)) rfl ?_
      refine SJ.nil ?_
      refine PJ.draw ?_
      refine RJ.first 6 (listed' := #[true, true, true, true, true, true, true, false, false, false]) [] rfl (by kernel_rfl) rfl ⟨List.nodup_nil, rfl⟩ (y_shlu' h4 rfl rfl) rfl ?_
      exact RJ.weak (hD5 ()) [0] ⟨rfl, rfl, rfl, rfl, trivial⟩ ⟨by decide, rfl⟩
    · refine RO.of (listed' := #[true, true, false, true, true, true, false, false, false, false]) rfl rfl ?_
      refine SJ.q (YldS.yld (y_loadB (k := 0) (off := 0) (v := .int .u64 r1) rfl Try.isAgg97 rfl rfl)) rfl ?_
      refine SJ.nil ?_
      refine PJ.draw ?_
      refine RJ.first 6 (listed' := #[true, true, false, true, true, true, true, false, false, false]) [] rfl (by kernel_rfl) rfl ⟨List.nodup_nil, rfl⟩ (y_shlu' h4 rfl rfl) rfl ?_
      refine RJ.step1 2 [] (by kernel_rfl) ⟨List.nodup_nil, rfl⟩ ?_
      refine RO.of (listed' := #[true, true, true, true, true, true, true, false, false, false]) rfl rfl ?_
      refine SJ.q (YldS.yld (y_loadB (k := 0) (off := 0) (v := .int .u64 r1) rfl Try.isAgg97 rfl rfl)) rfl ?_
      refine SJ.nil ?_
      refine PJ.draw ?_
      exact RJ.weak (hD5 ()) [0] ⟨rfl, rfl, rfl, rfl, trivial⟩ ⟨by decide, rfl⟩

set_option maxRecDepth 100000 in
set_option maxHeartbeats 1000000 in
theorem ok_sort_breakPatterns_func {N : Nat} {xs1 : List α} {a2 : Int} {b3 : Int} {lt : α → α → Bool} {AA : List α → Asn} {gl gs : Nat} {lb sb : Array Value} {r : (List α)} (hm : sort_breakPatterns_func N xs1 a2 b3 lt = some r) (w : World) (S : Nat → Prop) (hS : SrtOk Try.prog AA lt gl gs lb sb) (hA : (AA xs1).holds w S) :
    Calls Try.prog 49 #[.agg #[.func (.func gl) #[] lb, .func (.func gs) #[] sb], .int .i64 a2, .int .i64 b3] w (RetG ⟨w, S⟩ fun u L => (u = tup [] ∧ L = [AA r])) := by
  unfold sort_breakPatterns_func at hm
  refine Calls.enter1 hA [.agg #[.func (.func gl) #[] lb, .func (.func gs) #[] sb], .int .i64 a2, .int .i64 b3] Try.func49 rfl Try.ntmps49 rfl ?_
  refine WJ.seq ?_
  refine WJ.reg ?_
  refine SJ.box (cs := [.func (.func gl) #[] lb, .func (.func gs) #[] sb]) rfl rfl rfl fun g4 => ?_
  refine SJ.nil ?_
  refine PJ.next ?_
  refine WJ.seq ?_
  refine WJ.quiet ?_
  refine QJ.step (YldS.yld (y_move rfl)) rfl ?_
  refine QJ.step (YldS.yld (y_move rfl)) rfl ?_
  refine QJ.step (YldS.yld (y_bin rfl rfl rfl)) rfl ?_
  refine QJ.step (YldS.yld (y_assign rfl)) rfl ?_
  refine QJ.done ?_
  refine PJ.next ?_
  refine WJ.seq ?_
  refine WJ.quiet ?_
  refine QJ.step (YldS.yld (y_move rfl)) rfl ?_
  refine QJ.step (YldS.yld (y_bin rfl rfl rfl)) rfl ?_
  refine QJ.done ?_
  refine PJ.next ?_
  refine WJ.cond (t := decide ((w64 (b3 - a2)) ≥ 8)) rfl (fun hb5 => ?_) (fun hb5 => ?_)
  · replace hm := ifT hm hb5
    refine WJ.seq ?_
    refine WJ.reg ?_
    refine SJ.q (YldS.yld (y_move rfl)) rfl ?_
    refine SJ.q (YldS.yld (y_convI Try.runUnderlying3 Try.runUnderlying97 rfl)) rfl ?_
    refine SJ.alloc (cs := [.int .u64 0]) Try.zeroValue97 rfl rfl fun g6 => ?_
    refine SJ.storeL (k := 0) (off := 0) (us := [.int .u64 (IntKind.u64.wrap (w64 (b3 - a2)))]) rfl rfl rfl rfl Try.sizeOf97 rfl rfl ?_
    refine SJ.nil ?_
    refine PJ.next ?_
    refine WJ.seq ?_
    refine WJ.quiet ?_
    refine QJ.step (YldS.yld (y_move rfl)) rfl ?_
    obtain ⟨r7, h8, hm⟩ := bindS hm
    refine QJ.step (y_call Try.call57 rfl (RetG.quiet fun w hw => ok_sort_nextPowerOfTwo h8 w )) rfl ?_
    refine QJ.step (YldS.yld (y_assign rfl)) rfl ?_
    refine QJ.done ?_
    refine PJ.next ?_
    refine WJ.seq ?_
    refine WJ.quiet ?_
    refine QJ.step (YldS.yld (y_move rfl)) rfl ?_
    refine QJ.step (YldS.yld (y_move rfl)) rfl ?_
    refine QJ.step (YldS.yld (y_quo rfl rfl (by decide))) rfl ?_
    refine QJ.step (YldS.yld (y_bin rfl rfl rfl)) rfl ?_
    refine QJ.step (YldS.yld (y_bin rfl rfl rfl)) rfl ?_
    refine QJ.step (YldS.yld (y_bin rfl rfl rfl)) rfl ?_
    refine QJ.step (YldS.yld (y_assign rfl)) rfl ?_
    refine QJ.done ?_
    refine PJ.next ?_
    refine WJ.block ?_
    refine WJ.sel (L' := (fun (x : Int × (List α) × Int) => [box g6 97 [.int .u64 x.1], box g4 77 [.func (.func gl) #[] lb, .func (.func gs) #[] sb], AA x.2.1]) (IntKind.u64.wrap (w64 (b3 - a2)), xs1, w64 ((w64 (a2 + (w64 ((w64 (Int.tdiv (w64 (b3 - a2)) 4)) * 2)))) - 1))) [0, 1, 2] ⟨by decide, rfl⟩ ?_
    refine WJ.sub (m' := (fun (x : Int × (List α) × Int) => [(1, .int .i64 a2), (3, pt g4 0), (6, .int .i64 (w64 (b3 - a2))), (7, pt g6 0), (8, .int .u64 r7), (9, .int .i64 x.2.2)]) (IntKind.u64.wrap (w64 (b3 - a2)), xs1, w64 ((w64 (a2 + (w64 ((w64 (Int.tdiv (w64 (b3 - a2)) 4)) * 2)))) - 1))) ⟨rfl, rfl, rfl, rfl, rfl, rfl, trivial⟩ ?_
    refine WJ.loop (X := Int × (List α) × Int) (fun N (x : Int × (List α) × Int) => sort_breakPatterns_func_l1 a2 b3 r7 N x.1 x.2.1 x.2.2 = some r) (fun (x : Int × (List α) × Int) => [(1, .int .i64 a2), (3, pt g4 0), (6, .int .i64 (w64 (b3 - a2))), (7, pt g6 0), (8, .int .u64 r7), (9, .int .i64 x.2.2)]) (fun (x : Int × (List α) × Int) => [box g6 97 [.int .u64 x.1], box g4 77 [.func (.func gl) #[] lb, .func (.func gs) #[] sb], AA x.2.1]) ?_ N (IntKind.u64.wrap (w64 (b3 - a2)), xs1, w64 ((w64 (a2 + (w64 ((w64 (Int.tdiv (w64 (b3 - a2)) 4)) * 2)))) - 1)) hm
    · rintro N ⟨x9, l10, idx11⟩ hI
      have hm := hI; clear hI
      cases N with
      | zero => cases hm
      | succ N =>
      unfold sort_breakPatterns_func_l1 at hm
      refine WJ.seq ?_
      refine WJ.seq ?_
      refine WJ.quiet ?_
      refine QJ.step (YldS.yld (y_move rfl)) rfl ?_
      refine QJ.step (YldS.yld (y_move rfl)) rfl ?_
      refine QJ.step (YldS.yld (y_move rfl)) rfl ?_
      refine QJ.step (YldS.yld (y_quo rfl rfl (by decide))) rfl ?_
      refine QJ.step (YldS.yld (y_bin rfl rfl rfl)) rfl ?_
      refine QJ.step (YldS.yld (y_bin rfl rfl rfl)) rfl ?_
      refine QJ.step (YldS.yld (y_bin rfl rfl rfl)) rfl ?_
      refine QJ.step (YldS.yld (y_bin rfl rfl rfl)) rfl ?_
      refine QJ.done ?_
      refine PJ.next ?_
      refine WJ.cond (t := decide (idx11 ≤ (w64 ((w64 (a2 + (w64 ((w64 (Int.tdiv (w64 (b3 - a2)) 4)) * 2)))) + 1)))) rfl (fun hb12 => ?_) (fun hb12 => ?_)
      · replace hm := ifT hm hb12
        refine WJ.skip ?_
        refine PJ.next ?_
        refine WJ.seq ?_
        refine WJ.block ?_
        refine WJ.seq ?_
        refine WJ.reg ?_
        obtain ⟨r13, h14, hm⟩ := bindS hm
        refine SJ.call1 (k := 0) rfl Try.call58 rfl (fun w S hw hA hO => ok_sort_xorshift_Next h14 w S  hA) rfl ?_
        rintro _ _ ⟨rfl, rfl⟩
        refine SJ.q (YldS.yld (y_move rfl)) rfl ?_
        refine SJ.q (YldS.yld (y_bin rfl rfl rfl)) rfl ?_
        refine SJ.q (YldS.yld (y_andu rfl rfl rfl)) rfl ?_
        refine SJ.q (YldS.yld (y_convI Try.runUnderlying74 Try.runUnderlying3 rfl)) rfl ?_
        refine SJ.q (YldS.yld (y_assign rfl)) rfl ?_
        refine SJ.nil ?_
        refine PJ.next ?_
        obtain ⟨kj16, hk17, hm⟩ := withK_open hm
        refine WJ.join (X := Int) (fun (x : Int) => kj16 x = some r) (fun (x : Int) => [(1, .int .i64 a2), (3, pt g4 0), (6, .int .i64 (w64 (b3 - a2))), (7, pt g6 0), (8, .int .u64 r7), (9, .int .i64 idx11), (10, .int .i64 x)]) (fun (x : Int) => [box g6 97 [.int .u64 r13.2], box g4 77 [.func (.func gl) #[] lb, .func (.func gs) #[] sb], AA l10]) ?_ ?_
        · clear hk17
          refine WJ.seq ?_
          refine WJ.quiet ?_
          refine QJ.step (YldS.yld (y_move rfl)) rfl ?_
          refine QJ.step (YldS.yld (y_move rfl)) rfl ?_
          refine QJ.step (YldS.yld (y_bin rfl rfl rfl)) rfl ?_
          refine QJ.done ?_
          refine PJ.next ?_
          refine WJ.cond (t := decide ((w64 (uand r13.1 (IntKind.u64.wrap (r7 - 1)))) ≥ (w64 (b3 - a2)))) rfl (fun hb18 => ?_) (fun hb18 => ?_)
          · replace hm := ifT hm hb18
            refine WJ.quiet ?_
            refine QJ.step (YldS.yld (y_move rfl)) rfl ?_
            refine QJ.step (YldS.yld (y_move rfl)) rfl ?_
            refine QJ.step (YldS.yld (y_bin rfl rfl rfl)) rfl ?_
            refine QJ.step (YldS.yld (y_assign rfl)) rfl ?_
            refine QJ.done ?_
            exact PJ.joined (w64 ((w64 (uand r13.1 (IntKind.u64.wrap (r7 - 1)))) - (w64 (b3 - a2)))) [0, 1, 2] hm ⟨rfl, rfl, rfl, rfl, rfl, rfl, rfl, trivial⟩ ⟨by decide, rfl⟩
          · replace hm := ifF hm hb18
            refine WJ.skip ?_
            exact PJ.joined (w64 (uand r13.1 (IntKind.u64.wrap (r7 - 1)))) [0, 1, 2] hm ⟨rfl, rfl, rfl, rfl, rfl, rfl, rfl, trivial⟩ ⟨by decide, rfl⟩
        · rintro other15 hm
          subst hk17
          refine WJ.reg ?_
          refine SJ.q (YldS.yld (y_fldB (o := 0) fld77_1 rfl)) rfl ?_
          refine SJ.q (YldS.yld (y_loadB (k := 1) (off := 1) (v := .func (.func gs) #[] sb) rfl Try.isAgg70 rfl rfl)) rfl ?_
          refine SJ.q (YldS.yld (y_move rfl)) rfl ?_
          refine SJ.q (YldS.yld (y_move rfl)) rfl ?_
          refine SJ.q (YldS.yld (y_move rfl)) rfl ?_
          refine SJ.q (YldS.yld (y_bin rfl rfl rfl)) rfl ?_
          obtain ⟨l20, h19, hm⟩ := bindS hm
          refine SJ.swapF hS h19 (k := 2) rfl rfl rfl rfl ?_
          refine SJ.nil ?_
          refine PJ.block_normal (PJ.next ?_)
          refine WJ.quiet ?_
          refine QJ.step (YldS.yld (y_move rfl)) rfl ?_
          refine QJ.step (YldS.yld (y_bin rfl rfl rfl)) rfl ?_
          refine QJ.step (YldS.yld (y_assign rfl)) rfl ?_
          refine QJ.done ?_
          exact PJ.round (r13.2, l20, w64 (idx11 + 1)) [0, 1, 2] hm ⟨rfl, rfl, rfl, rfl, rfl, rfl, trivial⟩ ⟨by decide, rfl⟩
      · replace hm := ifF hm hb12
        refine WJ.exit ?_
        refine PJ.then_exit (PJ.then_exit (PJ.block_exit (PJ.fin ?_)))
        obtain rfl := Option.some.inj hm
        refine PJ.sel (L' := [AA l10]) [2] ⟨by decide, rfl⟩ ?_
        exact PJ.retn (vs := []) Try.results49 trivial ⟨rfl, rfl⟩
  · replace hm := ifF hm hb5
    refine WJ.skip ?_
    refine PJ.fin ?_
    obtain rfl := Option.some.inj hm
    refine PJ.sel (L' := [AA xs1]) [1] ⟨by decide, rfl⟩ ?_
    exact PJ.retn (vs := []) Try.results49 trivial ⟨rfl, rfl⟩

set_option maxRecDepth 100000 in
set_option maxHeartbeats 1000000 in
theorem ok_sort_order2_func {xs1 : List α} {a2 : Int} {b3 : Int} {swaps4 : Int} {lt : α → α → Bool} {AA : List α → Asn} {gl gs : Nat} {lb sb : Array Value} {g5 : Nat} {r : Int × Int × (List α) × Int} (hm : sort_order2_func xs1 a2 b3 swaps4 lt = some r) (w : World) (S : Nat → Prop) (hS : SrtOk Try.prog AA lt gl gs lb sb) (hA : (star (AA xs1) (box g5 3 [.int .i64 swaps4])).holds w S) :
    Calls Try.prog 61 #[.agg #[.func (.func gl) #[] lb, .func (.func gs) #[] sb], .int .i64 a2, .int .i64 b3, pt g5 0] w (RetG ⟨w, S⟩ fun u L => (u = tup [.int .i64 r.1, .int .i64 r.2.1] ∧ L = [star (AA r.2.2.1) (box g5 3 [.int .i64 r.2.2.2])])) := by
  unfold sort_order2_func at hm
  refine Calls.enter1 hA [.agg #[.func (.func gl) #[] lb, .func (.func gs) #[] sb], .int .i64 a2, .int .i64 b3, pt g5 0] Try.func61 rfl Try.ntmps61 rfl ?_
  refine WJ.unstar ?_
  refine WJ.seq ?_
  refine WJ.reg ?_
  refine SJ.box (cs := [.func (.func gl) #[] lb, .func (.func gs) #[] sb]) rfl rfl rfl fun g6 => ?_
  refine SJ.q (YldS.yld (y_assign rfl)) rfl ?_
  refine SJ.q (YldS.yld (y_assign rfl)) rfl ?_
  refine SJ.nil ?_
  refine PJ.next ?_
  refine WJ.seq ?_
  refine WJ.seq ?_
  refine WJ.quiet ?_
  refine QJ.step (YldS.yld (y_fldB (o := 0) fld77_0 rfl)) rfl ?_
  refine QJ.step (YldS.yld (y_loadB (k := 0) (off := 0) (v := .func (.func gl) #[] lb) rfl Try.isAgg54 rfl rfl)) rfl ?_
  refine QJ.step (YldS.yld (y_move rfl)) rfl ?_
  refine QJ.step (YldS.yld (y_move rfl)) rfl ?_
  obtain ⟨b8, h7, hm⟩ := bindS hm
  refine QJ.step (y_callL hS h7 (k := 1) rfl rfl rfl) rfl ?_
  refine QJ.done ?_
  refine PJ.next ?_
  refine WJ.cond (t := b8) rfl (fun hb9 => ?_) (fun hb9 => ?_)
  · replace hm := ifT hm hb9
    refine WJ.seq ?_
    refine WJ.reg ?_
    refine SJ.q (YldS.yld (y_move rfl)) rfl ?_
    refine SJ.q (YldS.yld (y_nil rfl)) rfl ?_
    refine SJ.q (YldS.yld (y_loadB (k := 2) (off := 0) (v := .int .i64 swaps4) rfl Try.isAgg3 rfl rfl)) rfl ?_
    refine SJ.q (YldS.yld (y_bin rfl rfl rfl)) rfl ?_
    refine SJ.q (YldS.yld (y_nil rfl)) rfl ?_
    refine SJ.storeL (k := 2) (off := 0) (us := [.int .i64 (w64 (swaps4 + 1))]) rfl rfl rfl rfl Try.sizeOf3 rfl rfl ?_
    refine SJ.nil ?_
    refine PJ.next ?_
    refine WJ.seq ?_
    refine WJ.quiet ?_
    refine QJ.step (YldS.yld (y_move rfl)) rfl ?_
    refine QJ.step (YldS.yld (y_move rfl)) rfl ?_
    refine QJ.step (YldS.yld (y_assign rfl)) rfl ?_
    refine QJ.step (YldS.yld (y_assign rfl)) rfl ?_
    refine QJ.done ?_
    refine PJ.next ?_
    refine WJ.ret ?_
    refine PJ.then_ret ?_
    obtain rfl := Option.some.inj hm
    refine PJ.sel (L' := [AA xs1, box g5 3 [.int .i64 (w64 (swaps4 + 1))]]) [1, 2] ⟨by decide, rfl⟩ ?_
    refine PJ.star ?_
    exact PJ.retn (vs := [.int .i64 b3, .int .i64 a2]) Try.results61 ⟨rfl, rfl, trivial⟩ ⟨rfl, rfl⟩
  · replace hm := ifF hm hb9
    refine WJ.skip ?_
    refine PJ.next ?_
    refine WJ.seq ?_
    refine WJ.quiet ?_
    refine QJ.step (YldS.yld (y_move rfl)) rfl ?_
    refine QJ.step (YldS.yld (y_move rfl)) rfl ?_
    refine QJ.step (YldS.yld (y_assign rfl)) rfl ?_
    refine QJ.step (YldS.yld (y_assign rfl)) rfl ?_
    refine QJ.done ?_
    refine PJ.next ?_
    refine WJ.ret ?_
    obtain rfl := Option.some.inj hm
    refine PJ.sel (L' := [AA xs1, box g5 3 [.int .i64 swaps4]]) [1, 2] ⟨by decide, rfl⟩ ?_
    refine PJ.star ?_
    exact PJ.retn (vs := [.int .i64 a2, .int .i64 b3]) Try.results61 ⟨rfl, rfl, trivial⟩ ⟨rfl, rfl⟩

set_option maxRecDepth 100000 in
set_option maxHeartbeats 1000000 in
theorem ok_sort_median_func {xs1 : List α} {a2 : Int} {b3 : Int} {c4 : Int} {swaps5 : Int} {lt : α → α → Bool} {AA : List α → Asn} {gl gs : Nat} {lb sb : Array Value} {g6 : Nat} {r : Int × (List α) × Int} (hm : sort_median_func xs1 a2 b3 c4 swaps5 lt = some r) (w : World) (S : Nat → Prop) (hS : SrtOk Try.prog AA lt gl gs lb sb) (hA : (star (AA xs1) (box g6 3 [.int .i64 swaps5])).holds w S) :
    Calls Try.prog 60 #[.agg #[.func (.func gl) #[] lb, .func (.func gs) #[] sb], .int .i64 a2, .int .i64 b3, .int .i64 c4, pt g6 0] w (RetG ⟨w, S⟩ fun u L => (u = .int .i64 r.1 ∧ L = [star (AA r.2.1) (box g6 3 [.int .i64 r.2.2])])) := by
  unfold sort_median_func at hm
  refine Calls.enter1 hA [.agg #[.func (.func gl) #[] lb, .func (.func gs) #[] sb], .int .i64 a2, .int .i64 b3, .int .i64 c4, pt g6 0] Try.func60 rfl Try.ntmps60 rfl ?_
  refine WJ.unstar ?_
  refine WJ.seq ?_
  refine WJ.reg ?_
  refine SJ.box (cs := [.func (.func gl) #[] lb, .func (.func gs) #[] sb]) rfl rfl rfl fun g7 => ?_
  refine SJ.q (YldS.yld (y_assign rfl)) rfl ?_
  refine SJ.nil ?_
  refine PJ.next ?_
  refine WJ.seq ?_
  refine WJ.reg ?_
  refine SJ.q (YldS.yld (y_loadBN (k := 0) (off := 0) (us := [.func (.func gl) #[] lb, .func (.func gs) #[] sb]) rfl Try.isAgg77 Try.sizeOf77 rfl rfl)) rfl ?_
  refine SJ.q (YldS.yld (y_move rfl)) rfl ?_
  refine SJ.q (YldS.yld (y_move rfl)) rfl ?_
  refine SJ.q (YldS.yld (y_move rfl)) rfl ?_
  refine SJ.sel (L' := [AA xs1, box g6 3 [.int .i64 swaps5], box g7 77 [.func (.func gl) #[] lb, .func (.func gs) #[] sb]]) [1, 2, 0] ⟨by decide, rfl⟩ ?_
  refine SJ.star ?_
  obtain ⟨r8, h9, hm⟩ := bindS hm
  refine SJ.call1 (k := 0) rfl Try.call61 rfl (fun w S hw hA hO => ok_sort_order2_func h9 w S hS hA) rfl ?_
  rintro _ _ ⟨rfl, rfl⟩
  refine SJ.unstar ?_
  refine SJ.q (YldS.yld (y_move rfl)) rfl ?_
  refine SJ.q (YldS.yld (y_extract rfl rfl)) rfl ?_
  refine SJ.q (YldS.yld (y_extract rfl rfl)) rfl ?_
  refine SJ.q (YldS.yld (y_assign rfl)) rfl ?_
  refine SJ.q (YldS.yld (y_assign rfl)) rfl ?_
  refine SJ.nil ?_
  refine PJ.next ?_
  refine WJ.seq ?_
  refine WJ.reg ?_
  refine SJ.q (YldS.yld (y_loadBN (k := 2) (off := 0) (us := [.func (.func gl) #[] lb, .func (.func gs) #[] sb]) rfl Try.isAgg77 Try.sizeOf77 rfl rfl)) rfl ?_
  refine SJ.q (YldS.yld (y_move rfl)) rfl ?_
  refine SJ.q (YldS.yld (y_move rfl)) rfl ?_
  refine SJ.q (YldS.yld (y_move rfl)) rfl ?_
  refine SJ.sel (L' := [AA r8.2.2.1, box g6 3 [.int .i64 r8.2.2.2], box g7 77 [.func (.func gl) #[] lb, .func (.func gs) #[] sb]]) [0, 1, 2] ⟨by decide, rfl⟩ ?_
  refine SJ.star ?_
  obtain ⟨r10, h11, hm⟩ := bindS hm
  refine SJ.call1 (k := 0) rfl Try.call61 rfl (fun w S hw hA hO => ok_sort_order2_func h11 w S hS hA) rfl ?_
  rintro _ _ ⟨rfl, rfl⟩
  refine SJ.unstar ?_
  refine SJ.q (YldS.yld (y_move rfl)) rfl ?_
  refine SJ.q (YldS.yld (y_extract rfl rfl)) rfl ?_
  refine SJ.q (YldS.yld (y_extract rfl rfl)) rfl ?_
  refine SJ.q (YldS.yld (y_assign rfl)) rfl ?_
  refine SJ.q (YldS.yld (y_assign rfl)) rfl ?_
  refine SJ.nil ?_
  refine PJ.next ?_
  refine WJ.seq ?_
  refine WJ.reg ?_
  refine SJ.q (YldS.yld (y_loadBN (k := 2) (off := 0) (us := [.func (.func gl) #[] lb, .func (.func gs) #[] sb]) rfl Try.isAgg77 Try.sizeOf77 rfl rfl)) rfl ?_
  refine SJ.q (YldS.yld (y_move rfl)) rfl ?_
  refine SJ.q (YldS.yld (y_move rfl)) rfl ?_
  refine SJ.q (YldS.yld (y_move rfl)) rfl ?_
  refine SJ.sel (L' := [AA r10.2.2.1, box g6 3 [.int .i64 r10.2.2.2], box g7 77 [.func (.func gl) #[] lb, .func (.func gs) #[] sb]]) [0, 1, 2] ⟨by decide, rfl⟩ ?_
  refine SJ.star ?_
  obtain ⟨r12, h13, hm⟩ := bindS hm
  refine SJ.call1 (k := 0) rfl Try.call61 rfl (fun w S hw hA hO => ok_sort_order2_func h13 w S hS hA) rfl ?_
  rintro _ _ ⟨rfl, rfl⟩
  refine SJ.unstar ?_
  refine SJ.q (YldS.yld (y_move rfl)) rfl ?_
  refine SJ.q (YldS.yld (y_extract rfl rfl)) rfl ?_
  refine SJ.q (YldS.yld (y_extract rfl rfl)) rfl ?_
  refine SJ.q (YldS.yld (y_assign rfl)) rfl ?_
  refine SJ.q (YldS.yld (y_assign rfl)) rfl ?_
  refine SJ.nil ?_
  refine PJ.next ?_
  refine WJ.seq ?_
  refine WJ.quiet ?_
  refine QJ.step (YldS.yld (y_move rfl)) rfl ?_
  refine QJ.step (YldS.yld (y_assign rfl)) rfl ?_
  refine QJ.done ?_
  refine PJ.next ?_
  refine WJ.ret ?_
  obtain rfl := Option.some.inj hm
  refine PJ.sel (L' := [AA r12.2.2.1, box g6 3 [.int .i64 r12.2.2.2]]) [0, 1] ⟨by decide, rfl⟩ ?_
  refine PJ.star ?_
  exact PJ.retn (vs := [.int .i64 r12.2.1]) Try.results60 ⟨rfl, trivial⟩ ⟨rfl, rfl⟩

set_option maxRecDepth 100000 in
set_option maxHeartbeats 1000000 in
theorem ok_sort_medianAdjacent_func {xs1 : List α} {a2 : Int} {swaps3 : Int} {lt : α → α → Bool} {AA : List α → Asn} {gl gs : Nat} {lb sb : Array Value} {g4 : Nat} {r : Int × (List α) × Int} (hm : sort_medianAdjacent_func xs1 a2 swaps3 lt = some r) (w : World) (S : Nat → Prop) (hS : SrtOk Try.prog AA lt gl gs lb sb) (hA : (star (AA xs1) (box g4 3 [.int .i64 swaps3])).holds w S) :
    Calls Try.prog 59 #[.agg #[.func (.func gl) #[] lb, .func (.func gs) #[] sb], .int .i64 a2, pt g4 0] w (RetG ⟨w, S⟩ fun u L => (u = .int .i64 r.1 ∧ L = [star (AA r.2.1) (box g4 3 [.int .i64 r.2.2])])) := by
  unfold sort_medianAdjacent_func at hm
  refine Calls.enter1 hA [.agg #[.func (.func gl) #[] lb, .func (.func gs) #[] sb], .int .i64 a2, pt g4 0] Try.func59 rfl Try.ntmps59 rfl ?_
  refine WJ.unstar ?_
  refine WJ.seq ?_
  refine WJ.reg ?_
  refine SJ.box (cs := [.func (.func gl) #[] lb, .func (.func gs) #[] sb]) rfl rfl rfl fun g5 => ?_
  refine SJ.q (YldS.yld (y_assign rfl)) rfl ?_
  refine SJ.nil ?_
  refine PJ.next ?_
  refine WJ.seq ?_
  refine WJ.reg ?_
  refine SJ.q (YldS.yld (y_loadBN (k := 0) (off := 0) (us := [.func (.func gl) #[] lb, .func (.func gs) #[] sb]) rfl Try.isAgg77 Try.sizeOf77 rfl rfl)) rfl ?_
  refine SJ.q (YldS.yld (y_move rfl)) rfl ?_
  refine SJ.q (YldS.yld (y_bin rfl rfl rfl)) rfl ?_
  refine SJ.q (YldS.yld (y_move rfl)) rfl ?_
  refine SJ.q (YldS.yld (y_move rfl)) rfl ?_
  refine SJ.q (YldS.yld (y_bin rfl rfl rfl)) rfl ?_
  refine SJ.q (YldS.yld (y_move rfl)) rfl ?_
  refine SJ.sel (L' := [AA xs1, box g4 3 [.int .i64 swaps3], box g5 77 [.func (.func gl) #[] lb, .func (.func gs) #[] sb]]) [1, 2, 0] ⟨by decide, rfl⟩ ?_
  refine SJ.star ?_
  obtain ⟨r6, h7, hm⟩ := bindS hm
  refine SJ.call1 (k := 0) rfl Try.call60 rfl (fun w S hw hA hO => ok_sort_median_func h7 w S hS hA) rfl ?_
  rintro _ _ ⟨rfl, rfl⟩
  refine SJ.unstar ?_
  refine SJ.q (YldS.yld (y_assign rfl)) rfl ?_
  refine SJ.nil ?_
  refine PJ.next ?_
  refine WJ.ret ?_
  obtain rfl := Option.some.inj hm
  refine PJ.sel (L' := [AA r6.2.1, box g4 3 [.int .i64 r6.2.2]]) [0, 1] ⟨by decide, rfl⟩ ?_
  refine PJ.star ?_
  exact PJ.retn (vs := [.int .i64 r6.1]) Try.results59 ⟨rfl, trivial⟩ ⟨rfl, rfl⟩

end Go.Proofs.Ythifimjkndpmpaa
