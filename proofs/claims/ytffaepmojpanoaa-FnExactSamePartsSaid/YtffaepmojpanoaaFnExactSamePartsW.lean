/-
  The walks: a call hands back what its plain function computes, where that has a value. No other conditions.
-/
import Derived.Test.YtffaepmojpanoaaFnExactSamePartsM
import Derived.Test.YtffaepmojpanoaaChecked
namespace Go.Proofs.Ytffaepmojpanoaa
open Go.RowKit Go.Proofs
set_option linter.unusedVariables false
set_option linter.unusedSimpArgs false

theorem follows : Try.prog.follows .mixedOrders = true := by kernel_rfl

def SparePart.enc (x : SparePart) : List Value := [str x.name, .int .i64 x.stock, .int .i64 x.target, .int .i64 x.days, .int .i64 x.instead]
def fSparePart : FRp SparePart := ⟨5, SparePart.enc, fun _ => rfl, by decide, fun x u hu => by
  simp only [SparePart.enc, List.mem_cons, List.not_mem_nil, or_false] at hu
  rcases hu with rfl | rfl | rfl | rfl | rfl <;> rfl⟩

theorem fld53_0 : FieldOk Try.prog 53 0 0 9 0 := ⟨_, _, Try.runUnderlying53, rfl, rfl, rfl, Try.sizeOf9⟩
theorem el51 : ElemOk Try.prog 51 5 (fSparePart.enc (SparePart.mk [] 0 0 0 0)) := ⟨_, _, Try.type51, rfl, rfl, rfl, by decide⟩
theorem fld51_0 : FieldOk Try.prog 51 0 0 9 0 := ⟨_, _, Try.runUnderlying51, rfl, rfl, rfl, Try.sizeOf9⟩
theorem fld53_1 : FieldOk Try.prog 53 1 1 2 0 := ⟨_, _, Try.runUnderlying53, rfl, rfl, rfl, Try.sizeOf2⟩
theorem fld51_1 : FieldOk Try.prog 51 1 1 2 0 := ⟨_, _, Try.runUnderlying51, rfl, rfl, rfl, Try.sizeOf2⟩
theorem fld53_2 : FieldOk Try.prog 53 2 2 2 0 := ⟨_, _, Try.runUnderlying53, rfl, rfl, rfl, Try.sizeOf2⟩
theorem fld51_2 : FieldOk Try.prog 51 2 2 2 0 := ⟨_, _, Try.runUnderlying51, rfl, rfl, rfl, Try.sizeOf2⟩
theorem fld53_3 : FieldOk Try.prog 53 3 3 2 0 := ⟨_, _, Try.runUnderlying53, rfl, rfl, rfl, Try.sizeOf2⟩
theorem fld51_3 : FieldOk Try.prog 51 3 3 2 0 := ⟨_, _, Try.runUnderlying51, rfl, rfl, rfl, Try.sizeOf2⟩
theorem fld53_4 : FieldOk Try.prog 53 4 4 2 0 := ⟨_, _, Try.runUnderlying53, rfl, rfl, rfl, Try.sizeOf2⟩
theorem fld51_4 : FieldOk Try.prog 51 4 4 2 0 := ⟨_, _, Try.runUnderlying51, rfl, rfl, rfl, Try.sizeOf2⟩
theorem eq51 : EqOk Try.prog 51 SparePart.enc SparePart.beq := ⟨Try.eqGuardType51, fun x y w => by
  have hf : Try.prog.fieldsOf 51 = #[{ name := "Name", type := 9, offset := 0, embedded := false, tag := "", pkgPath := "", byteOffset := 0 }, { name := "Stock", type := 2, offset := 1, embedded := false, tag := "", pkgPath := "", byteOffset := 16 }, { name := "Target", type := 2, offset := 2, embedded := false, tag := "", pkgPath := "", byteOffset := 24 }, { name := "Days", type := 2, offset := 3, embedded := false, tag := "", pkgPath := "", byteOffset := 32 }, { name := "Instead", type := 2, offset := 4, embedded := false, tag := "", pkgPath := "", byteOffset := 40 }] := by kernel_rfl
  have ht : Try.prog.underlying 51 = some (.struct (Try.prog.fieldsOf 51)) := by rw [hf]; exact Try.underlying51
  rw [run_equalIn_struct w 9999 51 _ _ ht Try.stoodInHeld51, hf]
  obtain ⟨a0, a1, a2, a3, a4⟩ := x
  obtain ⟨b0, b1, b2, b3, b4⟩ := y
  simp only [Op.eqFields, SparePart.enc, SparePart.beq]
  simp [part, str, Try.isAgg2, Try.isAgg9, run_equalIn_int _ _ _ _ _ _ _ Try.underlying2, run_equalIn_string _ _ _ _ _ Try.underlying9, ByteArray.toList_eq]
  (repeat' split) <;> simp_all⟩
theorem open53 : Opens Try.prog 53 fSparePart.rp wfSparePart := fun {H enc w sp held fuel cs x} h => by
  obtain ⟨hl, n, hf⟩ := opens_fields Try.underlying53 h
  have hl : cs.length = 5 := by rw [hl]; kernel_rfl
  obtain ⟨y0, hy0⟩ := hf _ (List.mem_of_getElem? (i := 0) rfl)
  obtain ⟨z0, hz0, hw0⟩ := (opens_str Try.underlying9) hy0
  obtain ⟨y1, hy1⟩ := hf _ (List.mem_of_getElem? (i := 1) rfl)
  obtain ⟨z1, hz1, hw1⟩ := (opens_i64 Try.underlying2) hy1
  obtain ⟨y2, hy2⟩ := hf _ (List.mem_of_getElem? (i := 2) rfl)
  obtain ⟨z2, hz2, hw2⟩ := (opens_i64 Try.underlying2) hy2
  obtain ⟨y3, hy3⟩ := hf _ (List.mem_of_getElem? (i := 3) rfl)
  obtain ⟨z3, hz3, hw3⟩ := (opens_i64 Try.underlying2) hy3
  obtain ⟨y4, hy4⟩ := hf _ (List.mem_of_getElem? (i := 4) rfl)
  obtain ⟨z4, hz4, hw4⟩ := (opens_i64 Try.underlying2) hy4
  match cs, hl with
  | [c0, c1, c2, c3, c4], _ =>
  have e0 : [c0] = fStr.enc z0 := hz0
  have e1 : [c1] = fI64.enc z1 := hz1
  have e2 : [c2] = fI64.enc z2 := hz2
  have e3 : [c3] = fI64.enc z3 := hz3
  have e4 : [c4] = fI64.enc z4 := hz4
  refine ⟨⟨z0, z1, z2, z3, z4⟩, ?_, ⟨hw0, hw1, hw2, hw3, hw4⟩⟩
  show [c0, c1, c2, c3, c4] = SparePart.enc _
  simp only [fStr, List.cons.injEq, and_true] at e0
  simp only [fI64, List.cons.injEq, and_true] at e1
  simp only [fI64, List.cons.injEq, and_true] at e2
  simp only [fI64, List.cons.injEq, and_true] at e3
  simp only [fI64, List.cons.injEq, and_true] at e4
  rw [e0, e1, e2, e3, e4]
  rfl


set_option maxRecDepth 100000 in
set_option maxHeartbeats 1000000 in
theorem ok_w_szSparePart {a1 : SparePart} {left2 : Int} {r : Int} (hm : w_szSparePart a1 left2 = some r) (w : World)  :
    Calls Try.prog 46 #[.agg (SparePart.enc a1).toArray, .int .i64 left2] w (Ret (cx w) (.int .i64 r)) := by
  unfold w_szSparePart at hm
  refine Calls.enter [.agg (SparePart.enc a1).toArray, .int .i64 left2] Try.func46 rfl Try.ntmps46 rfl ?_
  refine WJ.seq ?_
  refine WJ.reg ?_
  refine SJ.box (cs := [str a1.name, .int .i64 a1.stock, .int .i64 a1.target, .int .i64 a1.days, .int .i64 a1.instead]) rfl rfl rfl fun g3 => ?_
  refine SJ.q (y_assign rfl) rfl ?_
  refine SJ.nil ?_
  refine PJ.next ?_
  refine WJ.seq ?_
  refine WJ.quiet ?_
  refine QJ.step (y_move rfl) rfl ?_
  refine QJ.step (y_fldB (o := 0) fld53_0 rfl) rfl ?_
  refine QJ.step (y_loadB (k := 0) (off := 0) (v := str a1.name) rfl Try.isAgg9 rfl rfl) rfl ?_
  refine QJ.step (y_lenStr Try.runUnderlying9 rfl) rfl ?_
  refine QJ.step (y_bin rfl rfl rfl) rfl ?_
  refine QJ.step (y_assign rfl) rfl ?_
  refine QJ.done ?_
  refine PJ.next ?_
  refine WJ.seq ?_
  refine WJ.seq ?_
  refine WJ.quiet ?_
  refine QJ.step (y_move rfl) rfl ?_
  refine QJ.step (y_bin rfl rfl rfl) rfl ?_
  refine QJ.done ?_
  refine PJ.next ?_
  refine WJ.cond (t := decide ((w64 (left2 - (List.length a1.name : Int))) < 0)) rfl (fun hb4 => ?_) (fun hb4 => ?_)
  · replace hm := ifT hm hb4
    refine WJ.seq ?_
    refine WJ.quiet ?_
    refine QJ.step (y_assign rfl) rfl ?_
    refine QJ.done ?_
    refine PJ.next ?_
    refine WJ.ret ?_
    refine PJ.then_ret ?_
    obtain rfl := Option.some.inj hm
    refine PJ.sel (L' := []) [] ⟨List.nodup_nil, rfl⟩ ?_
    exact PJ.retn (vs := [.int .i64 (-1)]) Try.results46 ⟨rfl, trivial⟩ ⟨rfl, rfl⟩
  · replace hm := ifF hm hb4
    refine WJ.skip ?_
    refine PJ.next ?_
    refine WJ.seq ?_
    refine WJ.quiet ?_
    refine QJ.step (y_move rfl) rfl ?_
    refine QJ.step (y_assign rfl) rfl ?_
    refine QJ.done ?_
    refine PJ.next ?_
    refine WJ.ret ?_
    obtain rfl := Option.some.inj hm
    refine PJ.sel (L' := []) [] ⟨List.nodup_nil, rfl⟩ ?_
    exact PJ.retn (vs := [.int .i64 (w64 (left2 - (List.length a1.name : Int)))]) Try.results46 ⟨rfl, trivial⟩ ⟨rfl, rfl⟩

set_option maxRecDepth 100000 in
set_option maxHeartbeats 1000000 in
theorem ok_w_szSparePartS {N : Nat} {a1 : List SparePart} {left4 : Int} {r : Int} (hm : w_szSparePartS N a1 left4 = some r) (w : World) (v2 : Value) (hr3 : RdS w (cx w).Fz v2 fSparePart.rp a1) :
    Calls Try.prog 13 #[v2, .int .i64 left4] w (Ret (cx w) (.int .i64 r)) := by
  unfold w_szSparePartS at hm
  refine Calls.enter [v2, .int .i64 left4] Try.func13 rfl Try.ntmps13 rfl ?_
  refine WJ.seq ?_
  refine WJ.quiet ?_
  refine QJ.step (y_assign rfl) rfl ?_
  refine QJ.done ?_
  refine PJ.next ?_
  refine WJ.seq ?_
  refine WJ.quiet ?_
  refine QJ.step (y_move rfl) rfl ?_
  refine QJ.step (y_move rfl) rfl ?_
  refine QJ.step (y_lenS Try.runUnderlying22 hr3 rfl) rfl ?_
  refine QJ.step (y_bin rfl rfl rfl) rfl ?_
  refine QJ.step (y_assign rfl) rfl ?_
  refine QJ.done ?_
  refine PJ.next ?_
  refine WJ.seq ?_
  refine WJ.seq ?_
  refine WJ.quiet ?_
  refine QJ.step (y_move rfl) rfl ?_
  refine QJ.step (y_bin rfl rfl rfl) rfl ?_
  refine QJ.done ?_
  refine PJ.next ?_
  refine WJ.cond (t := decide ((w64 (left4 - (List.length a1 : Int))) < 0)) rfl (fun hb5 => ?_) (fun hb5 => ?_)
  · replace hm := ifT hm hb5
    refine WJ.seq ?_
    refine WJ.quiet ?_
    refine QJ.step (y_assign rfl) rfl ?_
    refine QJ.done ?_
    refine PJ.next ?_
    refine WJ.ret ?_
    refine PJ.then_ret ?_
    obtain rfl := Option.some.inj hm
    refine PJ.sel (L' := []) [] ⟨List.nodup_nil, rfl⟩ ?_
    exact PJ.retn (vs := [.int .i64 (-1)]) Try.results13 ⟨rfl, trivial⟩ ⟨rfl, rfl⟩
  · replace hm := ifF hm hb5
    refine WJ.skip ?_
    refine PJ.next ?_
    obtain ⟨k7, hk8, hm⟩ := withK_open hm
    refine WJ.join (X := Int) (fun (x : Int) => k7 x = some r) (fun (x : Int) => [(1, .int .i64 x)]) (fun (x : Int) => []) ?_ ?_
    · clear hk8
      refine WJ.seq ?_
      refine WJ.quiet ?_
      refine QJ.step (y_assign rfl) rfl ?_
      refine QJ.done ?_
      refine PJ.next ?_
      refine WJ.block ?_
      refine WJ.sel (L' := (fun (x : Int × Int) => []) (w64 (left4 - (List.length a1 : Int)), 0)) [] ⟨List.nodup_nil, rfl⟩ ?_
      refine WJ.sub (m' := (fun (x : Int × Int) => [(0, v2), (1, .int .i64 x.1), (5, .int .i64 x.2)]) (w64 (left4 - (List.length a1 : Int)), 0)) ⟨rfl, rfl, rfl, trivial⟩ ?_
      refine WJ.loop (X := Int × Int) (fun N (x : Int × Int) => w_szSparePartS_l1 k7 a1 N x.1 x.2 = some r) (fun (x : Int × Int) => [(0, v2), (1, .int .i64 x.1), (5, .int .i64 x.2)]) (fun (x : Int × Int) => []) ?_ N (w64 (left4 - (List.length a1 : Int)), 0) hm
      · rintro N ⟨left9, i10⟩ hI
        have hm := hI; clear hI
        cases N with
        | zero => cases hm
        | succ N =>
        unfold w_szSparePartS_l1 at hm
        refine WJ.seq ?_
        refine WJ.seq ?_
        refine WJ.quiet ?_
        refine QJ.step (y_move rfl) rfl ?_
        refine QJ.step (y_move rfl) rfl ?_
        refine QJ.step (y_lenS Try.runUnderlying22 hr3 rfl) rfl ?_
        refine QJ.step (y_bin rfl rfl rfl) rfl ?_
        refine QJ.done ?_
        refine PJ.next ?_
        refine WJ.cond (t := decide (i10 < (List.length a1 : Int))) rfl (fun hb11 => ?_) (fun hb11 => ?_)
        · replace hm := ifT hm hb11
          refine WJ.skip ?_
          refine PJ.next ?_
          refine WJ.seq ?_
          refine WJ.block ?_
          refine WJ.seq ?_
          refine WJ.quiet ?_
          refine QJ.step (y_move rfl) rfl ?_
          refine QJ.step (y_move rfl) rfl ?_
          obtain ⟨e12, h13, hm⟩ := bindS hm
          obtain ⟨ad14, _, rfl, ha15, hy16⟩ := hr3.elem h13
          refine QJ.step (hy16 Try.runUnderlying22 Try.sizeOf53 rfl rfl) rfl ?_
          refine QJ.step (y_loadN Try.isAgg53 Try.sizeOf53 rfl ha15 St.frozenC rfl) rfl ?_
          refine QJ.step (y_move rfl) rfl ?_
          obtain ⟨r17, h18, hm⟩ := bindS hm
          refine QJ.step (y_call Try.call46 rfl (RetG.quiet fun w hw => ok_w_szSparePart h18 w )) rfl ?_
          refine QJ.step (y_assign rfl) rfl ?_
          refine QJ.done ?_
          refine PJ.next ?_
          refine WJ.seq ?_
          refine WJ.quiet ?_
          refine QJ.step (y_move rfl) rfl ?_
          refine QJ.step (y_bin rfl rfl rfl) rfl ?_
          refine QJ.done ?_
          refine PJ.next ?_
          refine WJ.cond (t := decide (r17 < 0)) rfl (fun hb19 => ?_) (fun hb19 => ?_)
          · replace hm := ifT hm hb19
            refine WJ.seq ?_
            refine WJ.quiet ?_
            refine QJ.step (y_assign rfl) rfl ?_
            refine QJ.done ?_
            refine PJ.next ?_
            refine WJ.ret ?_
            refine PJ.block_ret (PJ.then_ret (PJ.then_ret (PJ.block_ret (PJ.then_ret ?_))))
            obtain rfl := Option.some.inj hm
            refine PJ.sel (L' := []) [] ⟨List.nodup_nil, rfl⟩ ?_
            exact PJ.retn (vs := [.int .i64 (-1)]) Try.results13 ⟨rfl, trivial⟩ ⟨rfl, rfl⟩
          · replace hm := ifF hm hb19
            refine WJ.skip ?_
            refine PJ.block_normal (PJ.next ?_)
            refine WJ.quiet ?_
            refine QJ.step (y_move rfl) rfl ?_
            refine QJ.step (y_bin rfl rfl rfl) rfl ?_
            refine QJ.step (y_assign rfl) rfl ?_
            refine QJ.done ?_
            exact PJ.round (r17, w64 (i10 + 1)) [] hm ⟨rfl, rfl, rfl, trivial⟩ ⟨List.nodup_nil, rfl⟩
        · replace hm := ifF hm hb11
          refine WJ.exit ?_
          refine PJ.then_exit (PJ.then_exit (PJ.block_exit ?_))
          exact PJ.joined left9 [] hm ⟨rfl, trivial⟩ ⟨List.nodup_nil, rfl⟩
    · rintro left6 hm
      subst hk8
      refine WJ.seq ?_
      refine WJ.quiet ?_
      refine QJ.step (y_move rfl) rfl ?_
      refine QJ.step (y_assign rfl) rfl ?_
      refine QJ.done ?_
      refine PJ.next ?_
      refine WJ.ret ?_
      obtain rfl := Option.some.inj hm
      refine PJ.sel (L' := []) [] ⟨List.nodup_nil, rfl⟩ ?_
      exact PJ.retn (vs := [.int .i64 left6]) Try.results13 ⟨rfl, trivial⟩ ⟨rfl, rfl⟩

set_option maxRecDepth 100000 in
set_option maxHeartbeats 1000000 in
theorem ok_w_toSparePart {a1 : SparePart} {r : SparePart} (hm : w_toSparePart a1 = some r) (w : World)  :
    Calls Try.prog 47 #[.agg (SparePart.enc a1).toArray] w (Ret (cx w) (.agg (SparePart.enc r).toArray)) := by
  unfold w_toSparePart at hm
  refine Calls.enter [.agg (SparePart.enc a1).toArray] Try.func47 rfl Try.ntmps47 rfl ?_
  refine WJ.seq ?_
  refine WJ.reg ?_
  refine SJ.box (cs := [str a1.name, .int .i64 a1.stock, .int .i64 a1.target, .int .i64 a1.days, .int .i64 a1.instead]) rfl rfl rfl fun g2 => ?_
  refine SJ.alloc (cs := [str [], .int .i64 0, .int .i64 0, .int .i64 0, .int .i64 0]) Try.zeroValue51 rfl rfl fun g3 => ?_
  refine SJ.nil ?_
  refine PJ.next ?_
  refine WJ.seq ?_
  refine WJ.reg ?_
  refine SJ.alloc (cs := [str [], .int .i64 0, .int .i64 0, .int .i64 0, .int .i64 0]) Try.zeroValue51 rfl rfl fun g4 => ?_
  refine SJ.nil ?_
  refine PJ.next ?_
  refine WJ.seq ?_
  refine WJ.reg ?_
  refine SJ.q (y_fldB (o := 0) fld53_0 rfl) rfl ?_
  refine SJ.q (y_loadB (k := 2) (off := 0) (v := str a1.name) rfl Try.isAgg9 rfl rfl) rfl ?_
  refine SJ.q (y_fldB (o := 0) fld51_0 rfl) rfl ?_
  refine SJ.storeL (k := 0) (off := 0) (us := [str a1.name]) rfl rfl rfl rfl Try.sizeOf9 rfl rfl ?_
  refine SJ.nil ?_
  refine PJ.next ?_
  refine WJ.seq ?_
  refine WJ.reg ?_
  refine SJ.q (y_fldB (o := 0) fld53_1 rfl) rfl ?_
  refine SJ.q (y_loadB (k := 2) (off := 1) (v := .int .i64 a1.stock) rfl Try.isAgg2 rfl rfl) rfl ?_
  refine SJ.q (y_fldB (o := 0) fld51_1 rfl) rfl ?_
  refine SJ.storeL (k := 0) (off := 1) (us := [.int .i64 a1.stock]) rfl rfl rfl rfl Try.sizeOf2 rfl rfl ?_
  refine SJ.nil ?_
  refine PJ.next ?_
  refine WJ.seq ?_
  refine WJ.reg ?_
  refine SJ.q (y_fldB (o := 0) fld53_2 rfl) rfl ?_
  refine SJ.q (y_loadB (k := 2) (off := 2) (v := .int .i64 a1.target) rfl Try.isAgg2 rfl rfl) rfl ?_
  refine SJ.q (y_fldB (o := 0) fld51_2 rfl) rfl ?_
  refine SJ.storeL (k := 0) (off := 2) (us := [.int .i64 a1.target]) rfl rfl rfl rfl Try.sizeOf2 rfl rfl ?_
  refine SJ.nil ?_
  refine PJ.next ?_
  refine WJ.seq ?_
  refine WJ.reg ?_
  refine SJ.q (y_fldB (o := 0) fld53_3 rfl) rfl ?_
  refine SJ.q (y_loadB (k := 2) (off := 3) (v := .int .i64 a1.days) rfl Try.isAgg2 rfl rfl) rfl ?_
  refine SJ.q (y_fldB (o := 0) fld51_3 rfl) rfl ?_
  refine SJ.storeL (k := 0) (off := 3) (us := [.int .i64 a1.days]) rfl rfl rfl rfl Try.sizeOf2 rfl rfl ?_
  refine SJ.nil ?_
  refine PJ.next ?_
  refine WJ.seq ?_
  refine WJ.reg ?_
  refine SJ.q (y_fldB (o := 0) fld53_4 rfl) rfl ?_
  refine SJ.q (y_loadB (k := 2) (off := 4) (v := .int .i64 a1.instead) rfl Try.isAgg2 rfl rfl) rfl ?_
  refine SJ.q (y_fldB (o := 0) fld51_4 rfl) rfl ?_
  refine SJ.storeL (k := 0) (off := 4) (us := [.int .i64 a1.instead]) rfl rfl rfl rfl Try.sizeOf2 rfl rfl ?_
  refine SJ.nil ?_
  refine PJ.next ?_
  refine WJ.seq ?_
  refine WJ.reg ?_
  refine SJ.q (y_loadBN (k := 0) (off := 0) (us := [str a1.name, .int .i64 a1.stock, .int .i64 a1.target, .int .i64 a1.days, .int .i64 a1.instead]) rfl Try.isAgg51 Try.sizeOf51 rfl rfl) rfl ?_
  refine SJ.storeL (k := 1) (off := 0) (us := [str a1.name, .int .i64 a1.stock, .int .i64 a1.target, .int .i64 a1.days, .int .i64 a1.instead]) rfl rfl rfl rfl Try.sizeOf51 rfl rfl ?_
  refine SJ.nil ?_
  refine PJ.next ?_
  refine WJ.ret ?_
  obtain rfl := Option.some.inj hm
  exact PJ.retn_sel (vs := [.agg #[str a1.name, .int .i64 a1.stock, .int .i64 a1.target, .int .i64 a1.days, .int .i64 a1.instead]]) Try.results47 ⟨⟨1, g3, 51, [str a1.name, .int .i64 a1.stock, .int .i64 a1.target, .int .i64 a1.days, .int .i64 a1.instead], rfl, rfl, .inl ⟨Try.isAgg51, Try.sizeOf51, rfl⟩⟩, trivial⟩ [] ⟨List.nodup_nil, rfl⟩ ⟨rfl, rfl⟩

set_option maxRecDepth 100000 in
set_option maxHeartbeats 1000000 in
theorem ok_w_toSparePartS {N : Nat} {a1 : List SparePart} {r : (List SparePart)} (hm : w_toSparePartS N a1 = some r) (w : World) (v2 : Value) (hr3 : RdS w (cx w).Fz v2 fSparePart.rp a1) :
    Calls Try.prog 15 #[v2] w (RetG (cx w) fun u L => ∃ (u1 : Value), (u = u1 ∧ L = [row u1 51 fSparePart r])) := by
  unfold w_toSparePartS at hm
  refine Calls.enter [v2] Try.func15 rfl Try.ntmps15 rfl ?_
  refine WJ.seq ?_
  refine WJ.quiet ?_
  refine QJ.step (y_assign rfl) rfl ?_
  refine QJ.done ?_
  refine PJ.next ?_
  refine WJ.seq ?_
  refine WJ.reg ?_
  refine SJ.q (y_move rfl) rfl ?_
  refine SJ.q (y_lenS Try.runUnderlying22 hr3 rfl) rfl ?_
  obtain ⟨l4, h5, hm⟩ := bindS hm
  refine SJ.makeSlice (R := fSparePart) (z := (SparePart.mk [] 0 0 0 0)) h5 Try.underlying25 el51 rfl rfl rfl fun v6 => ?_
  refine SJ.q (y_assign rfl) rfl ?_
  refine SJ.nil ?_
  refine PJ.next ?_
  obtain ⟨k8, hk9, hm⟩ := withK_open hm
  refine WJ.join (X := (List SparePart)) (fun (x : (List SparePart)) => k8 x = some r) (fun (x : (List SparePart)) => [(3, v6)]) (fun (x : (List SparePart)) => [row v6 51 fSparePart x]) ?_ ?_
  · clear hk9
    refine WJ.seq ?_
    refine WJ.quiet ?_
    refine QJ.step (y_assign rfl) rfl ?_
    refine QJ.done ?_
    refine PJ.next ?_
    refine WJ.block ?_
    refine WJ.sel (L' := (fun (x : (List SparePart) × Int) => [row v6 51 fSparePart x.1]) (l4, 0)) [0] ⟨by decide, rfl⟩ ?_
    refine WJ.sub (m' := (fun (x : (List SparePart) × Int) => [(0, v2), (3, v6), (4, .int .i64 x.2)]) (l4, 0)) ⟨rfl, rfl, rfl, trivial⟩ ?_
    refine WJ.loop (X := (List SparePart) × Int) (fun N (x : (List SparePart) × Int) => w_toSparePartS_l1 k8 a1 N x.1 x.2 = some r) (fun (x : (List SparePart) × Int) => [(0, v2), (3, v6), (4, .int .i64 x.2)]) (fun (x : (List SparePart) × Int) => [row v6 51 fSparePart x.1]) ?_ N (l4, 0) hm
    · rintro N ⟨l10, i11⟩ hI
      have hm := hI; clear hI
      cases N with
      | zero => cases hm
      | succ N =>
      unfold w_toSparePartS_l1 at hm
      refine WJ.seq ?_
      refine WJ.seq ?_
      refine WJ.quiet ?_
      refine QJ.step (y_move rfl) rfl ?_
      refine QJ.step (y_move rfl) rfl ?_
      refine QJ.step (y_lenS Try.runUnderlying22 hr3 rfl) rfl ?_
      refine QJ.step (y_bin rfl rfl rfl) rfl ?_
      refine QJ.done ?_
      refine PJ.next ?_
      refine WJ.cond (t := decide (i11 < (List.length a1 : Int))) rfl (fun hb12 => ?_) (fun hb12 => ?_)
      · replace hm := ifT hm hb12
        refine WJ.skip ?_
        refine PJ.next ?_
        refine WJ.seq ?_
        refine WJ.block ?_
        refine WJ.reg ?_
        refine SJ.q (y_move rfl) rfl ?_
        refine SJ.q (y_move rfl) rfl ?_
        refine SJ.q (y_move rfl) rfl ?_
        refine SJ.q (y_move rfl) rfl ?_
        obtain ⟨e13, h14, hm⟩ := bindS hm
        obtain ⟨ad15, _, rfl, ha16, hy17⟩ := hr3.elem h14
        refine SJ.q (hy17 Try.runUnderlying22 Try.sizeOf53 rfl rfl) rfl ?_
        refine SJ.q (y_loadN Try.isAgg53 Try.sizeOf53 rfl ha16 St.frozenC rfl) rfl ?_
        obtain ⟨r18, h19, hm⟩ := bindS hm
        refine SJ.q (y_call Try.call47 rfl (RetG.quiet fun w hw => ok_w_toSparePart h19 w )) rfl ?_
        obtain ⟨e20, h21, hm⟩ := bindS hm
        refine SJ.q (y_ixRow (k := 0) (R := fSparePart) rfl Try.runUnderlying25 Try.sizeOf51 rfl rfl h21) rfl ?_
        refine SJ.storeRL (k := 0) (i := (Int.toNat i11)) (off := 0) (us := [str r18.name, .int .i64 r18.stock, .int .i64 r18.target, .int .i64 r18.days, .int .i64 r18.instead]) (b := r18) rfl rfl (idx_get h21) rfl rfl Try.sizeOf51 rfl rfl rfl ?_
        refine SJ.nil ?_
        refine PJ.block_normal (PJ.next ?_)
        refine WJ.quiet ?_
        refine QJ.step (y_move rfl) rfl ?_
        refine QJ.step (y_bin rfl rfl rfl) rfl ?_
        refine QJ.step (y_assign rfl) rfl ?_
        refine QJ.done ?_
        exact PJ.round ((List.set l10 (Int.toNat i11) r18), w64 (i11 + 1)) [0] hm ⟨rfl, rfl, rfl, trivial⟩ ⟨by decide, rfl⟩
      · replace hm := ifF hm hb12
        refine WJ.exit ?_
        refine PJ.then_exit (PJ.then_exit (PJ.block_exit ?_))
        exact PJ.joined l10 [0] hm ⟨rfl, trivial⟩ ⟨by decide, rfl⟩
  · rintro l7 hm
    subst hk9
    refine WJ.seq ?_
    refine WJ.quiet ?_
    refine QJ.step (y_move rfl) rfl ?_
    refine QJ.step (y_assign rfl) rfl ?_
    refine QJ.done ?_
    refine PJ.next ?_
    refine WJ.ret ?_
    obtain rfl := Option.some.inj hm
    refine PJ.sel (L' := [row v6 51 fSparePart l7]) [0] ⟨by decide, rfl⟩ ?_
    exact PJ.retn (vs := [v6]) Try.results15 ⟨rfl, trivial⟩ ⟨_, rfl, rfl⟩

set_option maxRecDepth 100000 in
set_option maxHeartbeats 1000000 in
theorem ok_s_SameParts {N : Nat} {a1 : List SparePart} {b4 : List SparePart} {r : Bool} (hm : s_SameParts N a1 b4 = some r) (w : World) (v2 : Value) (hr3 : RdS w (cx w).Fz v2 fSparePart.rp a1) (v5 : Value) (hr6 : RdS w (cx w).Fz v5 fSparePart.rp b4) :
    Calls Try.prog 14 #[v2, v5] w (Ret (cx w) (.bool r)) := by
  unfold s_SameParts at hm
  refine Calls.enter [v2, v5] Try.func14 rfl Try.ntmps14 rfl ?_
  refine WJ.seq ?_
  refine WJ.quiet ?_
  refine QJ.step (y_assign rfl) rfl ?_
  refine QJ.done ?_
  refine PJ.next ?_
  refine WJ.seq ?_
  refine WJ.seq ?_
  refine WJ.quiet ?_
  refine QJ.step (y_move rfl) rfl ?_
  refine QJ.step (y_lenS Try.runUnderlying25 hr3 rfl) rfl ?_
  refine QJ.step (y_move rfl) rfl ?_
  refine QJ.step (y_lenS Try.runUnderlying25 hr6 rfl) rfl ?_
  refine QJ.step (y_bin rfl rfl rfl) rfl ?_
  refine QJ.done ?_
  refine PJ.next ?_
  refine WJ.cond (t := ((List.length a1 : Int) != (List.length b4 : Int))) rfl (fun hb7 => ?_) (fun hb7 => ?_)
  · replace hm := ifT hm hb7
    refine WJ.seq ?_
    refine WJ.quiet ?_
    refine QJ.step (y_assign rfl) rfl ?_
    refine QJ.done ?_
    refine PJ.next ?_
    refine WJ.ret ?_
    refine PJ.then_ret ?_
    obtain rfl := Option.some.inj hm
    refine PJ.sel (L' := []) [] ⟨List.nodup_nil, rfl⟩ ?_
    exact PJ.retn (vs := [.bool false]) Try.results14 ⟨rfl, trivial⟩ ⟨rfl, rfl⟩
  · replace hm := ifF hm hb7
    refine WJ.skip ?_
    refine PJ.next ?_
    obtain ⟨k8, hk9, hm⟩ := withK_open hm
    refine WJ.join (X := Unit) (fun (_ : Unit) => k8  = some r) (fun (_ : Unit) => []) (fun (_ : Unit) => []) ?_ ?_
    · clear hk9
      refine WJ.seq ?_
      refine WJ.quiet ?_
      refine QJ.step (y_assign rfl) rfl ?_
      refine QJ.done ?_
      refine PJ.next ?_
      refine WJ.block ?_
      refine WJ.sel (L' := (fun (x : Int) => []) 0) [] ⟨List.nodup_nil, rfl⟩ ?_
      refine WJ.sub (m' := (fun (x : Int) => [(0, v2), (1, v5), (5, .int .i64 x)]) 0) ⟨rfl, rfl, rfl, trivial⟩ ?_
      refine WJ.loop (X := Int) (fun N (x : Int) => s_SameParts_l1 k8 a1 b4 N x = some r) (fun (x : Int) => [(0, v2), (1, v5), (5, .int .i64 x)]) (fun (x : Int) => []) ?_ N 0 hm
      · rintro N i10 hI
        have hm := hI; clear hI
        cases N with
        | zero => cases hm
        | succ N =>
        unfold s_SameParts_l1 at hm
        refine WJ.seq ?_
        refine WJ.seq ?_
        refine WJ.quiet ?_
        refine QJ.step (y_move rfl) rfl ?_
        refine QJ.step (y_move rfl) rfl ?_
        refine QJ.step (y_lenS Try.runUnderlying25 hr3 rfl) rfl ?_
        refine QJ.step (y_bin rfl rfl rfl) rfl ?_
        refine QJ.done ?_
        refine PJ.next ?_
        refine WJ.cond (t := decide (i10 < (List.length a1 : Int))) rfl (fun hb11 => ?_) (fun hb11 => ?_)
        · replace hm := ifT hm hb11
          refine WJ.skip ?_
          refine PJ.next ?_
          refine WJ.seq ?_
          refine WJ.block ?_
          refine WJ.seq ?_
          refine WJ.quiet_draw follows (by kernel_rfl) ?_
          refine QJ.step (y_move rfl) rfl ?_
          refine QJ.step (y_move rfl) rfl ?_
          obtain ⟨e12, h13, hm⟩ := bindS hm
          obtain ⟨ad14, _, rfl, ha15, hy16⟩ := hr3.elem h13
          refine QJ.step (hy16 Try.runUnderlying25 Try.sizeOf51 rfl rfl) rfl ?_
          refine QJ.step (y_loadN Try.isAgg51 Try.sizeOf51 rfl ha15 St.frozenC rfl) rfl ?_
          refine QJ.step (y_move rfl) rfl ?_
          refine QJ.step (y_move rfl) rfl ?_
          obtain ⟨e17, h18, hm⟩ := bindS hm
          obtain ⟨ad19, _, rfl, ha20, hy21⟩ := hr6.elem h18
          refine QJ.step (hy21 Try.runUnderlying25 Try.sizeOf51 rfl rfl) rfl ?_
          refine QJ.step (y_loadN Try.isAgg51 Try.sizeOf51 rfl ha20 St.frozenC rfl) rfl ?_
          refine QJ.step (y_neT e12 e17 eq51 rfl rfl) rfl ?_
          refine QJ.done ?_
          refine PJ.next ?_
          refine WJ.cond (t := !(SparePart.beq e12 e17)) rfl (fun hb22 => ?_) (fun hb22 => ?_)
          · replace hm := ifT hm hb22
            refine WJ.seq ?_
            refine WJ.quiet ?_
            refine QJ.step (y_assign rfl) rfl ?_
            refine QJ.done ?_
            refine PJ.next ?_
            refine WJ.ret ?_
            refine PJ.block_ret (PJ.then_ret (PJ.then_ret (PJ.block_ret (PJ.then_ret ?_))))
            obtain rfl := Option.some.inj hm
            refine PJ.sel (L' := []) [] ⟨List.nodup_nil, rfl⟩ ?_
            exact PJ.retn (vs := [.bool false]) Try.results14 ⟨rfl, trivial⟩ ⟨rfl, rfl⟩
          · replace hm := ifF hm hb22
            refine WJ.skip ?_
            refine PJ.block_normal (PJ.next ?_)
            refine WJ.quiet ?_
            refine QJ.step (y_move rfl) rfl ?_
            refine QJ.step (y_bin rfl rfl rfl) rfl ?_
            refine QJ.step (y_assign rfl) rfl ?_
            refine QJ.done ?_
            exact PJ.round (w64 (i10 + 1)) [] hm ⟨rfl, rfl, rfl, trivial⟩ ⟨List.nodup_nil, rfl⟩
        · replace hm := ifF hm hb11
          refine WJ.exit ?_
          refine PJ.then_exit (PJ.then_exit (PJ.block_exit ?_))
          exact PJ.joined () [] hm trivial ⟨List.nodup_nil, rfl⟩
    · rintro _ hm
      subst hk9
      refine WJ.seq ?_
      refine WJ.quiet ?_
      refine QJ.step (y_assign rfl) rfl ?_
      refine QJ.done ?_
      refine PJ.next ?_
      refine WJ.ret ?_
      obtain rfl := Option.some.inj hm
      refine PJ.sel (L' := []) [] ⟨List.nodup_nil, rfl⟩ ?_
      exact PJ.retn (vs := [.bool true]) Try.results14 ⟨rfl, trivial⟩ ⟨rfl, rfl⟩

set_option maxRecDepth 100000 in
set_option maxHeartbeats 1000000 in
theorem ok_i_SameParts {N : Nat} {a1 : List SparePart} {b4 : List SparePart} {r : Bool} (hm : i_SameParts N a1 b4 = some r) (w : World) (v2 : Value) (hr3 : RdS w (cx w).Fz v2 fSparePart.rp a1) (v5 : Value) (hr6 : RdS w (cx w).Fz v5 fSparePart.rp b4) :
    Calls Try.prog 16 #[v2, v5] w (Ret (cx w) (.bool r)) := by
  unfold i_SameParts at hm
  refine Calls.enter [v2, v5] Try.func16 rfl Try.ntmps16 rfl ?_
  refine WJ.seq ?_
  refine WJ.quiet ?_
  refine QJ.step (y_assign rfl) rfl ?_
  refine QJ.done ?_
  refine PJ.next ?_
  refine WJ.seq ?_
  refine WJ.seq ?_
  refine WJ.quiet ?_
  refine QJ.step (y_move rfl) rfl ?_
  refine QJ.step (y_lenS Try.runUnderlying25 hr3 rfl) rfl ?_
  refine QJ.step (y_move rfl) rfl ?_
  refine QJ.step (y_lenS Try.runUnderlying25 hr6 rfl) rfl ?_
  refine QJ.step (y_bin rfl rfl rfl) rfl ?_
  refine QJ.done ?_
  refine PJ.next ?_
  refine WJ.cond (t := ((List.length a1 : Int) != (List.length b4 : Int))) rfl (fun hb7 => ?_) (fun hb7 => ?_)
  · replace hm := ifT hm hb7
    refine WJ.seq ?_
    refine WJ.quiet ?_
    refine QJ.step (y_assign rfl) rfl ?_
    refine QJ.done ?_
    refine PJ.next ?_
    refine WJ.ret ?_
    refine PJ.then_ret ?_
    obtain rfl := Option.some.inj hm
    refine PJ.sel (L' := []) [] ⟨List.nodup_nil, rfl⟩ ?_
    exact PJ.retn (vs := [.bool false]) Try.results16 ⟨rfl, trivial⟩ ⟨rfl, rfl⟩
  · replace hm := ifF hm hb7
    refine WJ.skip ?_
    refine PJ.next ?_
    obtain ⟨k8, hk9, hm⟩ := withK_open hm
    refine WJ.join (X := Unit) (fun (_ : Unit) => k8  = some r) (fun (_ : Unit) => []) (fun (_ : Unit) => []) ?_ ?_
    · clear hk9
      refine WJ.seq ?_
      refine WJ.quiet ?_
      refine QJ.step (y_move rfl) rfl ?_
      refine QJ.step (y_lenS Try.runUnderlying25 hr3 rfl) rfl ?_
      refine QJ.step (y_move rfl) rfl ?_
      refine QJ.done ?_
      refine PJ.next ?_
      refine WJ.block ?_
      refine WJ.sel (L' := (fun (x : Int) => []) 0) [] ⟨List.nodup_nil, rfl⟩ ?_
      refine WJ.sub (m' := (fun (x : Int) => [(0, v2), (1, v5), (12, .int .i64 (List.length a1 : Int)), (13, .int .i64 x)]) 0) ⟨rfl, rfl, rfl, rfl, trivial⟩ ?_
      refine WJ.loop (X := Int) (fun N (x : Int) => i_SameParts_l1 k8 a1 b4 N x = some r) (fun (x : Int) => [(0, v2), (1, v5), (12, .int .i64 (List.length a1 : Int)), (13, .int .i64 x)]) (fun (x : Int) => []) ?_ N 0 hm
      · rintro N x10 hI
        have hm := hI; clear hI
        cases N with
        | zero => cases hm
        | succ N =>
        unfold i_SameParts_l1 at hm
        refine WJ.seq ?_
        refine WJ.quiet ?_
        refine QJ.step (y_bin rfl rfl rfl) rfl ?_
        refine QJ.done ?_
        refine PJ.next ?_
        refine WJ.seq ?_
        refine WJ.cond (t := decide (x10 < (List.length a1 : Int))) rfl (fun hb11 => ?_) (fun hb11 => ?_)
        · replace hm := ifT hm hb11
          refine WJ.skip ?_
          refine PJ.next ?_
          refine WJ.seq ?_
          refine WJ.block ?_
          refine WJ.seq ?_
          refine WJ.quiet ?_
          refine QJ.step (y_move rfl) rfl ?_
          refine QJ.step (y_assign rfl) rfl ?_
          refine QJ.done ?_
          refine PJ.next ?_
          refine WJ.seq ?_
          refine WJ.quiet_draw follows (by kernel_rfl) ?_
          refine QJ.step (y_move rfl) rfl ?_
          refine QJ.step (y_move rfl) rfl ?_
          obtain ⟨e12, h13, hm⟩ := bindS hm
          obtain ⟨ad14, _, rfl, ha15, hy16⟩ := hr3.elem h13
          refine QJ.step (hy16 Try.runUnderlying25 Try.sizeOf51 rfl rfl) rfl ?_
          refine QJ.step (y_loadN Try.isAgg51 Try.sizeOf51 rfl ha15 St.frozenC rfl) rfl ?_
          refine QJ.step (y_move rfl) rfl ?_
          refine QJ.step (y_move rfl) rfl ?_
          obtain ⟨e17, h18, hm⟩ := bindS hm
          obtain ⟨ad19, _, rfl, ha20, hy21⟩ := hr6.elem h18
          refine QJ.step (hy21 Try.runUnderlying25 Try.sizeOf51 rfl rfl) rfl ?_
          refine QJ.step (y_loadN Try.isAgg51 Try.sizeOf51 rfl ha20 St.frozenC rfl) rfl ?_
          refine QJ.step (y_neT e12 e17 eq51 rfl rfl) rfl ?_
          refine QJ.done ?_
          refine PJ.next ?_
          refine WJ.cond (t := !(SparePart.beq e12 e17)) rfl (fun hb22 => ?_) (fun hb22 => ?_)
          · replace hm := ifT hm hb22
            refine WJ.seq ?_
            refine WJ.quiet ?_
            refine QJ.step (y_assign rfl) rfl ?_
            refine QJ.done ?_
            refine PJ.next ?_
            refine WJ.ret ?_
            refine PJ.block_ret (PJ.then_ret (PJ.then_ret (PJ.block_ret (PJ.then_ret ?_))))
            obtain rfl := Option.some.inj hm
            refine PJ.sel (L' := []) [] ⟨List.nodup_nil, rfl⟩ ?_
            exact PJ.retn (vs := [.bool false]) Try.results16 ⟨rfl, trivial⟩ ⟨rfl, rfl⟩
          · replace hm := ifF hm hb22
            refine WJ.skip ?_
            refine PJ.block_normal (PJ.next ?_)
            refine WJ.quiet ?_
            refine QJ.step (y_bin rfl rfl rfl) rfl ?_
            refine QJ.step (y_move rfl) rfl ?_
            refine QJ.done ?_
            exact PJ.round (w64 (x10 + 1)) [] hm ⟨rfl, rfl, rfl, rfl, trivial⟩ ⟨List.nodup_nil, rfl⟩
        · replace hm := ifF hm hb11
          refine WJ.exit ?_
          refine PJ.then_exit (PJ.then_exit (PJ.block_exit ?_))
          exact PJ.joined () [] hm trivial ⟨List.nodup_nil, rfl⟩
    · rintro _ hm
      subst hk9
      refine WJ.seq ?_
      refine WJ.quiet ?_
      refine QJ.step (y_assign rfl) rfl ?_
      refine QJ.done ?_
      refine PJ.next ?_
      refine WJ.ret ?_
      obtain rfl := Option.some.inj hm
      refine PJ.sel (L' := []) [] ⟨List.nodup_nil, rfl⟩ ?_
      exact PJ.retn (vs := [.bool true]) Try.results16 ⟨rfl, trivial⟩ ⟨rfl, rfl⟩

set_option maxRecDepth 100000 in
set_option maxHeartbeats 1000000 in
theorem ok_w_eqSparePart {a1 : SparePart} {b2 : SparePart} {r : Bool} (hm : w_eqSparePart a1 b2 = some r) (w : World)  :
    Calls Try.prog 48 #[.agg (SparePart.enc a1).toArray, .agg (SparePart.enc b2).toArray] w (Ret (cx w) (.bool r)) := by
  unfold w_eqSparePart at hm
  refine Calls.enter [.agg (SparePart.enc a1).toArray, .agg (SparePart.enc b2).toArray] Try.func48 rfl Try.ntmps48 rfl ?_
  refine WJ.seq ?_
  refine WJ.reg ?_
  refine SJ.box (cs := [str a1.name, .int .i64 a1.stock, .int .i64 a1.target, .int .i64 a1.days, .int .i64 a1.instead]) rfl rfl rfl fun g3 => ?_
  refine SJ.box (cs := [str b2.name, .int .i64 b2.stock, .int .i64 b2.target, .int .i64 b2.days, .int .i64 b2.instead]) rfl rfl rfl fun g4 => ?_
  refine SJ.q (y_assign rfl) rfl ?_
  refine SJ.nil ?_
  refine PJ.next ?_
  refine WJ.seq ?_
  refine WJ.seq ?_
  refine WJ.quiet ?_
  refine QJ.step (y_fldB (o := 0) fld51_0 rfl) rfl ?_
  refine QJ.step (y_loadB (k := 1) (off := 0) (v := str a1.name) rfl Try.isAgg9 rfl rfl) rfl ?_
  refine QJ.step (y_fldB (o := 0) fld51_0 rfl) rfl ?_
  refine QJ.step (y_loadB (k := 0) (off := 0) (v := str b2.name) rfl Try.isAgg9 rfl rfl) rfl ?_
  refine QJ.step (y_binS rfl rfl rfl) rfl ?_
  refine QJ.done ?_
  refine PJ.next ?_
  refine WJ.cond (t := (a1.name != b2.name)) rfl (fun hb5 => ?_) (fun hb5 => ?_)
  · replace hm := ifT hm hb5
    refine WJ.seq ?_
    refine WJ.quiet ?_
    refine QJ.step (y_assign rfl) rfl ?_
    refine QJ.done ?_
    refine PJ.next ?_
    refine WJ.ret ?_
    refine PJ.then_ret ?_
    obtain rfl := Option.some.inj hm
    refine PJ.sel (L' := []) [] ⟨List.nodup_nil, rfl⟩ ?_
    exact PJ.retn (vs := [.bool false]) Try.results48 ⟨rfl, trivial⟩ ⟨rfl, rfl⟩
  · replace hm := ifF hm hb5
    refine WJ.skip ?_
    refine PJ.next ?_
    refine WJ.seq ?_
    refine WJ.seq ?_
    refine WJ.quiet ?_
    refine QJ.step (y_fldB (o := 0) fld51_1 rfl) rfl ?_
    refine QJ.step (y_loadB (k := 1) (off := 1) (v := .int .i64 a1.stock) rfl Try.isAgg2 rfl rfl) rfl ?_
    refine QJ.step (y_fldB (o := 0) fld51_1 rfl) rfl ?_
    refine QJ.step (y_loadB (k := 0) (off := 1) (v := .int .i64 b2.stock) rfl Try.isAgg2 rfl rfl) rfl ?_
    refine QJ.step (y_bin rfl rfl rfl) rfl ?_
    refine QJ.done ?_
    refine PJ.next ?_
    refine WJ.cond (t := (a1.stock != b2.stock)) rfl (fun hb6 => ?_) (fun hb6 => ?_)
    · replace hm := ifT hm hb6
      refine WJ.seq ?_
      refine WJ.quiet ?_
      refine QJ.step (y_assign rfl) rfl ?_
      refine QJ.done ?_
      refine PJ.next ?_
      refine WJ.ret ?_
      refine PJ.then_ret ?_
      obtain rfl := Option.some.inj hm
      refine PJ.sel (L' := []) [] ⟨List.nodup_nil, rfl⟩ ?_
      exact PJ.retn (vs := [.bool false]) Try.results48 ⟨rfl, trivial⟩ ⟨rfl, rfl⟩
    · replace hm := ifF hm hb6
      refine WJ.skip ?_
      refine PJ.next ?_
      refine WJ.seq ?_
      refine WJ.seq ?_
      refine WJ.quiet ?_
      refine QJ.step (y_fldB (o := 0) fld51_2 rfl) rfl ?_
      refine QJ.step (y_loadB (k := 1) (off := 2) (v := .int .i64 a1.target) rfl Try.isAgg2 rfl rfl) rfl ?_
      refine QJ.step (y_fldB (o := 0) fld51_2 rfl) rfl ?_
      refine QJ.step (y_loadB (k := 0) (off := 2) (v := .int .i64 b2.target) rfl Try.isAgg2 rfl rfl) rfl ?_
      refine QJ.step (y_bin rfl rfl rfl) rfl ?_
      refine QJ.done ?_
      refine PJ.next ?_
      refine WJ.cond (t := (a1.target != b2.target)) rfl (fun hb7 => ?_) (fun hb7 => ?_)
      · replace hm := ifT hm hb7
        refine WJ.seq ?_
        refine WJ.quiet ?_
        refine QJ.step (y_assign rfl) rfl ?_
        refine QJ.done ?_
        refine PJ.next ?_
        refine WJ.ret ?_
        refine PJ.then_ret ?_
        obtain rfl := Option.some.inj hm
        refine PJ.sel (L' := []) [] ⟨List.nodup_nil, rfl⟩ ?_
        exact PJ.retn (vs := [.bool false]) Try.results48 ⟨rfl, trivial⟩ ⟨rfl, rfl⟩
      · replace hm := ifF hm hb7
        refine WJ.skip ?_
        refine PJ.next ?_
        refine WJ.seq ?_
        refine WJ.seq ?_
        refine WJ.quiet ?_
        refine QJ.step (y_fldB (o := 0) fld51_3 rfl) rfl ?_
        refine QJ.step (y_loadB (k := 1) (off := 3) (v := .int .i64 a1.days) rfl Try.isAgg2 rfl rfl) rfl ?_
        refine QJ.step (y_fldB (o := 0) fld51_3 rfl) rfl ?_
        refine QJ.step (y_loadB (k := 0) (off := 3) (v := .int .i64 b2.days) rfl Try.isAgg2 rfl rfl) rfl ?_
        refine QJ.step (y_bin rfl rfl rfl) rfl ?_
        refine QJ.done ?_
        refine PJ.next ?_
        refine WJ.cond (t := (a1.days != b2.days)) rfl (fun hb8 => ?_) (fun hb8 => ?_)
        · replace hm := ifT hm hb8
          refine WJ.seq ?_
          refine WJ.quiet ?_
          refine QJ.step (y_assign rfl) rfl ?_
          refine QJ.done ?_
          refine PJ.next ?_
          refine WJ.ret ?_
          refine PJ.then_ret ?_
          obtain rfl := Option.some.inj hm
          refine PJ.sel (L' := []) [] ⟨List.nodup_nil, rfl⟩ ?_
          exact PJ.retn (vs := [.bool false]) Try.results48 ⟨rfl, trivial⟩ ⟨rfl, rfl⟩
        · replace hm := ifF hm hb8
          refine WJ.skip ?_
          refine PJ.next ?_
          refine WJ.seq ?_
          refine WJ.seq ?_
          refine WJ.quiet ?_
          refine QJ.step (y_fldB (o := 0) fld51_4 rfl) rfl ?_
          refine QJ.step (y_loadB (k := 1) (off := 4) (v := .int .i64 a1.instead) rfl Try.isAgg2 rfl rfl) rfl ?_
          refine QJ.step (y_fldB (o := 0) fld51_4 rfl) rfl ?_
          refine QJ.step (y_loadB (k := 0) (off := 4) (v := .int .i64 b2.instead) rfl Try.isAgg2 rfl rfl) rfl ?_
          refine QJ.step (y_bin rfl rfl rfl) rfl ?_
          refine QJ.done ?_
          refine PJ.next ?_
          refine WJ.cond (t := (a1.instead != b2.instead)) rfl (fun hb9 => ?_) (fun hb9 => ?_)
          · replace hm := ifT hm hb9
            refine WJ.seq ?_
            refine WJ.quiet ?_
            refine QJ.step (y_assign rfl) rfl ?_
            refine QJ.done ?_
            refine PJ.next ?_
            refine WJ.ret ?_
            refine PJ.then_ret ?_
            obtain rfl := Option.some.inj hm
            refine PJ.sel (L' := []) [] ⟨List.nodup_nil, rfl⟩ ?_
            exact PJ.retn (vs := [.bool false]) Try.results48 ⟨rfl, trivial⟩ ⟨rfl, rfl⟩
          · replace hm := ifF hm hb9
            refine WJ.skip ?_
            refine PJ.next ?_
            refine WJ.seq ?_
            refine WJ.quiet ?_
            refine QJ.step (y_assign rfl) rfl ?_
            refine QJ.done ?_
            refine PJ.next ?_
            refine WJ.ret ?_
            obtain rfl := Option.some.inj hm
            refine PJ.sel (L' := []) [] ⟨List.nodup_nil, rfl⟩ ?_
            exact PJ.retn (vs := [.bool true]) Try.results48 ⟨rfl, trivial⟩ ⟨rfl, rfl⟩

set_option maxRecDepth 100000 in
set_option maxHeartbeats 1000000 in
theorem ok_w_eqSparePartS {N : Nat} {a1 : List SparePart} {b4 : List SparePart} {r : Bool} (hm : w_eqSparePartS N a1 b4 = some r) (w : World) (v2 : Value) (hr3 : RdS w (cx w).Fz v2 fSparePart.rp a1) (v5 : Value) (hr6 : RdS w (cx w).Fz v5 fSparePart.rp b4) :
    Calls Try.prog 17 #[v2, v5] w (Ret (cx w) (.bool r)) := by
  unfold w_eqSparePartS at hm
  refine Calls.enter [v2, v5] Try.func17 rfl Try.ntmps17 rfl ?_
  refine WJ.seq ?_
  refine WJ.quiet ?_
  refine QJ.step (y_assign rfl) rfl ?_
  refine QJ.done ?_
  refine PJ.next ?_
  refine WJ.seq ?_
  refine WJ.seq ?_
  refine WJ.quiet ?_
  refine QJ.step (y_move rfl) rfl ?_
  refine QJ.step (y_lenS Try.runUnderlying25 hr3 rfl) rfl ?_
  refine QJ.step (y_move rfl) rfl ?_
  refine QJ.step (y_lenS Try.runUnderlying25 hr6 rfl) rfl ?_
  refine QJ.step (y_bin rfl rfl rfl) rfl ?_
  refine QJ.done ?_
  refine PJ.next ?_
  refine WJ.cond (t := ((List.length a1 : Int) != (List.length b4 : Int))) rfl (fun hb7 => ?_) (fun hb7 => ?_)
  · replace hm := ifT hm hb7
    refine WJ.seq ?_
    refine WJ.quiet ?_
    refine QJ.step (y_assign rfl) rfl ?_
    refine QJ.done ?_
    refine PJ.next ?_
    refine WJ.ret ?_
    refine PJ.then_ret ?_
    obtain rfl := Option.some.inj hm
    refine PJ.sel (L' := []) [] ⟨List.nodup_nil, rfl⟩ ?_
    exact PJ.retn (vs := [.bool false]) Try.results17 ⟨rfl, trivial⟩ ⟨rfl, rfl⟩
  · replace hm := ifF hm hb7
    refine WJ.skip ?_
    refine PJ.next ?_
    obtain ⟨k8, hk9, hm⟩ := withK_open hm
    refine WJ.join (X := Unit) (fun (_ : Unit) => k8  = some r) (fun (_ : Unit) => []) (fun (_ : Unit) => []) ?_ ?_
    · clear hk9
      refine WJ.seq ?_
      refine WJ.quiet ?_
      refine QJ.step (y_assign rfl) rfl ?_
      refine QJ.done ?_
      refine PJ.next ?_
      refine WJ.block ?_
      refine WJ.sel (L' := (fun (x : Int) => []) 0) [] ⟨List.nodup_nil, rfl⟩ ?_
      refine WJ.sub (m' := (fun (x : Int) => [(0, v2), (1, v5), (5, .int .i64 x)]) 0) ⟨rfl, rfl, rfl, trivial⟩ ?_
      refine WJ.loop (X := Int) (fun N (x : Int) => w_eqSparePartS_l1 k8 a1 b4 N x = some r) (fun (x : Int) => [(0, v2), (1, v5), (5, .int .i64 x)]) (fun (x : Int) => []) ?_ N 0 hm
      · rintro N i10 hI
        have hm := hI; clear hI
        cases N with
        | zero => cases hm
        | succ N =>
        unfold w_eqSparePartS_l1 at hm
        refine WJ.seq ?_
        refine WJ.seq ?_
        refine WJ.quiet ?_
        refine QJ.step (y_move rfl) rfl ?_
        refine QJ.step (y_move rfl) rfl ?_
        refine QJ.step (y_lenS Try.runUnderlying25 hr3 rfl) rfl ?_
        refine QJ.step (y_bin rfl rfl rfl) rfl ?_
        refine QJ.done ?_
        refine PJ.next ?_
        refine WJ.cond (t := decide (i10 < (List.length a1 : Int))) rfl (fun hb11 => ?_) (fun hb11 => ?_)
        · replace hm := ifT hm hb11
          refine WJ.skip ?_
          refine PJ.next ?_
          refine WJ.seq ?_
          refine WJ.block ?_
          refine WJ.seq ?_
          refine WJ.quiet_draw follows (by kernel_rfl) ?_
          refine QJ.step (y_move rfl) rfl ?_
          refine QJ.step (y_move rfl) rfl ?_
          obtain ⟨e12, h13, hm⟩ := bindS hm
          obtain ⟨ad14, _, rfl, ha15, hy16⟩ := hr3.elem h13
          refine QJ.step (hy16 Try.runUnderlying25 Try.sizeOf51 rfl rfl) rfl ?_
          refine QJ.step (y_loadN Try.isAgg51 Try.sizeOf51 rfl ha15 St.frozenC rfl) rfl ?_
          refine QJ.step (y_move rfl) rfl ?_
          refine QJ.step (y_move rfl) rfl ?_
          obtain ⟨e17, h18, hm⟩ := bindS hm
          obtain ⟨ad19, _, rfl, ha20, hy21⟩ := hr6.elem h18
          refine QJ.step (hy21 Try.runUnderlying25 Try.sizeOf51 rfl rfl) rfl ?_
          refine QJ.step (y_loadN Try.isAgg51 Try.sizeOf51 rfl ha20 St.frozenC rfl) rfl ?_
          obtain ⟨r22, h23, hm⟩ := bindS hm
          refine QJ.step (y_call Try.call48 rfl (RetG.quiet fun w hw => ok_w_eqSparePart h23 w )) rfl ?_
          refine QJ.step (y_not rfl) rfl ?_
          refine QJ.done ?_
          refine PJ.next ?_
          refine WJ.cond (t := !r22) rfl (fun hb24 => ?_) (fun hb24 => ?_)
          · replace hm := ifT hm hb24
            refine WJ.seq ?_
            refine WJ.quiet ?_
            refine QJ.step (y_assign rfl) rfl ?_
            refine QJ.done ?_
            refine PJ.next ?_
            refine WJ.ret ?_
            refine PJ.block_ret (PJ.then_ret (PJ.then_ret (PJ.block_ret (PJ.then_ret ?_))))
            obtain rfl := Option.some.inj hm
            refine PJ.sel (L' := []) [] ⟨List.nodup_nil, rfl⟩ ?_
            exact PJ.retn (vs := [.bool false]) Try.results17 ⟨rfl, trivial⟩ ⟨rfl, rfl⟩
          · replace hm := ifF hm hb24
            refine WJ.skip ?_
            refine PJ.block_normal (PJ.next ?_)
            refine WJ.quiet ?_
            refine QJ.step (y_move rfl) rfl ?_
            refine QJ.step (y_bin rfl rfl rfl) rfl ?_
            refine QJ.step (y_assign rfl) rfl ?_
            refine QJ.done ?_
            exact PJ.round (w64 (i10 + 1)) [] hm ⟨rfl, rfl, rfl, trivial⟩ ⟨List.nodup_nil, rfl⟩
        · replace hm := ifF hm hb11
          refine WJ.exit ?_
          refine PJ.then_exit (PJ.then_exit (PJ.block_exit ?_))
          exact PJ.joined () [] hm trivial ⟨List.nodup_nil, rfl⟩
    · rintro _ hm
      subst hk9
      refine WJ.seq ?_
      refine WJ.quiet ?_
      refine QJ.step (y_assign rfl) rfl ?_
      refine QJ.done ?_
      refine PJ.next ?_
      refine WJ.ret ?_
      obtain rfl := Option.some.inj hm
      refine PJ.sel (L' := []) [] ⟨List.nodup_nil, rfl⟩ ?_
      exact PJ.retn (vs := [.bool true]) Try.results17 ⟨rfl, trivial⟩ ⟨rfl, rfl⟩

set_option maxRecDepth 100000 in
set_option maxHeartbeats 1000000 in
theorem ok_w_FnExactSameParts {N : Nat} {aA1 : List SparePart} {aB4 : List SparePart} {r : Bool} (hm : w_FnExactSameParts N aA1 aB4 = some r) (w : World) (v2 : Value) (hr3 : RdS w (cx w).Fz v2 fSparePart.rp aA1) (v5 : Value) (hr6 : RdS w (cx w).Fz v5 fSparePart.rp aB4) :
    Calls Try.prog 3 #[v2, v5] w (Ret (cx w) (.bool r)) := by
  unfold w_FnExactSameParts at hm
  refine Calls.enter [v2, v5] Try.func3 rfl Try.ntmps3 rfl ?_
  refine WJ.seq ?_
  refine WJ.quiet ?_
  refine QJ.step (y_assign rfl) rfl ?_
  refine QJ.done ?_
  refine PJ.next ?_
  refine WJ.seq ?_
  refine WJ.quiet ?_
  refine QJ.step (y_assign rfl) rfl ?_
  refine QJ.done ?_
  refine PJ.next ?_
  refine WJ.seq ?_
  refine WJ.quiet ?_
  refine QJ.step (y_move rfl) rfl ?_
  refine QJ.step (y_move rfl) rfl ?_
  obtain ⟨r7, h8, hm⟩ := bindS hm
  refine QJ.step (y_call Try.call13 rfl (RetG.quiet fun w hw => ok_w_szSparePartS h8 w _ (hr3.st hw))) rfl ?_
  refine QJ.step (y_assign rfl) rfl ?_
  refine QJ.done ?_
  refine PJ.next ?_
  refine WJ.seq ?_
  refine WJ.seq ?_
  refine WJ.quiet ?_
  refine QJ.step (y_move rfl) rfl ?_
  refine QJ.step (y_bin rfl rfl rfl) rfl ?_
  refine QJ.done ?_
  refine PJ.next ?_
  refine WJ.cond (t := decide (r7 < 0)) rfl (fun hb9 => ?_) (fun hb9 => ?_)
  · replace hm := ifT hm hb9
    refine WJ.seq ?_
    refine WJ.quiet ?_
    refine QJ.step (y_assign rfl) rfl ?_
    refine QJ.done ?_
    refine PJ.next ?_
    refine WJ.ret ?_
    refine PJ.then_ret ?_
    obtain rfl := Option.some.inj hm
    refine PJ.sel (L' := []) [] ⟨List.nodup_nil, rfl⟩ ?_
    exact PJ.retn (vs := [.bool true]) Try.results3 ⟨rfl, trivial⟩ ⟨rfl, rfl⟩
  · replace hm := ifF hm hb9
    refine WJ.skip ?_
    refine PJ.next ?_
    refine WJ.seq ?_
    refine WJ.quiet ?_
    refine QJ.step (y_move rfl) rfl ?_
    refine QJ.step (y_move rfl) rfl ?_
    obtain ⟨r10, h11, hm⟩ := bindS hm
    refine QJ.step (y_call Try.call13 rfl (RetG.quiet fun w hw => ok_w_szSparePartS h11 w _ (hr6.st hw))) rfl ?_
    refine QJ.step (y_assign rfl) rfl ?_
    refine QJ.done ?_
    refine PJ.next ?_
    refine WJ.seq ?_
    refine WJ.seq ?_
    refine WJ.quiet ?_
    refine QJ.step (y_move rfl) rfl ?_
    refine QJ.step (y_bin rfl rfl rfl) rfl ?_
    refine QJ.done ?_
    refine PJ.next ?_
    refine WJ.cond (t := decide (r10 < 0)) rfl (fun hb12 => ?_) (fun hb12 => ?_)
    · replace hm := ifT hm hb12
      refine WJ.seq ?_
      refine WJ.quiet ?_
      refine QJ.step (y_assign rfl) rfl ?_
      refine QJ.done ?_
      refine PJ.next ?_
      refine WJ.ret ?_
      refine PJ.then_ret ?_
      obtain rfl := Option.some.inj hm
      refine PJ.sel (L' := []) [] ⟨List.nodup_nil, rfl⟩ ?_
      exact PJ.retn (vs := [.bool true]) Try.results3 ⟨rfl, trivial⟩ ⟨rfl, rfl⟩
    · replace hm := ifF hm hb12
      refine WJ.skip ?_
      refine PJ.next ?_
      refine WJ.seq ?_
      refine WJ.reg ?_
      refine SJ.q (y_move rfl) rfl ?_
      obtain ⟨r13, h14, hm⟩ := bindS hm
      refine SJ.call Try.call15 rfl (fun w hw => ok_w_toSparePartS h14 w _ (hr3.st hw)) rfl ?_
      rintro v15 _ ⟨_, rfl, rfl⟩
      refine SJ.q (y_move rfl) rfl ?_
      obtain ⟨r16, h17, hm⟩ := bindS hm
      refine SJ.call Try.call15 rfl (fun w hw => ok_w_toSparePartS h17 w _ (hr6.st hw)) rfl ?_
      rintro v18 _ ⟨_, rfl, rfl⟩
      obtain ⟨r19, h20, hm⟩ := bindS hm
      refine SJ.q (y_call Try.call14 rfl (RetG.quiet fun w hw => ok_s_SameParts h20 w _ (hw.row_rd (k := 1) rfl) _ (hw.row_rd (k := 0) rfl))) rfl ?_
      refine SJ.q (y_assign rfl) rfl ?_
      refine SJ.nil ?_
      refine PJ.next ?_
      refine WJ.seq ?_
      refine WJ.reg ?_
      refine SJ.q (y_move rfl) rfl ?_
      obtain ⟨r21, h22, hm⟩ := bindS hm
      refine SJ.call Try.call15 rfl (fun w hw => ok_w_toSparePartS h22 w _ (hr3.st hw)) rfl ?_
      rintro v23 _ ⟨_, rfl, rfl⟩
      refine SJ.q (y_assign rfl) rfl ?_
      refine SJ.nil ?_
      refine PJ.next ?_
      refine WJ.seq ?_
      refine WJ.reg ?_
      refine SJ.q (y_move rfl) rfl ?_
      obtain ⟨r24, h25, hm⟩ := bindS hm
      refine SJ.call Try.call15 rfl (fun w hw => ok_w_toSparePartS h25 w _ (hr6.st hw)) rfl ?_
      rintro v26 _ ⟨_, rfl, rfl⟩
      refine SJ.q (y_assign rfl) rfl ?_
      refine SJ.nil ?_
      refine PJ.next ?_
      refine WJ.seq ?_
      refine WJ.quiet ?_
      refine QJ.step (y_move rfl) rfl ?_
      refine QJ.step (y_move rfl) rfl ?_
      obtain ⟨r27, h28, hm⟩ := bindS hm
      refine QJ.step (y_call Try.call16 rfl (RetG.quiet fun w hw => ok_i_SameParts h28 w _ (hw.row_rd (k := 1) rfl) _ (hw.row_rd (k := 0) rfl))) rfl ?_
      refine QJ.step (y_assign rfl) rfl ?_
      refine QJ.done ?_
      refine PJ.next ?_
      refine WJ.seq ?_
      refine WJ.seq ?_
      refine WJ.quiet ?_
      refine QJ.step (y_move rfl) rfl ?_
      refine QJ.step (y_move rfl) rfl ?_
      refine QJ.step (y_neB Try.underlying4 rfl rfl rfl) rfl ?_
      refine QJ.done ?_
      refine PJ.next ?_
      refine WJ.cond (t := (r27 != r19)) rfl (fun hb29 => ?_) (fun hb29 => ?_)
      · replace hm := ifT hm hb29
        refine WJ.seq ?_
        refine WJ.quiet ?_
        refine QJ.step (y_assign rfl) rfl ?_
        refine QJ.done ?_
        refine PJ.next ?_
        refine WJ.ret ?_
        refine PJ.then_ret ?_
        obtain rfl := Option.some.inj hm
        refine PJ.sel (L' := []) [] ⟨List.nodup_nil, rfl⟩ ?_
        exact PJ.retn (vs := [.bool false]) Try.results3 ⟨rfl, trivial⟩ ⟨rfl, rfl⟩
      · replace hm := ifF hm hb29
        refine WJ.skip ?_
        refine PJ.next ?_
        refine WJ.seq ?_
        refine WJ.seq ?_
        refine WJ.reg ?_
        refine SJ.q (y_move rfl) rfl ?_
        refine SJ.q (y_move rfl) rfl ?_
        obtain ⟨r30, h31, hm⟩ := bindS hm
        refine SJ.call Try.call15 rfl (fun w hw => ok_w_toSparePartS h31 w _ (hr3.st hw)) rfl ?_
        rintro v32 _ ⟨_, rfl, rfl⟩
        obtain ⟨r33, h34, hm⟩ := bindS hm
        refine SJ.q (y_call Try.call17 rfl (RetG.quiet fun w hw => ok_w_eqSparePartS h34 w _ (hw.row_rd (k := 2) rfl) _ (hw.row_rd (k := 0) rfl))) rfl ?_
        refine SJ.q (y_not rfl) rfl ?_
        refine SJ.nil ?_
        refine PJ.next ?_
        refine WJ.cond (t := !r33) rfl (fun hb35 => ?_) (fun hb35 => ?_)
        · replace hm := ifT hm hb35
          refine WJ.seq ?_
          refine WJ.quiet ?_
          refine QJ.step (y_assign rfl) rfl ?_
          refine QJ.done ?_
          refine PJ.next ?_
          refine WJ.ret ?_
          refine PJ.then_ret ?_
          obtain rfl := Option.some.inj hm
          refine PJ.sel (L' := []) [] ⟨List.nodup_nil, rfl⟩ ?_
          exact PJ.retn (vs := [.bool false]) Try.results3 ⟨rfl, trivial⟩ ⟨rfl, rfl⟩
        · replace hm := ifF hm hb35
          refine WJ.skip ?_
          refine PJ.next ?_
          refine WJ.seq ?_
          refine WJ.seq ?_
          refine WJ.reg ?_
          refine SJ.q (y_move rfl) rfl ?_
          refine SJ.q (y_move rfl) rfl ?_
          obtain ⟨r36, h37, hm⟩ := bindS hm
          refine SJ.call Try.call15 rfl (fun w hw => ok_w_toSparePartS h37 w _ (hr6.st hw)) rfl ?_
          rintro v38 _ ⟨_, rfl, rfl⟩
          obtain ⟨r39, h40, hm⟩ := bindS hm
          refine SJ.q (y_call Try.call17 rfl (RetG.quiet fun w hw => ok_w_eqSparePartS h40 w _ (hw.row_rd (k := 2) rfl) _ (hw.row_rd (k := 0) rfl))) rfl ?_
          refine SJ.q (y_not rfl) rfl ?_
          refine SJ.nil ?_
          refine PJ.next ?_
          refine WJ.cond (t := !r39) rfl (fun hb41 => ?_) (fun hb41 => ?_)
          · replace hm := ifT hm hb41
            refine WJ.seq ?_
            refine WJ.quiet ?_
            refine QJ.step (y_assign rfl) rfl ?_
            refine QJ.done ?_
            refine PJ.next ?_
            refine WJ.ret ?_
            refine PJ.then_ret ?_
            obtain rfl := Option.some.inj hm
            refine PJ.sel (L' := []) [] ⟨List.nodup_nil, rfl⟩ ?_
            exact PJ.retn (vs := [.bool false]) Try.results3 ⟨rfl, trivial⟩ ⟨rfl, rfl⟩
          · replace hm := ifF hm hb41
            refine WJ.skip ?_
            refine PJ.next ?_
            refine WJ.seq ?_
            refine WJ.quiet ?_
            refine QJ.step (y_assign rfl) rfl ?_
            refine QJ.done ?_
            refine PJ.next ?_
            refine WJ.ret ?_
            obtain rfl := Option.some.inj hm
            refine PJ.sel (L' := []) [] ⟨List.nodup_nil, rfl⟩ ?_
            exact PJ.retn (vs := [.bool true]) Try.results3 ⟨rfl, trivial⟩ ⟨rfl, rfl⟩

end Go.Proofs.Ytffaepmojpanoaa
