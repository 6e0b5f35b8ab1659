/-
  The walks: a call hands back what its plain function computes, where that has a value. No other conditions.
-/
import Derived.Test.YtffaepmojpanoaaFnExactOrderListM
import Derived.Test.YtffaepmojpanoaaChecked
namespace Go.Proofs.Ytffaepmojpanoaa
open Go.RowKit Go.Proofs
set_option linter.unusedVariables false
set_option linter.unusedSimpArgs false

theorem follows : Try.prog.follows .mixedOrders = true := by kernel_rfl

def SparePart.enc (x : SparePart) : List Value := [str x.name, .int .i64 x.stock, .int .i64 x.target, .int .i64 x.days, .int .i64 x.instead]
def fSparePart : FRp SparePart := ⟨5, SparePart.enc, fun _ => rfl, by decide, fun x u hu => by
  simp only [SparePart.enc, List.mem_cons, List.not_mem_nil, or_false] at hu
  rcases hu with rfl | rfl | rfl | rfl | rfl <;> rfl⟩

theorem fld53_0 : FieldOk Try.prog 53 0 0 9 0 := ⟨_, _, Try.runUnderlying53, rfl, rfl, rfl, Try.sizeOf9⟩
theorem el51 : ElemOk Try.prog 51 5 (fSparePart.enc (SparePart.mk [] 0 0 0 0)) := ⟨_, _, Try.type51, rfl, rfl, rfl, by decide⟩
theorem fld51_0 : FieldOk Try.prog 51 0 0 9 0 := ⟨_, _, Try.runUnderlying51, rfl, rfl, rfl, Try.sizeOf9⟩
theorem fld53_1 : FieldOk Try.prog 53 1 1 2 0 := ⟨_, _, Try.runUnderlying53, rfl, rfl, rfl, Try.sizeOf2⟩
theorem fld51_1 : FieldOk Try.prog 51 1 1 2 0 := ⟨_, _, Try.runUnderlying51, rfl, rfl, rfl, Try.sizeOf2⟩
theorem fld53_2 : FieldOk Try.prog 53 2 2 2 0 := ⟨_, _, Try.runUnderlying53, rfl, rfl, rfl, Try.sizeOf2⟩
theorem fld51_2 : FieldOk Try.prog 51 2 2 2 0 := ⟨_, _, Try.runUnderlying51, rfl, rfl, rfl, Try.sizeOf2⟩
theorem fld53_3 : FieldOk Try.prog 53 3 3 2 0 := ⟨_, _, Try.runUnderlying53, rfl, rfl, rfl, Try.sizeOf2⟩
theorem fld51_3 : FieldOk Try.prog 51 3 3 2 0 := ⟨_, _, Try.runUnderlying51, rfl, rfl, rfl, Try.sizeOf2⟩
theorem fld53_4 : FieldOk Try.prog 53 4 4 2 0 := ⟨_, _, Try.runUnderlying53, rfl, rfl, rfl, Try.sizeOf2⟩
theorem fld51_4 : FieldOk Try.prog 51 4 4 2 0 := ⟨_, _, Try.runUnderlying51, rfl, rfl, rfl, Try.sizeOf2⟩
theorem el2 : ElemOk Try.prog 2 1 (fI64.enc 0) := ⟨_, _, Try.type2, rfl, rfl, rfl, by decide⟩
theorem open53 : Opens Try.prog 53 fSparePart.rp wfSparePart := fun {H enc w sp held fuel cs x} h => by
  obtain ⟨hl, n, hf⟩ := opens_fields Try.underlying53 h
  have hl : cs.length = 5 := by rw [hl]; kernel_rfl
  obtain ⟨y0, hy0⟩ := hf _ (List.mem_of_getElem? (i := 0) rfl)
  obtain ⟨z0, hz0, hw0⟩ := (opens_str Try.underlying9) hy0
  obtain ⟨y1, hy1⟩ := hf _ (List.mem_of_getElem? (i := 1) rfl)
  obtain ⟨z1, hz1, hw1⟩ := (opens_i64 Try.underlying2) hy1
  obtain ⟨y2, hy2⟩ := hf _ (List.mem_of_getElem? (i := 2) rfl)
  obtain ⟨z2, hz2, hw2⟩ := (opens_i64 Try.underlying2) hy2
  obtain ⟨y3, hy3⟩ := hf _ (List.mem_of_getElem? (i := 3) rfl)
  obtain ⟨z3, hz3, hw3⟩ := (opens_i64 Try.underlying2) hy3
  obtain ⟨y4, hy4⟩ := hf _ (List.mem_of_getElem? (i := 4) rfl)
  obtain ⟨z4, hz4, hw4⟩ := (opens_i64 Try.underlying2) hy4
  match cs, hl with
  | [c0, c1, c2, c3, c4], _ =>
  have e0 : [c0] = fStr.enc z0 := hz0
  have e1 : [c1] = fI64.enc z1 := hz1
  have e2 : [c2] = fI64.enc z2 := hz2
  have e3 : [c3] = fI64.enc z3 := hz3
  have e4 : [c4] = fI64.enc z4 := hz4
  refine ⟨⟨z0, z1, z2, z3, z4⟩, ?_, ⟨hw0, hw1, hw2, hw3, hw4⟩⟩
  show [c0, c1, c2, c3, c4] = SparePart.enc _
  simp only [fStr, List.cons.injEq, and_true] at e0
  simp only [fI64, List.cons.injEq, and_true] at e1
  simp only [fI64, List.cons.injEq, and_true] at e2
  simp only [fI64, List.cons.injEq, and_true] at e3
  simp only [fI64, List.cons.injEq, and_true] at e4
  rw [e0, e1, e2, e3, e4]
  rfl


set_option maxRecDepth 100000 in
set_option maxHeartbeats 1000000 in
theorem ok_w_szSparePart {a1 : SparePart} {left2 : Int} {r : Int} (hm : w_szSparePart a1 left2 = some r) (w : World)  :
    Calls Try.prog 46 #[.agg (SparePart.enc a1).toArray, .int .i64 left2] w (Ret (cx w) (.int .i64 r)) := by
  unfold w_szSparePart at hm
  refine Calls.enter [.agg (SparePart.enc a1).toArray, .int .i64 left2] Try.func46 rfl Try.ntmps46 rfl ?_
  refine WJ.seq ?_
  refine WJ.reg ?_
  refine SJ.box (cs := [str a1.name, .int .i64 a1.stock, .int .i64 a1.target, .int .i64 a1.days, .int .i64 a1.instead]) rfl rfl rfl fun g3 => ?_
  refine SJ.q (YldS.yld (y_assign rfl)) rfl ?_
  refine SJ.nil ?_
  refine PJ.next ?_
  refine WJ.seq ?_
  refine WJ.quiet ?_
  refine QJ.step (YldS.yld (y_move rfl)) rfl ?_
  refine QJ.step (YldS.yld (y_fldB (o := 0) fld53_0 rfl)) rfl ?_
  refine QJ.step (YldS.yld (y_loadB (k := 0) (off := 0) (v := str a1.name) rfl Try.isAgg9 rfl rfl)) rfl ?_
  refine QJ.step (YldS.yld (y_lenStr Try.runUnderlying9 rfl)) rfl ?_
  refine QJ.step (YldS.yld (y_bin rfl rfl rfl)) rfl ?_
  refine QJ.step (YldS.yld (y_assign rfl)) rfl ?_
  refine QJ.done ?_
  refine PJ.next ?_
  refine WJ.seq ?_
  refine WJ.seq ?_
  refine WJ.quiet ?_
  refine QJ.step (YldS.yld (y_move rfl)) rfl ?_
  refine QJ.step (YldS.yld (y_bin rfl rfl rfl)) rfl ?_
  refine QJ.done ?_
  refine PJ.next ?_
  refine WJ.cond (t := decide ((w64 (left2 - (List.length a1.name : Int))) < 0)) rfl (fun hb4 => ?_) (fun hb4 => ?_)
  · replace hm := ifT hm hb4
    refine WJ.seq ?_
    refine WJ.quiet ?_
    refine QJ.step (YldS.yld (y_assign rfl)) rfl ?_
    refine QJ.done ?_
    refine PJ.next ?_
    refine WJ.ret ?_
    refine PJ.then_ret ?_
    obtain rfl := Option.some.inj hm
    refine PJ.sel (L' := []) [] ⟨List.nodup_nil, rfl⟩ ?_
    exact PJ.retn (vs := [.int .i64 (-1)]) Try.results46 ⟨rfl, trivial⟩ ⟨rfl, rfl⟩
  · replace hm := ifF hm hb4
    refine WJ.skip ?_
    refine PJ.next ?_
    refine WJ.seq ?_
    refine WJ.quiet ?_
    refine QJ.step (YldS.yld (y_move rfl)) rfl ?_
    refine QJ.step (YldS.yld (y_assign rfl)) rfl ?_
    refine QJ.done ?_
    refine PJ.next ?_
    refine WJ.ret ?_
    obtain rfl := Option.some.inj hm
    refine PJ.sel (L' := []) [] ⟨List.nodup_nil, rfl⟩ ?_
    exact PJ.retn (vs := [.int .i64 (w64 (left2 - (List.length a1.name : Int)))]) Try.results46 ⟨rfl, trivial⟩ ⟨rfl, rfl⟩

set_option maxRecDepth 100000 in
set_option maxHeartbeats 1000000 in
theorem ok_w_szSparePartS {N : Nat} {a1 : List SparePart} {left4 : Int} {r : Int} (hm : w_szSparePartS N a1 left4 = some r) (w : World) (v2 : Value) (hr3 : RdS w (cx w).Fz v2 fSparePart.rp a1) :
    Calls Try.prog 13 #[v2, .int .i64 left4] w (Ret (cx w) (.int .i64 r)) := by
  unfold w_szSparePartS at hm
  refine Calls.enter [v2, .int .i64 left4] Try.func13 rfl Try.ntmps13 rfl ?_
  refine WJ.seq ?_
  refine WJ.quiet ?_
  refine QJ.step (YldS.yld (y_assign rfl)) rfl ?_
  refine QJ.done ?_
  refine PJ.next ?_
  refine WJ.seq ?_
  refine WJ.quiet ?_
  refine QJ.step (YldS.yld (y_move rfl)) rfl ?_
  refine QJ.step (YldS.yld (y_move rfl)) rfl ?_
  refine QJ.step (YldS.yld (y_lenS Try.runUnderlying22 hr3 rfl)) rfl ?_
  refine QJ.step (YldS.yld (y_bin rfl rfl rfl)) rfl ?_
  refine QJ.step (YldS.yld (y_assign rfl)) rfl ?_
  refine QJ.done ?_
  refine PJ.next ?_
  refine WJ.seq ?_
  refine WJ.seq ?_
  refine WJ.quiet ?_
  refine QJ.step (YldS.yld (y_move rfl)) rfl ?_
  refine QJ.step (YldS.yld (y_bin rfl rfl rfl)) rfl ?_
  refine QJ.done ?_
  refine PJ.next ?_
  refine WJ.cond (t := decide ((w64 (left4 - (List.length a1 : Int))) < 0)) rfl (fun hb5 => ?_) (fun hb5 => ?_)
  · replace hm := ifT hm hb5
    refine WJ.seq ?_
    refine WJ.quiet ?_
    refine QJ.step (YldS.yld (y_assign rfl)) rfl ?_
    refine QJ.done ?_
    refine PJ.next ?_
    refine WJ.ret ?_
    refine PJ.then_ret ?_
    obtain rfl := Option.some.inj hm
    refine PJ.sel (L' := []) [] ⟨List.nodup_nil, rfl⟩ ?_
    exact PJ.retn (vs := [.int .i64 (-1)]) Try.results13 ⟨rfl, trivial⟩ ⟨rfl, rfl⟩
  · replace hm := ifF hm hb5
    refine WJ.skip ?_
    refine PJ.next ?_
    obtain ⟨k7, hk8, hm⟩ := withK_open hm
    refine WJ.join (X := Int) (fun (x : Int) => k7 x = some r) (fun (x : Int) => [(1, .int .i64 x)]) (fun (x : Int) => []) ?_ ?_
    · clear hk8
      refine WJ.seq ?_
      refine WJ.quiet ?_
      refine QJ.step (YldS.yld (y_assign rfl)) rfl ?_
      refine QJ.done ?_
      refine PJ.next ?_
      refine WJ.block ?_
      refine WJ.sel (L' := (fun (x : Int × Int) => []) (w64 (left4 - (List.length a1 : Int)), 0)) [] ⟨List.nodup_nil, rfl⟩ ?_
      refine WJ.sub (m' := (fun (x : Int × Int) => [(0, v2), (1, .int .i64 x.1), (5, .int .i64 x.2)]) (w64 (left4 - (List.length a1 : Int)), 0)) ⟨rfl, rfl, rfl, trivial⟩ ?_
      refine WJ.loop (X := Int × Int) (fun N (x : Int × Int) => w_szSparePartS_l1 k7 a1 N x.1 x.2 = some r) (fun (x : Int × Int) => [(0, v2), (1, .int .i64 x.1), (5, .int .i64 x.2)]) (fun (x : Int × Int) => []) ?_ N (w64 (left4 - (List.length a1 : Int)), 0) hm
      · rintro N ⟨left9, i10⟩ hI
        have hm := hI; clear hI
        cases N with
        | zero => cases hm
        | succ N =>
        unfold w_szSparePartS_l1 at hm
        refine WJ.seq ?_
        refine WJ.seq ?_
        refine WJ.quiet ?_
        refine QJ.step (YldS.yld (y_move rfl)) rfl ?_
        refine QJ.step (YldS.yld (y_move rfl)) rfl ?_
        refine QJ.step (YldS.yld (y_lenS Try.runUnderlying22 hr3 rfl)) rfl ?_
        refine QJ.step (YldS.yld (y_bin rfl rfl rfl)) rfl ?_
        refine QJ.done ?_
        refine PJ.next ?_
        refine WJ.cond (t := decide (i10 < (List.length a1 : Int))) rfl (fun hb11 => ?_) (fun hb11 => ?_)
        · replace hm := ifT hm hb11
          refine WJ.skip ?_
          refine PJ.next ?_
          refine WJ.seq ?_
          refine WJ.block ?_
          refine WJ.seq ?_
          refine WJ.quiet ?_
          refine QJ.step (YldS.yld (y_move rfl)) rfl ?_
          refine QJ.step (YldS.yld (y_move rfl)) rfl ?_
          obtain ⟨e12, h13, hm⟩ := bindS hm
          obtain ⟨ad14, _, rfl, ha15, hy16⟩ := hr3.elem h13
          refine QJ.step (YldS.yld (hy16 Try.runUnderlying22 Try.sizeOf53 rfl rfl)) rfl ?_
          refine QJ.step (YldS.yld (y_loadN Try.isAgg53 Try.sizeOf53 rfl ha15 St.frozenC rfl)) rfl ?_
          refine QJ.step (YldS.yld (y_move rfl)) rfl ?_
          obtain ⟨r17, h18, hm⟩ := bindS hm
          refine QJ.step (y_call Try.call46 rfl (RetG.quiet fun w hw => ok_w_szSparePart h18 w )) rfl ?_
          refine QJ.step (YldS.yld (y_assign rfl)) rfl ?_
          refine QJ.done ?_
          refine PJ.next ?_
          refine WJ.seq ?_
          refine WJ.quiet ?_
          refine QJ.step (YldS.yld (y_move rfl)) rfl ?_
          refine QJ.step (YldS.yld (y_bin rfl rfl rfl)) rfl ?_
          refine QJ.done ?_
          refine PJ.next ?_
          refine WJ.cond (t := decide (r17 < 0)) rfl (fun hb19 => ?_) (fun hb19 => ?_)
          · replace hm := ifT hm hb19
            refine WJ.seq ?_
            refine WJ.quiet ?_
            refine QJ.step (YldS.yld (y_assign rfl)) rfl ?_
            refine QJ.done ?_
            refine PJ.next ?_
            refine WJ.ret ?_
            refine PJ.block_ret (PJ.then_ret (PJ.then_ret (PJ.block_ret (PJ.then_ret ?_))))
            obtain rfl := Option.some.inj hm
            refine PJ.sel (L' := []) [] ⟨List.nodup_nil, rfl⟩ ?_
            exact PJ.retn (vs := [.int .i64 (-1)]) Try.results13 ⟨rfl, trivial⟩ ⟨rfl, rfl⟩
          · replace hm := ifF hm hb19
            refine WJ.skip ?_
            refine PJ.block_normal (PJ.next ?_)
            refine WJ.quiet ?_
            refine QJ.step (YldS.yld (y_move rfl)) rfl ?_
            refine QJ.step (YldS.yld (y_bin rfl rfl rfl)) rfl ?_
            refine QJ.step (YldS.yld (y_assign rfl)) rfl ?_
            refine QJ.done ?_
            exact PJ.round (r17, w64 (i10 + 1)) [] hm ⟨rfl, rfl, rfl, trivial⟩ ⟨List.nodup_nil, rfl⟩
        · replace hm := ifF hm hb11
          refine WJ.exit ?_
          refine PJ.then_exit (PJ.then_exit (PJ.block_exit ?_))
          exact PJ.joined left9 [] hm ⟨rfl, trivial⟩ ⟨List.nodup_nil, rfl⟩
    · rintro left6 hm
      subst hk8
      refine WJ.seq ?_
      refine WJ.quiet ?_
      refine QJ.step (YldS.yld (y_move rfl)) rfl ?_
      refine QJ.step (YldS.yld (y_assign rfl)) rfl ?_
      refine QJ.done ?_
      refine PJ.next ?_
      refine WJ.ret ?_
      obtain rfl := Option.some.inj hm
      refine PJ.sel (L' := []) [] ⟨List.nodup_nil, rfl⟩ ?_
      exact PJ.retn (vs := [.int .i64 left6]) Try.results13 ⟨rfl, trivial⟩ ⟨rfl, rfl⟩

set_option maxRecDepth 100000 in
set_option maxHeartbeats 1000000 in
theorem ok_w_toSparePart {a1 : SparePart} {r : SparePart} (hm : w_toSparePart a1 = some r) (w : World)  :
    Calls Try.prog 47 #[.agg (SparePart.enc a1).toArray] w (Ret (cx w) (.agg (SparePart.enc r).toArray)) := by
  unfold w_toSparePart at hm
  refine Calls.enter [.agg (SparePart.enc a1).toArray] Try.func47 rfl Try.ntmps47 rfl ?_
  refine WJ.seq ?_
  refine WJ.reg ?_
  refine SJ.box (cs := [str a1.name, .int .i64 a1.stock, .int .i64 a1.target, .int .i64 a1.days, .int .i64 a1.instead]) rfl rfl rfl fun g2 => ?_
  refine SJ.alloc (cs := [str [], .int .i64 0, .int .i64 0, .int .i64 0, .int .i64 0]) Try.zeroValue51 rfl rfl fun g3 => ?_
  refine SJ.nil ?_
  refine PJ.next ?_
  refine WJ.seq ?_
  refine WJ.reg ?_
  refine SJ.alloc (cs := [str [], .int .i64 0, .int .i64 0, .int .i64 0, .int .i64 0]) Try.zeroValue51 rfl rfl fun g4 => ?_
  refine SJ.nil ?_
  refine PJ.next ?_
  refine WJ.seq ?_
  refine WJ.reg ?_
  refine SJ.q (YldS.yld (y_fldB (o := 0) fld53_0 rfl)) rfl ?_
  refine SJ.q (YldS.yld (y_loadB (k := 2) (off := 0) (v := str a1.name) rfl Try.isAgg9 rfl rfl)) rfl ?_
  refine SJ.q (YldS.yld (y_fldB (o := 0) fld51_0 rfl)) rfl ?_
  refine SJ.storeL (k := 0) (off := 0) (us := [str a1.name]) rfl rfl rfl rfl Try.sizeOf9 rfl rfl ?_
  refine SJ.nil ?_
  refine PJ.next ?_
  refine WJ.seq ?_
  refine WJ.reg ?_
  refine SJ.q (YldS.yld (y_fldB (o := 0) fld53_1 rfl)) rfl ?_
  refine SJ.q (YldS.yld (y_loadB (k := 2) (off := 1) (v := .int .i64 a1.stock) rfl Try.isAgg2 rfl rfl)) rfl ?_
  refine SJ.q (YldS.yld (y_fldB (o := 0) fld51_1 rfl)) rfl ?_
  refine SJ.storeL (k := 0) (off := 1) (us := [.int .i64 a1.stock]) rfl rfl rfl rfl Try.sizeOf2 rfl rfl ?_
  refine SJ.nil ?_
  refine PJ.next ?_
  refine WJ.seq ?_
  refine WJ.reg ?_
  refine SJ.q (YldS.yld (y_fldB (o := 0) fld53_2 rfl)) rfl ?_
  refine SJ.q (YldS.yld (y_loadB (k := 2) (off := 2) (v := .int .i64 a1.target) rfl Try.isAgg2 rfl rfl)) rfl ?_
  refine SJ.q (YldS.yld (y_fldB (o := 0) fld51_2 rfl)) rfl ?_
  refine SJ.storeL (k := 0) (off := 2) (us := [.int .i64 a1.target]) rfl rfl rfl rfl Try.sizeOf2 rfl rfl ?_
  refine SJ.nil ?_
  refine PJ.next ?_
  refine WJ.seq ?_
  refine WJ.reg ?_
  refine SJ.q (YldS.yld (y_fldB (o := 0) fld53_3 rfl)) rfl ?_
  refine SJ.q (YldS.yld (y_loadB (k := 2) (off := 3) (v := .int .i64 a1.days) rfl Try.isAgg2 rfl rfl)) rfl ?_
  refine SJ.q (YldS.yld (y_fldB (o := 0) fld51_3 rfl)) rfl ?_
  refine SJ.storeL (k := 0) (off := 3) (us := [.int .i64 a1.days]) rfl rfl rfl rfl Try.sizeOf2 rfl rfl ?_
  refine SJ.nil ?_
  refine PJ.next ?_
  refine WJ.seq ?_
  refine WJ.reg ?_
  refine SJ.q (YldS.yld (y_fldB (o := 0) fld53_4 rfl)) rfl ?_
  refine SJ.q (YldS.yld (y_loadB (k := 2) (off := 4) (v := .int .i64 a1.instead) rfl Try.isAgg2 rfl rfl)) rfl ?_
  refine SJ.q (YldS.yld (y_fldB (o := 0) fld51_4 rfl)) rfl ?_
  refine SJ.storeL (k := 0) (off := 4) (us := [.int .i64 a1.instead]) rfl rfl rfl rfl Try.sizeOf2 rfl rfl ?_
  refine SJ.nil ?_
  refine PJ.next ?_
  refine WJ.seq ?_
  refine WJ.reg ?_
  refine SJ.q (YldS.yld (y_loadBN (k := 0) (off := 0) (us := [str a1.name, .int .i64 a1.stock, .int .i64 a1.target, .int .i64 a1.days, .int .i64 a1.instead]) rfl Try.isAgg51 Try.sizeOf51 rfl rfl)) rfl ?_
  refine SJ.storeL (k := 1) (off := 0) (us := [str a1.name, .int .i64 a1.stock, .int .i64 a1.target, .int .i64 a1.days, .int .i64 a1.instead]) rfl rfl rfl rfl Try.sizeOf51 rfl rfl ?_
  refine SJ.nil ?_
  refine PJ.next ?_
  refine WJ.ret ?_
  obtain rfl := Option.some.inj hm
  exact PJ.retn_sel (vs := [.agg #[str a1.name, .int .i64 a1.stock, .int .i64 a1.target, .int .i64 a1.days, .int .i64 a1.instead]]) Try.results47 ⟨⟨1, g3, 51, [str a1.name, .int .i64 a1.stock, .int .i64 a1.target, .int .i64 a1.days, .int .i64 a1.instead], rfl, rfl, .inl ⟨Try.isAgg51, Try.sizeOf51, rfl⟩⟩, trivial⟩ [] ⟨List.nodup_nil, rfl⟩ ⟨rfl, rfl⟩

set_option maxRecDepth 100000 in
set_option maxHeartbeats 1000000 in
theorem ok_w_toSparePartS {N : Nat} {a1 : List SparePart} {r : (List SparePart)} (hm : w_toSparePartS N a1 = some r) (w : World) (v2 : Value) (hr3 : RdS w (cx w).Fz v2 fSparePart.rp a1) :
    Calls Try.prog 15 #[v2] w (RetG (cx w) fun u L => ∃ (u1 : Value), (u = u1 ∧ L = [row u1 51 fSparePart r])) := by
  unfold w_toSparePartS at hm
  refine Calls.enter [v2] Try.func15 rfl Try.ntmps15 rfl ?_
  refine WJ.seq ?_
  refine WJ.quiet ?_
  refine QJ.step (YldS.yld (y_assign rfl)) rfl ?_
  refine QJ.done ?_
  refine PJ.next ?_
  refine WJ.seq ?_
  refine WJ.reg ?_
  refine SJ.q (YldS.yld (y_move rfl)) rfl ?_
  refine SJ.q (YldS.yld (y_lenS Try.runUnderlying22 hr3 rfl)) rfl ?_
  obtain ⟨l4, h5, hm⟩ := bindS hm
  refine SJ.makeSlice (R := fSparePart) (z := (SparePart.mk [] 0 0 0 0)) h5 Try.underlying25 el51 rfl rfl rfl fun v6 => ?_
  refine SJ.q (YldS.yld (y_assign rfl)) rfl ?_
  refine SJ.nil ?_
  refine PJ.next ?_
  obtain ⟨k8, hk9, hm⟩ := withK_open hm
  refine WJ.join (X := (List SparePart)) (fun (x : (List SparePart)) => k8 x = some r) (fun (x : (List SparePart)) => [(3, v6)]) (fun (x : (List SparePart)) => [row v6 51 fSparePart x]) ?_ ?_
  · clear hk9
    refine WJ.seq ?_
    refine WJ.quiet ?_
    refine QJ.step (YldS.yld (y_assign rfl)) rfl ?_
    refine QJ.done ?_
    refine PJ.next ?_
    refine WJ.block ?_
    refine WJ.sel (L' := (fun (x : (List SparePart) × Int) => [row v6 51 fSparePart x.1]) (l4, 0)) [0] ⟨by decide, rfl⟩ ?_
    refine WJ.sub (m' := (fun (x : (List SparePart) × Int) => [(0, v2), (3, v6), (4, .int .i64 x.2)]) (l4, 0)) ⟨rfl, rfl, rfl, trivial⟩ ?_
    refine WJ.loop (X := (List SparePart) × Int) (fun N (x : (List SparePart) × Int) => w_toSparePartS_l1 k8 a1 N x.1 x.2 = some r) (fun (x : (List SparePart) × Int) => [(0, v2), (3, v6), (4, .int .i64 x.2)]) (fun (x : (List SparePart) × Int) => [row v6 51 fSparePart x.1]) ?_ N (l4, 0) hm
    · rintro N ⟨l10, i11⟩ hI
      have hm := hI; clear hI
      cases N with
      | zero => cases hm
      | succ N =>
      unfold w_toSparePartS_l1 at hm
      refine WJ.seq ?_
      refine WJ.seq ?_
      refine WJ.quiet ?_
      refine QJ.step (YldS.yld (y_move rfl)) rfl ?_
      refine QJ.step (YldS.yld (y_move rfl)) rfl ?_
      refine QJ.step (YldS.yld (y_lenS Try.runUnderlying22 hr3 rfl)) rfl ?_
      refine QJ.step (YldS.yld (y_bin rfl rfl rfl)) rfl ?_
      refine QJ.done ?_
      refine PJ.next ?_
      refine WJ.cond (t := decide (i11 < (List.length a1 : Int))) rfl (fun hb12 => ?_) (fun hb12 => ?_)
      · replace hm := ifT hm hb12
        refine WJ.skip ?_
        refine PJ.next ?_
        refine WJ.seq ?_
        refine WJ.block ?_
        refine WJ.reg ?_
        refine SJ.q (YldS.yld (y_move rfl)) rfl ?_
        refine SJ.q (YldS.yld (y_move rfl)) rfl ?_
        refine SJ.q (YldS.yld (y_move rfl)) rfl ?_
        refine SJ.q (YldS.yld (y_move rfl)) rfl ?_
        obtain ⟨e13, h14, hm⟩ := bindS hm
        obtain ⟨ad15, _, rfl, ha16, hy17⟩ := hr3.elem h14
        refine SJ.q (YldS.yld (hy17 Try.runUnderlying22 Try.sizeOf53 rfl rfl)) rfl ?_
        refine SJ.q (YldS.yld (y_loadN Try.isAgg53 Try.sizeOf53 rfl ha16 St.frozenC rfl)) rfl ?_
        obtain ⟨r18, h19, hm⟩ := bindS hm
        refine SJ.q (y_call Try.call47 rfl (RetG.quiet fun w hw => ok_w_toSparePart h19 w )) rfl ?_
        obtain ⟨e20, h21, hm⟩ := bindS hm
        refine SJ.q (YldS.yld (y_ixRow (k := 0) (R := fSparePart) rfl Try.runUnderlying25 Try.sizeOf51 rfl rfl h21)) rfl ?_
        refine SJ.storeRL (k := 0) (i := (Int.toNat i11)) (off := 0) (us := [str r18.name, .int .i64 r18.stock, .int .i64 r18.target, .int .i64 r18.days, .int .i64 r18.instead]) (b := r18) rfl rfl (idx_get h21) rfl rfl Try.sizeOf51 rfl rfl rfl ?_
        refine SJ.nil ?_
        refine PJ.block_normal (PJ.next ?_)
        refine WJ.quiet ?_
        refine QJ.step (YldS.yld (y_move rfl)) rfl ?_
        refine QJ.step (YldS.yld (y_bin rfl rfl rfl)) rfl ?_
        refine QJ.step (YldS.yld (y_assign rfl)) rfl ?_
        refine QJ.done ?_
        exact PJ.round ((List.set l10 (Int.toNat i11) r18), w64 (i11 + 1)) [0] hm ⟨rfl, rfl, rfl, trivial⟩ ⟨by decide, rfl⟩
      · replace hm := ifF hm hb12
        refine WJ.exit ?_
        refine PJ.then_exit (PJ.then_exit (PJ.block_exit ?_))
        exact PJ.joined l10 [0] hm ⟨rfl, trivial⟩ ⟨by decide, rfl⟩
  · rintro l7 hm
    subst hk9
    refine WJ.seq ?_
    refine WJ.quiet ?_
    refine QJ.step (YldS.yld (y_move rfl)) rfl ?_
    refine QJ.step (YldS.yld (y_assign rfl)) rfl ?_
    refine QJ.done ?_
    refine PJ.next ?_
    refine WJ.ret ?_
    obtain rfl := Option.some.inj hm
    refine PJ.sel (L' := [row v6 51 fSparePart l7]) [0] ⟨by decide, rfl⟩ ?_
    exact PJ.retn (vs := [v6]) Try.results15 ⟨rfl, trivial⟩ ⟨_, rfl, rfl⟩

set_option maxRecDepth 100000 in
set_option maxHeartbeats 1000000 in
theorem ok_s_l01Small {c1 : UInt8} {r : Bool} (hm : s_l01Small c1 = some r) (w : World)  :
    Calls Try.prog 72 #[.int .u8 (UInt8.toNat c1 : Int)] w (Ret (cx w) (.bool r)) := by
  unfold s_l01Small at hm
  refine Calls.enter [.int .u8 (UInt8.toNat c1 : Int)] Try.func72 rfl Try.ntmps72 rfl ?_
  refine WJ.seq ?_
  refine WJ.quiet ?_
  refine QJ.step (YldS.yld (y_assign rfl)) rfl ?_
  refine QJ.done ?_
  refine PJ.next ?_
  refine WJ.seq ?_
  refine WJ.quiet ?_
  refine QJ.step (YldS.yld (y_move rfl)) rfl ?_
  refine QJ.step (YldS.yld (y_bin8 c1 (97 : UInt8) rfl rfl rfl)) rfl ?_
  refine QJ.step (YldS.yld (y_move rfl)) rfl ?_
  obtain ⟨t2, h3, hm⟩ := bindS hm
  refine QJ.cut 3 [(8, .bool t2)] ?_ ?_
  · rcases Bool.eq_false_or_eq_true (decide (c1 ≥ (97 : UInt8))) with hb4 | hb4
    · replace h3 := andT h3 hb4
      refine QJ.on rfl rfl (cB hb4) (YldS.yld (y_move rfl)) rfl ?_
      refine QJ.on rfl rfl (cB hb4) (YldS.yld (y_bin8 c1 (122 : UInt8) rfl rfl rfl)) rfl ?_
      refine QJ.step (YldS.yld (y_pick_t (cB hb4) rfl)) rfl ?_
      obtain rfl := Option.some.inj h3
      exact QJ.cut_end ⟨rfl, trivial⟩
    · obtain rfl := andF h3 hb4
      refine QJ.off rfl rfl (cB hb4) rfl rfl ?_
      refine QJ.off rfl rfl (cB hb4) rfl rfl ?_
      refine QJ.step (YldS.yld (y_pick_f (cB hb4) rfl)) rfl ?_
      exact QJ.cut_end ⟨rfl, trivial⟩
  refine QJ.step (YldS.yld (y_assign rfl)) rfl ?_
  refine QJ.done ?_
  refine PJ.next ?_
  refine WJ.ret ?_
  obtain rfl := Option.some.inj hm
  refine PJ.sel (L' := []) [] ⟨List.nodup_nil, rfl⟩ ?_
  exact PJ.retn (vs := [.bool t2]) Try.results72 ⟨rfl, trivial⟩ ⟨rfl, rfl⟩

set_option maxRecDepth 100000 in
set_option maxHeartbeats 1000000 in
theorem ok_s_l01Digit {c1 : UInt8} {r : Bool} (hm : s_l01Digit c1 = some r) (w : World)  :
    Calls Try.prog 73 #[.int .u8 (UInt8.toNat c1 : Int)] w (Ret (cx w) (.bool r)) := by
  unfold s_l01Digit at hm
  refine Calls.enter [.int .u8 (UInt8.toNat c1 : Int)] Try.func73 rfl Try.ntmps73 rfl ?_
  refine WJ.seq ?_
  refine WJ.quiet ?_
  refine QJ.step (YldS.yld (y_assign rfl)) rfl ?_
  refine QJ.done ?_
  refine PJ.next ?_
  refine WJ.seq ?_
  refine WJ.quiet ?_
  refine QJ.step (YldS.yld (y_move rfl)) rfl ?_
  refine QJ.step (YldS.yld (y_bin8 c1 (48 : UInt8) rfl rfl rfl)) rfl ?_
  refine QJ.step (YldS.yld (y_move rfl)) rfl ?_
  obtain ⟨t2, h3, hm⟩ := bindS hm
  refine QJ.cut 3 [(8, .bool t2)] ?_ ?_
  · rcases Bool.eq_false_or_eq_true (decide (c1 ≥ (48 : UInt8))) with hb4 | hb4
    · replace h3 := andT h3 hb4
      refine QJ.on rfl rfl (cB hb4) (YldS.yld (y_move rfl)) rfl ?_
      refine QJ.on rfl rfl (cB hb4) (YldS.yld (y_bin8 c1 (57 : UInt8) rfl rfl rfl)) rfl ?_
      refine QJ.step (YldS.yld (y_pick_t (cB hb4) rfl)) rfl ?_
      obtain rfl := Option.some.inj h3
      exact QJ.cut_end ⟨rfl, trivial⟩
    · obtain rfl := andF h3 hb4
      refine QJ.off rfl rfl (cB hb4) rfl rfl ?_
      refine QJ.off rfl rfl (cB hb4) rfl rfl ?_
      refine QJ.step (YldS.yld (y_pick_f (cB hb4) rfl)) rfl ?_
      exact QJ.cut_end ⟨rfl, trivial⟩
  refine QJ.step (YldS.yld (y_assign rfl)) rfl ?_
  refine QJ.done ?_
  refine PJ.next ?_
  refine WJ.ret ?_
  obtain rfl := Option.some.inj hm
  refine PJ.sel (L' := []) [] ⟨List.nodup_nil, rfl⟩ ?_
  exact PJ.retn (vs := [.bool t2]) Try.results73 ⟨rfl, trivial⟩ ⟨rfl, rfl⟩

set_option maxRecDepth 100000 in
set_option maxHeartbeats 1000000 in
theorem ok_s_IsName {N : Nat} {s1 : Str} {r : Bool} (hm : s_IsName N s1 = some r) (w : World)  :
    Calls Try.prog 64 #[str s1] w (Ret (cx w) (.bool r)) := by
  unfold s_IsName at hm
  refine Calls.enter [str s1] Try.func64 rfl Try.ntmps64 rfl ?_
  refine WJ.seq ?_
  refine WJ.quiet ?_
  refine QJ.step (YldS.yld (y_assign rfl)) rfl ?_
  refine QJ.done ?_
  refine PJ.next ?_
  refine WJ.seq ?_
  refine WJ.seq ?_
  refine WJ.quiet ?_
  refine QJ.step (YldS.yld (y_move rfl)) rfl ?_
  refine QJ.step (YldS.yld (y_binS rfl rfl rfl)) rfl ?_
  refine QJ.step (YldS.yld (y_move rfl)) rfl ?_
  obtain ⟨t2, h3, hm⟩ := bindS hm
  refine QJ.cut 4 [(0, str s1), (10, .bool t2)] ?_ ?_
  · rcases Bool.eq_false_or_eq_true (s1 == []) with hb4 | hb4
    · obtain rfl := orT h3 hb4
      refine QJ.off rfl rfl (cB hb4) rfl rfl ?_
      refine QJ.off rfl rfl (cB hb4) rfl rfl ?_
      refine QJ.off rfl rfl (cB hb4) rfl rfl ?_
      refine QJ.step (YldS.yld (y_pick_t (cB hb4) rfl)) rfl ?_
      exact QJ.cut_end ⟨rfl, rfl, trivial⟩
    · replace h3 := orF h3 hb4
      refine QJ.on rfl rfl (cB hb4) (YldS.yld (y_move rfl)) rfl ?_
      refine QJ.on rfl rfl (cB hb4) (YldS.yld (y_lenStr Try.runUnderlying9 rfl)) rfl ?_
      refine QJ.on rfl rfl (cB hb4) (YldS.yld (y_bin rfl rfl rfl)) rfl ?_
      refine QJ.step (YldS.yld (y_pick_f (cB hb4) rfl)) rfl ?_
      obtain rfl := Option.some.inj h3
      exact QJ.cut_end ⟨rfl, rfl, trivial⟩
  refine QJ.step (YldS.yld (y_move rfl)) rfl ?_
  obtain ⟨t5, h6, hm⟩ := bindS hm
  refine QJ.cut 5 [(0, str s1), (16, .bool t5)] ?_ ?_
  · rcases Bool.eq_false_or_eq_true t2 with hb7 | hb7
    · obtain rfl := orT h6 hb7
      refine QJ.off rfl rfl (cB hb7) rfl rfl ?_
      refine QJ.off rfl rfl (cB hb7) rfl rfl ?_
      refine QJ.off rfl rfl (cB hb7) rfl rfl ?_
      refine QJ.off rfl rfl (cB hb7) rfl rfl ?_
      refine QJ.step (YldS.yld (y_pick_t (cB hb7) rfl)) rfl ?_
      exact QJ.cut_end ⟨rfl, rfl, trivial⟩
    · replace h6 := orF h6 hb7
      refine QJ.on rfl rfl (cB hb7) (YldS.yld (y_move rfl)) rfl ?_
      obtain ⟨c8, h9, h6⟩ := bindS h6
      refine QJ.on rfl rfl (cB hb7) (YldS.yld (y_idxStr Try.runUnderlying9 rfl rfl h9)) rfl ?_
      obtain ⟨r10, h11, h6⟩ := bindS h6
      refine QJ.on rfl rfl (cB hb7) (y_call Try.call72 rfl (RetG.quiet fun w hw => ok_s_l01Small h11 w )) rfl ?_
      refine QJ.on rfl rfl (cB hb7) (YldS.yld (y_not rfl)) rfl ?_
      refine QJ.step (YldS.yld (y_pick_f (cB hb7) rfl)) rfl ?_
      obtain rfl := Option.some.inj h6
      exact QJ.cut_end ⟨rfl, rfl, trivial⟩
  refine QJ.done ?_
  refine PJ.next ?_
  refine WJ.cond (t := t5) rfl (fun hb12 => ?_) (fun hb12 => ?_)
  · replace hm := ifT hm hb12
    refine WJ.seq ?_
    refine WJ.quiet ?_
    refine QJ.step (YldS.yld (y_assign rfl)) rfl ?_
    refine QJ.done ?_
    refine PJ.next ?_
    refine WJ.ret ?_
    refine PJ.then_ret ?_
    obtain rfl := Option.some.inj hm
    refine PJ.sel (L' := []) [] ⟨List.nodup_nil, rfl⟩ ?_
    exact PJ.retn (vs := [.bool false]) Try.results64 ⟨rfl, trivial⟩ ⟨rfl, rfl⟩
  · replace hm := ifF hm hb12
    refine WJ.skip ?_
    refine PJ.next ?_
    obtain ⟨k13, hk14, hm⟩ := withK_open hm
    refine WJ.join (X := Unit) (fun (_ : Unit) => k13  = some r) (fun (_ : Unit) => []) (fun (_ : Unit) => []) ?_ ?_
    · clear hk14
      refine WJ.seq ?_
      refine WJ.quiet ?_
      refine QJ.step (YldS.yld (y_assign rfl)) rfl ?_
      refine QJ.done ?_
      refine PJ.next ?_
      refine WJ.block ?_
      refine WJ.sel (L' := (fun (x : Int) => []) 0) [] ⟨List.nodup_nil, rfl⟩ ?_
      refine WJ.sub (m' := (fun (x : Int) => [(0, str s1), (3, .int .i64 x)]) 0) ⟨rfl, rfl, trivial⟩ ?_
      refine WJ.loop (X := Int) (fun N (x : Int) => s_IsName_l1 k13 s1 N x = some r) (fun (x : Int) => [(0, str s1), (3, .int .i64 x)]) (fun (x : Int) => []) ?_ N 0 hm
      · rintro N i15 hI
        have hm := hI; clear hI
        cases N with
        | zero => cases hm
        | succ N =>
        unfold s_IsName_l1 at hm
        refine WJ.seq ?_
        refine WJ.seq ?_
        refine WJ.quiet ?_
        refine QJ.step (YldS.yld (y_move rfl)) rfl ?_
        refine QJ.step (YldS.yld (y_move rfl)) rfl ?_
        refine QJ.step (YldS.yld (y_lenStr Try.runUnderlying9 rfl)) rfl ?_
        refine QJ.step (YldS.yld (y_bin rfl rfl rfl)) rfl ?_
        refine QJ.done ?_
        refine PJ.next ?_
        refine WJ.cond (t := decide (i15 < (List.length s1 : Int))) rfl (fun hb16 => ?_) (fun hb16 => ?_)
        · replace hm := ifT hm hb16
          refine WJ.skip ?_
          refine PJ.next ?_
          refine WJ.seq ?_
          refine WJ.block ?_
          refine WJ.seq ?_
          refine WJ.quiet ?_
          refine QJ.step (YldS.yld (y_move rfl)) rfl ?_
          refine QJ.step (YldS.yld (y_move rfl)) rfl ?_
          obtain ⟨c17, h18, hm⟩ := bindS hm
          refine QJ.step (YldS.yld (y_idxStr Try.runUnderlying9 rfl rfl h18)) rfl ?_
          obtain ⟨r19, h20, hm⟩ := bindS hm
          refine QJ.step (y_call Try.call72 rfl (RetG.quiet fun w hw => ok_s_l01Small h20 w )) rfl ?_
          refine QJ.step (YldS.yld (y_not rfl)) rfl ?_
          refine QJ.step (YldS.yld (y_move rfl)) rfl ?_
          obtain ⟨t21, h22, hm⟩ := bindS hm
          refine QJ.cut 6 [(0, str s1), (3, .int .i64 i15), (34, .bool t21)] ?_ ?_
          · rcases Bool.eq_false_or_eq_true (!r19) with hb23 | hb23
            · replace h22 := andT h22 hb23
              refine QJ.on rfl rfl (cB hb23) (YldS.yld (y_move rfl)) rfl ?_
              refine QJ.on rfl rfl (cB hb23) (YldS.yld (y_move rfl)) rfl ?_
              obtain ⟨c24, h25, h22⟩ := bindS h22
              refine QJ.on rfl rfl (cB hb23) (YldS.yld (y_idxStr Try.runUnderlying9 rfl rfl h25)) rfl ?_
              obtain ⟨r26, h27, h22⟩ := bindS h22
              refine QJ.on rfl rfl (cB hb23) (y_call Try.call73 rfl (RetG.quiet fun w hw => ok_s_l01Digit h27 w )) rfl ?_
              refine QJ.on rfl rfl (cB hb23) (YldS.yld (y_not rfl)) rfl ?_
              refine QJ.step (YldS.yld (y_pick_t (cB hb23) rfl)) rfl ?_
              obtain rfl := Option.some.inj h22
              exact QJ.cut_end ⟨rfl, rfl, rfl, trivial⟩
            · obtain rfl := andF h22 hb23
              refine QJ.off rfl rfl (cB hb23) rfl rfl ?_
              refine QJ.off rfl rfl (cB hb23) rfl rfl ?_
              refine QJ.off rfl rfl (cB hb23) rfl rfl ?_
              refine QJ.off rfl rfl (cB hb23) rfl rfl ?_
              refine QJ.off rfl rfl (cB hb23) rfl rfl ?_
              refine QJ.step (YldS.yld (y_pick_f (cB hb23) rfl)) rfl ?_
              exact QJ.cut_end ⟨rfl, rfl, rfl, trivial⟩
          refine QJ.step (YldS.yld (y_move rfl)) rfl ?_
          obtain ⟨t28, h29, hm⟩ := bindS hm
          refine QJ.cut 5 [(0, str s1), (3, .int .i64 i15), (40, .bool t28)] ?_ ?_
          · rcases Bool.eq_false_or_eq_true t21 with hb30 | hb30
            · replace h29 := andT h29 hb30
              refine QJ.on rfl rfl (cB hb30) (YldS.yld (y_move rfl)) rfl ?_
              refine QJ.on rfl rfl (cB hb30) (YldS.yld (y_move rfl)) rfl ?_
              obtain ⟨c31, h32, h29⟩ := bindS h29
              refine QJ.on rfl rfl (cB hb30) (YldS.yld (y_idxStr Try.runUnderlying9 rfl rfl h32)) rfl ?_
              refine QJ.on rfl rfl (cB hb30) (YldS.yld (y_bin8 c31 (45 : UInt8) rfl rfl rfl)) rfl ?_
              refine QJ.step (YldS.yld (y_pick_t (cB hb30) rfl)) rfl ?_
              obtain rfl := Option.some.inj h29
              exact QJ.cut_end ⟨rfl, rfl, rfl, trivial⟩
            · obtain rfl := andF h29 hb30
              refine QJ.off rfl rfl (cB hb30) rfl rfl ?_
              refine QJ.off rfl rfl (cB hb30) rfl rfl ?_
              refine QJ.off rfl rfl (cB hb30) rfl rfl ?_
              refine QJ.off rfl rfl (cB hb30) rfl rfl ?_
              refine QJ.step (YldS.yld (y_pick_f (cB hb30) rfl)) rfl ?_
              exact QJ.cut_end ⟨rfl, rfl, rfl, trivial⟩
          refine QJ.done ?_
          refine PJ.next ?_
          refine WJ.cond (t := t28) rfl (fun hb33 => ?_) (fun hb33 => ?_)
          · replace hm := ifT hm hb33
            refine WJ.seq ?_
            refine WJ.quiet ?_
            refine QJ.step (YldS.yld (y_assign rfl)) rfl ?_
            refine QJ.done ?_
            refine PJ.next ?_
            refine WJ.ret ?_
            refine PJ.block_ret (PJ.then_ret (PJ.then_ret (PJ.block_ret (PJ.then_ret ?_))))
            obtain rfl := Option.some.inj hm
            refine PJ.sel (L' := []) [] ⟨List.nodup_nil, rfl⟩ ?_
            exact PJ.retn (vs := [.bool false]) Try.results64 ⟨rfl, trivial⟩ ⟨rfl, rfl⟩
          · replace hm := ifF hm hb33
            refine WJ.skip ?_
            refine PJ.block_normal (PJ.next ?_)
            refine WJ.quiet ?_
            refine QJ.step (YldS.yld (y_move rfl)) rfl ?_
            refine QJ.step (YldS.yld (y_bin rfl rfl rfl)) rfl ?_
            refine QJ.step (YldS.yld (y_assign rfl)) rfl ?_
            refine QJ.done ?_
            exact PJ.round (w64 (i15 + 1)) [] hm ⟨rfl, rfl, trivial⟩ ⟨List.nodup_nil, rfl⟩
        · replace hm := ifF hm hb16
          refine WJ.exit ?_
          refine PJ.then_exit (PJ.then_exit (PJ.block_exit ?_))
          exact PJ.joined () [] hm trivial ⟨List.nodup_nil, rfl⟩
    · rintro _ hm
      subst hk14
      refine WJ.seq ?_
      refine WJ.quiet ?_
      refine QJ.step (YldS.yld (y_assign rfl)) rfl ?_
      refine QJ.done ?_
      refine PJ.next ?_
      refine WJ.ret ?_
      obtain rfl := Option.some.inj hm
      refine PJ.sel (L' := []) [] ⟨List.nodup_nil, rfl⟩ ?_
      exact PJ.retn (vs := [.bool true]) Try.results64 ⟨rfl, trivial⟩ ⟨rfl, rfl⟩

set_option maxRecDepth 100000 in
set_option maxHeartbeats 1000000 in
theorem ok_s_l00In {n1 : Int} {low2 : Int} {high3 : Int} {r : Bool} (hm : s_l00In n1 low2 high3 = some r) (w : World)  :
    Calls Try.prog 66 #[.int .i64 n1, .int .i64 low2, .int .i64 high3] w (Ret (cx w) (.bool r)) := by
  unfold s_l00In at hm
  refine Calls.enter [.int .i64 n1, .int .i64 low2, .int .i64 high3] Try.func66 rfl Try.ntmps66 rfl ?_
  refine WJ.seq ?_
  refine WJ.quiet ?_
  refine QJ.step (YldS.yld (y_assign rfl)) rfl ?_
  refine QJ.done ?_
  refine PJ.next ?_
  refine WJ.seq ?_
  refine WJ.quiet ?_
  refine QJ.step (YldS.yld (y_move rfl)) rfl ?_
  refine QJ.step (YldS.yld (y_move rfl)) rfl ?_
  refine QJ.step (YldS.yld (y_bin rfl rfl rfl)) rfl ?_
  refine QJ.step (YldS.yld (y_move rfl)) rfl ?_
  obtain ⟨t4, h5, hm⟩ := bindS hm
  refine QJ.cut 4 [(14, .bool t4)] ?_ ?_
  · rcases Bool.eq_false_or_eq_true (decide (n1 ≥ low2)) with hb6 | hb6
    · replace h5 := andT h5 hb6
      refine QJ.on rfl rfl (cB hb6) (YldS.yld (y_move rfl)) rfl ?_
      refine QJ.on rfl rfl (cB hb6) (YldS.yld (y_move rfl)) rfl ?_
      refine QJ.on rfl rfl (cB hb6) (YldS.yld (y_bin rfl rfl rfl)) rfl ?_
      refine QJ.step (YldS.yld (y_pick_t (cB hb6) rfl)) rfl ?_
      obtain rfl := Option.some.inj h5
      exact QJ.cut_end ⟨rfl, trivial⟩
    · obtain rfl := andF h5 hb6
      refine QJ.off rfl rfl (cB hb6) rfl rfl ?_
      refine QJ.off rfl rfl (cB hb6) rfl rfl ?_
      refine QJ.off rfl rfl (cB hb6) rfl rfl ?_
      refine QJ.step (YldS.yld (y_pick_f (cB hb6) rfl)) rfl ?_
      exact QJ.cut_end ⟨rfl, trivial⟩
  refine QJ.step (YldS.yld (y_assign rfl)) rfl ?_
  refine QJ.done ?_
  refine PJ.next ?_
  refine WJ.ret ?_
  obtain rfl := Option.some.inj hm
  refine PJ.sel (L' := []) [] ⟨List.nodup_nil, rfl⟩ ?_
  exact PJ.retn (vs := [.bool t4]) Try.results66 ⟨rfl, trivial⟩ ⟨rfl, rfl⟩

set_option maxRecDepth 100000 in
set_option maxHeartbeats 1000000 in
theorem ok_s_l24Many {n1 : Int} {r : Bool} (hm : s_l24Many n1 = some r) (w : World)  :
    Calls Try.prog 65 #[.int .i64 n1] w (Ret (cx w) (.bool r)) := by
  unfold s_l24Many at hm
  refine Calls.enter [.int .i64 n1] Try.func65 rfl Try.ntmps65 rfl ?_
  refine WJ.seq ?_
  refine WJ.quiet ?_
  refine QJ.step (YldS.yld (y_assign rfl)) rfl ?_
  refine QJ.done ?_
  refine PJ.next ?_
  refine WJ.seq ?_
  refine WJ.quiet ?_
  refine QJ.step (YldS.yld (y_move rfl)) rfl ?_
  obtain ⟨r2, h3, hm⟩ := bindS hm
  refine QJ.step (y_call Try.call66 rfl (RetG.quiet fun w hw => ok_s_l00In h3 w )) rfl ?_
  refine QJ.step (YldS.yld (y_assign rfl)) rfl ?_
  refine QJ.done ?_
  refine PJ.next ?_
  refine WJ.ret ?_
  obtain rfl := Option.some.inj hm
  refine PJ.sel (L' := []) [] ⟨List.nodup_nil, rfl⟩ ?_
  exact PJ.retn (vs := [.bool r2]) Try.results65 ⟨rfl, trivial⟩ ⟨rfl, rfl⟩

set_option maxRecDepth 100000 in
set_option maxHeartbeats 1000000 in
theorem ok_s_l24Ok {N : Nat} {list1 : List SparePart} {r : Bool} (hm : s_l24Ok N list1 = some r) (w : World) (v2 : Value) (hr3 : RdS w (cx w).Fz v2 fSparePart.rp list1) :
    Calls Try.prog 49 #[v2] w (Ret (cx w) (.bool r)) := by
  unfold s_l24Ok at hm
  refine Calls.enter [v2] Try.func49 rfl Try.ntmps49 rfl ?_
  refine WJ.seq ?_
  refine WJ.quiet ?_
  refine QJ.step (YldS.yld (y_assign rfl)) rfl ?_
  refine QJ.done ?_
  refine PJ.next ?_
  refine WJ.seq ?_
  refine WJ.quiet ?_
  refine QJ.step (YldS.yld (y_move rfl)) rfl ?_
  refine QJ.step (YldS.yld (y_lenS Try.runUnderlying25 hr3 rfl)) rfl ?_
  refine QJ.step (YldS.yld (y_assign rfl)) rfl ?_
  refine QJ.done ?_
  refine PJ.next ?_
  obtain ⟨k4, hk5, hm⟩ := withK_open hm
  refine WJ.join (X := Unit) (fun (_ : Unit) => k4  = some r) (fun (_ : Unit) => [(3, .int .i64 (List.length list1 : Int))]) (fun (_ : Unit) => []) ?_ ?_
  · clear hk5
    refine WJ.seq ?_
    refine WJ.quiet ?_
    refine QJ.step (YldS.yld (y_assign rfl)) rfl ?_
    refine QJ.done ?_
    refine PJ.next ?_
    refine WJ.block ?_
    refine WJ.sel (L' := (fun (x : Int) => []) 0) [] ⟨List.nodup_nil, rfl⟩ ?_
    refine WJ.sub (m' := (fun (x : Int) => [(0, v2), (3, .int .i64 (List.length list1 : Int)), (4, .int .i64 x)]) 0) ⟨rfl, rfl, rfl, trivial⟩ ?_
    refine WJ.loop (X := Int) (fun N (x : Int) => s_l24Ok_l1 k4 list1 N x = some r) (fun (x : Int) => [(0, v2), (3, .int .i64 (List.length list1 : Int)), (4, .int .i64 x)]) (fun (x : Int) => []) ?_ N 0 hm
    · rintro N x6 hI
      have hm := hI; clear hI
      cases N with
      | zero => cases hm
      | succ N =>
      unfold s_l24Ok_l1 at hm
      refine WJ.seq ?_
      refine WJ.seq ?_
      refine WJ.quiet ?_
      refine QJ.step (YldS.yld (y_move rfl)) rfl ?_
      refine QJ.step (YldS.yld (y_move rfl)) rfl ?_
      refine QJ.step (YldS.yld (y_lenS Try.runUnderlying25 hr3 rfl)) rfl ?_
      refine QJ.step (YldS.yld (y_bin rfl rfl rfl)) rfl ?_
      refine QJ.done ?_
      refine PJ.next ?_
      refine WJ.cond (t := decide (x6 < (List.length list1 : Int))) rfl (fun hb7 => ?_) (fun hb7 => ?_)
      · replace hm := ifT hm hb7
        refine WJ.skip ?_
        refine PJ.next ?_
        obtain ⟨k9, hk9, hm⟩ := withK_open hm
        refine WJ.join (X := Unit) (fun (_ : Unit) => k9  = some r) (fun (_ : Unit) => [(0, v2), (3, .int .i64 (List.length list1 : Int)), (4, .int .i64 x6)]) (fun (_ : Unit) => []) ?_ ?_
        · clear hk9
          refine WJ.block ?_
          refine WJ.seq ?_
          refine WJ.quiet ?_
          refine QJ.step (YldS.yld (y_move rfl)) rfl ?_
          refine QJ.step (YldS.yld (y_move rfl)) rfl ?_
          obtain ⟨e10, h11, hm⟩ := bindS hm
          obtain ⟨ad12, _, rfl, ha13, hy14⟩ := hr3.elem h11
          refine QJ.step (YldS.yld (hy14 Try.runUnderlying25 Try.sizeOf51 rfl rfl)) rfl ?_
          refine QJ.step (YldS.yld (y_assign rfl)) rfl ?_
          refine QJ.done ?_
          refine PJ.next ?_
          refine WJ.seq ?_
          refine WJ.seq ?_
          refine WJ.quiet ?_
          refine QJ.step (YldS.yld (y_move rfl)) rfl ?_
          refine QJ.step (YldS.yld (y_nil rfl)) rfl ?_
          refine QJ.step (YldS.yld (y_fld (ad := ad12) fld51_0 rfl)) rfl ?_
          refine QJ.step (YldS.yld (y_load1 (v := str e10.name) Try.isAgg9 (ha13.sub 0 1) St.frozenC rfl)) rfl ?_
          obtain ⟨r15, h16, hm⟩ := bindS hm
          refine QJ.step (y_call Try.call64 rfl (RetG.quiet fun w hw => ok_s_IsName h16 w )) rfl ?_
          refine QJ.step (YldS.yld (y_not rfl)) rfl ?_
          refine QJ.step (YldS.yld (y_move rfl)) rfl ?_
          obtain ⟨t17, h18, hm⟩ := bindS hm
          refine QJ.cut 7 [(0, v2), (3, .int .i64 (List.length list1 : Int)), (4, .int .i64 x6), (5, .pointer (some ad12)), (33, .bool t17)] ?_ ?_
          · rcases Bool.eq_false_or_eq_true (!r15) with hb19 | hb19
            · obtain rfl := orT h18 hb19
              refine QJ.off rfl rfl (cB hb19) rfl rfl ?_
              refine QJ.off rfl rfl (cB hb19) rfl rfl ?_
              refine QJ.off rfl rfl (cB hb19) rfl rfl ?_
              refine QJ.off rfl rfl (cB hb19) rfl rfl ?_
              refine QJ.off rfl rfl (cB hb19) rfl rfl ?_
              refine QJ.off rfl rfl (cB hb19) rfl rfl ?_
              refine QJ.step (YldS.yld (y_pick_t (cB hb19) rfl)) rfl ?_
              exact QJ.cut_end ⟨rfl, rfl, rfl, rfl, rfl, trivial⟩
            · replace h18 := orF h18 hb19
              refine QJ.on rfl rfl (cB hb19) (YldS.yld (y_move rfl)) rfl ?_
              refine QJ.on rfl rfl (cB hb19) (YldS.yld (y_nil rfl)) rfl ?_
              refine QJ.on rfl rfl (cB hb19) (YldS.yld (y_fld (ad := ad12) fld51_1 rfl)) rfl ?_
              refine QJ.on rfl rfl (cB hb19) (YldS.yld (y_load1 (v := .int .i64 e10.stock) Try.isAgg2 (ha13.sub 1 1) St.frozenC rfl)) rfl ?_
              obtain ⟨r20, h21, h18⟩ := bindS h18
              refine QJ.on rfl rfl (cB hb19) (y_call Try.call65 rfl (RetG.quiet fun w hw => ok_s_l24Many h21 w )) rfl ?_
              refine QJ.on rfl rfl (cB hb19) (YldS.yld (y_not rfl)) rfl ?_
              refine QJ.step (YldS.yld (y_pick_f (cB hb19) rfl)) rfl ?_
              obtain rfl := Option.some.inj h18
              exact QJ.cut_end ⟨rfl, rfl, rfl, rfl, rfl, trivial⟩
          refine QJ.step (YldS.yld (y_move rfl)) rfl ?_
          obtain ⟨t22, h23, hm⟩ := bindS hm
          refine QJ.cut 7 [(0, v2), (3, .int .i64 (List.length list1 : Int)), (4, .int .i64 x6), (5, .pointer (some ad12)), (41, .bool t22)] ?_ ?_
          · rcases Bool.eq_false_or_eq_true t17 with hb24 | hb24
            · obtain rfl := orT h23 hb24
              refine QJ.off rfl rfl (cB hb24) rfl rfl ?_
              refine QJ.off rfl rfl (cB hb24) rfl rfl ?_
              refine QJ.off rfl rfl (cB hb24) rfl rfl ?_
              refine QJ.off rfl rfl (cB hb24) rfl rfl ?_
              refine QJ.off rfl rfl (cB hb24) rfl rfl ?_
              refine QJ.off rfl rfl (cB hb24) rfl rfl ?_
              refine QJ.step (YldS.yld (y_pick_t (cB hb24) rfl)) rfl ?_
              exact QJ.cut_end ⟨rfl, rfl, rfl, rfl, rfl, trivial⟩
            · replace h23 := orF h23 hb24
              refine QJ.on rfl rfl (cB hb24) (YldS.yld (y_move rfl)) rfl ?_
              refine QJ.on rfl rfl (cB hb24) (YldS.yld (y_nil rfl)) rfl ?_
              refine QJ.on rfl rfl (cB hb24) (YldS.yld (y_fld (ad := ad12) fld51_2 rfl)) rfl ?_
              refine QJ.on rfl rfl (cB hb24) (YldS.yld (y_load1 (v := .int .i64 e10.target) Try.isAgg2 (ha13.sub 2 1) St.frozenC rfl)) rfl ?_
              obtain ⟨r25, h26, h23⟩ := bindS h23
              refine QJ.on rfl rfl (cB hb24) (y_call Try.call65 rfl (RetG.quiet fun w hw => ok_s_l24Many h26 w )) rfl ?_
              refine QJ.on rfl rfl (cB hb24) (YldS.yld (y_not rfl)) rfl ?_
              refine QJ.step (YldS.yld (y_pick_f (cB hb24) rfl)) rfl ?_
              obtain rfl := Option.some.inj h23
              exact QJ.cut_end ⟨rfl, rfl, rfl, rfl, rfl, trivial⟩
          refine QJ.step (YldS.yld (y_move rfl)) rfl ?_
          obtain ⟨t27, h28, hm⟩ := bindS hm
          refine QJ.cut 7 [(0, v2), (3, .int .i64 (List.length list1 : Int)), (4, .int .i64 x6), (5, .pointer (some ad12)), (49, .bool t27)] ?_ ?_
          · rcases Bool.eq_false_or_eq_true t22 with hb29 | hb29
            · obtain rfl := orT h28 hb29
              refine QJ.off rfl rfl (cB hb29) rfl rfl ?_
              refine QJ.off rfl rfl (cB hb29) rfl rfl ?_
              refine QJ.off rfl rfl (cB hb29) rfl rfl ?_
              refine QJ.off rfl rfl (cB hb29) rfl rfl ?_
              refine QJ.off rfl rfl (cB hb29) rfl rfl ?_
              refine QJ.off rfl rfl (cB hb29) rfl rfl ?_
              refine QJ.step (YldS.yld (y_pick_t (cB hb29) rfl)) rfl ?_
              exact QJ.cut_end ⟨rfl, rfl, rfl, rfl, rfl, trivial⟩
            · replace h28 := orF h28 hb29
              refine QJ.on rfl rfl (cB hb29) (YldS.yld (y_move rfl)) rfl ?_
              refine QJ.on rfl rfl (cB hb29) (YldS.yld (y_nil rfl)) rfl ?_
              refine QJ.on rfl rfl (cB hb29) (YldS.yld (y_fld (ad := ad12) fld51_3 rfl)) rfl ?_
              refine QJ.on rfl rfl (cB hb29) (YldS.yld (y_load1 (v := .int .i64 e10.days) Try.isAgg2 (ha13.sub 3 1) St.frozenC rfl)) rfl ?_
              obtain ⟨r30, h31, h28⟩ := bindS h28
              refine QJ.on rfl rfl (cB hb29) (y_call Try.call66 rfl (RetG.quiet fun w hw => ok_s_l00In h31 w )) rfl ?_
              refine QJ.on rfl rfl (cB hb29) (YldS.yld (y_not rfl)) rfl ?_
              refine QJ.step (YldS.yld (y_pick_f (cB hb29) rfl)) rfl ?_
              obtain rfl := Option.some.inj h28
              exact QJ.cut_end ⟨rfl, rfl, rfl, rfl, rfl, trivial⟩
          refine QJ.step (YldS.yld (y_move rfl)) rfl ?_
          obtain ⟨t32, h33, hm⟩ := bindS hm
          refine QJ.cut 9 [(0, v2), (3, .int .i64 (List.length list1 : Int)), (4, .int .i64 x6), (5, .pointer (some ad12)), (59, .bool t32)] ?_ ?_
          · rcases Bool.eq_false_or_eq_true t27 with hb34 | hb34
            · obtain rfl := orT h33 hb34
              refine QJ.off rfl rfl (cB hb34) rfl rfl ?_
              refine QJ.off rfl rfl (cB hb34) rfl rfl ?_
              refine QJ.off rfl rfl (cB hb34) rfl rfl ?_
              refine QJ.off rfl rfl (cB hb34) rfl rfl ?_
              refine QJ.off rfl rfl (cB hb34) rfl rfl ?_
              refine QJ.off rfl rfl (cB hb34) rfl rfl ?_
              refine QJ.off rfl rfl (cB hb34) rfl rfl ?_
              refine QJ.off rfl rfl (cB hb34) rfl rfl ?_
              refine QJ.step (YldS.yld (y_pick_t (cB hb34) rfl)) rfl ?_
              exact QJ.cut_end ⟨rfl, rfl, rfl, rfl, rfl, trivial⟩
            · replace h33 := orF h33 hb34
              refine QJ.on rfl rfl (cB hb34) (YldS.yld (y_move rfl)) rfl ?_
              refine QJ.on rfl rfl (cB hb34) (YldS.yld (y_nil rfl)) rfl ?_
              refine QJ.on rfl rfl (cB hb34) (YldS.yld (y_fld (ad := ad12) fld51_4 rfl)) rfl ?_
              refine QJ.on rfl rfl (cB hb34) (YldS.yld (y_load1 (v := .int .i64 e10.instead) Try.isAgg2 (ha13.sub 4 1) St.frozenC rfl)) rfl ?_
              refine QJ.on rfl rfl (cB hb34) (YldS.yld (y_move rfl)) rfl ?_
              refine QJ.on rfl rfl (cB hb34) (YldS.yld (y_bin rfl rfl rfl)) rfl ?_
              obtain ⟨r35, h36, h33⟩ := bindS h33
              refine QJ.on rfl rfl (cB hb34) (y_call Try.call66 rfl (RetG.quiet fun w hw => ok_s_l00In h36 w )) rfl ?_
              refine QJ.on rfl rfl (cB hb34) (YldS.yld (y_not rfl)) rfl ?_
              refine QJ.step (YldS.yld (y_pick_f (cB hb34) rfl)) rfl ?_
              obtain rfl := Option.some.inj h33
              exact QJ.cut_end ⟨rfl, rfl, rfl, rfl, rfl, trivial⟩
          refine QJ.done ?_
          refine PJ.next ?_
          refine WJ.cond (t := t32) rfl (fun hb37 => ?_) (fun hb37 => ?_)
          · replace hm := ifT hm hb37
            refine WJ.seq ?_
            refine WJ.quiet ?_
            refine QJ.step (YldS.yld (y_assign rfl)) rfl ?_
            refine QJ.done ?_
            refine PJ.next ?_
            refine WJ.ret ?_
            refine PJ.then_ret (PJ.block_ret (PJ.then_ret (PJ.then_ret (PJ.block_ret (PJ.then_ret ?_)))))
            obtain rfl := Option.some.inj hm
            refine PJ.sel (L' := []) [] ⟨List.nodup_nil, rfl⟩ ?_
            exact PJ.retn (vs := [.bool false]) Try.results49 ⟨rfl, trivial⟩ ⟨rfl, rfl⟩
          · replace hm := ifF hm hb37
            refine WJ.skip ?_
            refine PJ.next ?_
            obtain ⟨k40, hk39, hm⟩ := withK_open hm
            refine WJ.join (X := Unit) (fun (_ : Unit) => k40  = some r) (fun (_ : Unit) => [(0, v2), (3, .int .i64 (List.length list1 : Int)), (4, .int .i64 x6), (5, .pointer (some ad12))]) (fun (_ : Unit) => []) ?_ ?_
            · clear hk39
              refine WJ.seq ?_
              refine WJ.quiet ?_
              refine QJ.step (YldS.yld (y_assign rfl)) rfl ?_
              refine QJ.done ?_
              refine PJ.next ?_
              refine WJ.block ?_
              refine WJ.sel (L' := (fun (x : Int) => []) 0) [] ⟨List.nodup_nil, rfl⟩ ?_
              refine WJ.sub (m' := (fun (x : Int) => [(0, v2), (3, .int .i64 (List.length list1 : Int)), (4, .int .i64 x6), (5, .pointer (some ad12)), (6, .int .i64 x)]) 0) ⟨rfl, rfl, rfl, rfl, rfl, trivial⟩ ?_
              refine WJ.loop (X := Int) (fun N (x : Int) => s_l24Ok_l2 k40 list1 x6 e10 N x = some r) (fun (x : Int) => [(0, v2), (3, .int .i64 (List.length list1 : Int)), (4, .int .i64 x6), (5, .pointer (some ad12)), (6, .int .i64 x)]) (fun (x : Int) => []) ?_ N 0 hm
              · rintro N x40 hI
                have hm := hI; clear hI
                cases N with
                | zero => cases hm
                | succ N =>
                unfold s_l24Ok_l2 at hm
                refine WJ.seq ?_
                refine WJ.seq ?_
                refine WJ.quiet ?_
                refine QJ.step (YldS.yld (y_move rfl)) rfl ?_
                refine QJ.step (YldS.yld (y_move rfl)) rfl ?_
                refine QJ.step (YldS.yld (y_bin rfl rfl rfl)) rfl ?_
                refine QJ.done ?_
                refine PJ.next ?_
                refine WJ.cond (t := decide (x40 < x6)) rfl (fun hb41 => ?_) (fun hb41 => ?_)
                · replace hm := ifT hm hb41
                  refine WJ.skip ?_
                  refine PJ.next ?_
                  refine WJ.seq ?_
                  refine WJ.block ?_
                  refine WJ.seq ?_
                  refine WJ.quiet_draw follows (by kernel_rfl) ?_
                  refine QJ.step (YldS.yld (y_move rfl)) rfl ?_
                  refine QJ.step (YldS.yld (y_move rfl)) rfl ?_
                  obtain ⟨e42, h43, hm⟩ := bindS hm
                  obtain ⟨ad44, _, rfl, ha45, hy46⟩ := hr3.elem h43
                  refine QJ.step (YldS.yld (hy46 Try.runUnderlying25 Try.sizeOf51 rfl rfl)) rfl ?_
                  refine QJ.step (YldS.yld (y_fld (ad := ad44) fld51_0 rfl)) rfl ?_
                  refine QJ.step (YldS.yld (y_load1 (v := str e42.name) Try.isAgg9 (ha45.sub 0 1) St.frozenC rfl)) rfl ?_
                  refine QJ.step (YldS.yld (y_move rfl)) rfl ?_
                  refine QJ.step (YldS.yld (y_nil rfl)) rfl ?_
                  refine QJ.step (YldS.yld (y_fld (ad := ad12) fld51_0 rfl)) rfl ?_
                  refine QJ.step (YldS.yld (y_load1 (v := str e10.name) Try.isAgg9 (ha13.sub 0 1) St.frozenC rfl)) rfl ?_
                  refine QJ.step (YldS.yld (y_binS rfl rfl rfl)) rfl ?_
                  refine QJ.done ?_
                  refine PJ.next ?_
                  refine WJ.cond (t := (e42.name == e10.name)) rfl (fun hb47 => ?_) (fun hb47 => ?_)
                  · replace hm := ifT hm hb47
                    refine WJ.seq ?_
                    refine WJ.quiet ?_
                    refine QJ.step (YldS.yld (y_assign rfl)) rfl ?_
                    refine QJ.done ?_
                    refine PJ.next ?_
                    refine WJ.ret ?_
                    refine PJ.block_ret (PJ.then_ret (PJ.then_ret (PJ.block_ret (PJ.then_ret (PJ.block_ret (PJ.then_ret (PJ.then_ret (PJ.block_ret (PJ.then_ret ?_)))))))))
                    obtain rfl := Option.some.inj hm
                    refine PJ.sel (L' := []) [] ⟨List.nodup_nil, rfl⟩ ?_
                    exact PJ.retn (vs := [.bool false]) Try.results49 ⟨rfl, trivial⟩ ⟨rfl, rfl⟩
                  · replace hm := ifF hm hb47
                    refine WJ.skip ?_
                    refine PJ.block_normal (PJ.next ?_)
                    refine WJ.quiet ?_
                    refine QJ.step (YldS.yld (y_move rfl)) rfl ?_
                    refine QJ.step (YldS.yld (y_bin rfl rfl rfl)) rfl ?_
                    refine QJ.step (YldS.yld (y_assign rfl)) rfl ?_
                    refine QJ.done ?_
                    exact PJ.round (w64 (x40 + 1)) [] hm ⟨rfl, rfl, rfl, rfl, rfl, trivial⟩ ⟨List.nodup_nil, rfl⟩
                · replace hm := ifF hm hb41
                  refine WJ.exit ?_
                  refine PJ.then_exit (PJ.then_exit (PJ.block_exit ?_))
                  exact PJ.joined () [] hm ⟨rfl, rfl, rfl, rfl, trivial⟩ ⟨List.nodup_nil, rfl⟩
            · rintro _ hm
              subst hk39
              refine WJ.seq ?_
              refine WJ.quiet ?_
              refine QJ.step (YldS.yld (y_move rfl)) rfl ?_
              refine QJ.step (YldS.yld (y_nil rfl)) rfl ?_
              refine QJ.step (YldS.yld (y_fld (ad := ad12) fld51_4 rfl)) rfl ?_
              refine QJ.step (YldS.yld (y_load1 (v := .int .i64 e10.instead) Try.isAgg2 (ha13.sub 4 1) St.frozenC rfl)) rfl ?_
              refine QJ.step (YldS.yld (y_assign rfl)) rfl ?_
              refine QJ.done ?_
              refine PJ.next ?_
              refine WJ.seq ?_
              refine WJ.quiet ?_
              refine QJ.step (YldS.yld (y_assign rfl)) rfl ?_
              refine QJ.done ?_
              refine PJ.next ?_
              refine WJ.block ?_
              refine WJ.sel (L' := (fun (x : Int × Int) => []) (e10.instead, 0)) [] ⟨List.nodup_nil, rfl⟩ ?_
              refine WJ.sub (m' := (fun (x : Int × Int) => [(0, v2), (3, .int .i64 (List.length list1 : Int)), (4, .int .i64 x6), (7, .int .i64 x.1), (8, .int .i64 x.2)]) (e10.instead, 0)) ⟨rfl, rfl, rfl, rfl, rfl, trivial⟩ ?_
              refine WJ.loop (X := Int × Int) (fun N (x : Int × Int) => s_l24Ok_l3 k9 list1 N x.1 x.2 = some r) (fun (x : Int × Int) => [(0, v2), (3, .int .i64 (List.length list1 : Int)), (4, .int .i64 x6), (7, .int .i64 x.1), (8, .int .i64 x.2)]) (fun (x : Int × Int) => []) ?_ N (e10.instead, 0) hm
              · rintro N ⟨x48, x49⟩ hI
                have hm := hI; clear hI
                cases N with
                | zero => cases hm
                | succ N =>
                unfold s_l24Ok_l3 at hm
                refine WJ.seq ?_
                refine WJ.seq ?_
                refine WJ.quiet ?_
                refine QJ.step (YldS.yld (y_move rfl)) rfl ?_
                refine QJ.step (YldS.yld (y_bin rfl rfl rfl)) rfl ?_
                refine QJ.done ?_
                refine PJ.next ?_
                refine WJ.cond (t := decide (x48 ≥ 0)) rfl (fun hb50 => ?_) (fun hb50 => ?_)
                · replace hm := ifT hm hb50
                  refine WJ.skip ?_
                  refine PJ.next ?_
                  refine WJ.seq ?_
                  refine WJ.block ?_
                  refine WJ.seq ?_
                  refine WJ.seq ?_
                  refine WJ.quiet ?_
                  refine QJ.step (YldS.yld (y_move rfl)) rfl ?_
                  refine QJ.step (YldS.yld (y_move rfl)) rfl ?_
                  refine QJ.step (YldS.yld (y_bin rfl rfl rfl)) rfl ?_
                  refine QJ.step (YldS.yld (y_move rfl)) rfl ?_
                  obtain ⟨t51, h52, hm⟩ := bindS hm
                  refine QJ.cut 6 [(0, v2), (3, .int .i64 (List.length list1 : Int)), (4, .int .i64 x6), (7, .int .i64 x48), (8, .int .i64 x49), (92, .bool t51)] ?_ ?_
                  · rcases Bool.eq_false_or_eq_true (decide (x49 > (List.length list1 : Int))) with hb53 | hb53
                    · obtain rfl := orT h52 hb53
                      refine QJ.off rfl rfl (cB hb53) rfl rfl ?_
                      refine QJ.off rfl rfl (cB hb53) rfl rfl ?_
                      refine QJ.off rfl rfl (cB hb53) rfl rfl ?_
                      refine QJ.off rfl rfl (cB hb53) rfl rfl ?_
                      refine QJ.off rfl rfl (cB hb53) rfl rfl ?_
                      refine QJ.step (YldS.yld (y_pick_t (cB hb53) rfl)) rfl ?_
                      exact QJ.cut_end ⟨rfl, rfl, rfl, rfl, rfl, rfl, trivial⟩
                    · replace h52 := orF h52 hb53
                      refine QJ.on rfl rfl (cB hb53) (YldS.yld (y_move rfl)) rfl ?_
                      refine QJ.on rfl rfl (cB hb53) (YldS.yld (y_move rfl)) rfl ?_
                      refine QJ.on rfl rfl (cB hb53) (YldS.yld (y_bin rfl rfl rfl)) rfl ?_
                      obtain ⟨r54, h55, h52⟩ := bindS h52
                      refine QJ.on rfl rfl (cB hb53) (y_call Try.call66 rfl (RetG.quiet fun w hw => ok_s_l00In h55 w )) rfl ?_
                      refine QJ.on rfl rfl (cB hb53) (YldS.yld (y_not rfl)) rfl ?_
                      refine QJ.step (YldS.yld (y_pick_f (cB hb53) rfl)) rfl ?_
                      obtain rfl := Option.some.inj h52
                      exact QJ.cut_end ⟨rfl, rfl, rfl, rfl, rfl, rfl, trivial⟩
                  refine QJ.done ?_
                  refine PJ.next ?_
                  refine WJ.cond (t := t51) rfl (fun hb56 => ?_) (fun hb56 => ?_)
                  · replace hm := ifT hm hb56
                    refine WJ.seq ?_
                    refine WJ.quiet ?_
                    refine QJ.step (YldS.yld (y_assign rfl)) rfl ?_
                    refine QJ.done ?_
                    refine PJ.next ?_
                    refine WJ.ret ?_
                    refine PJ.then_ret (PJ.block_ret (PJ.then_ret (PJ.then_ret (PJ.block_ret (PJ.block_ret (PJ.then_ret (PJ.then_ret (PJ.block_ret (PJ.then_ret ?_)))))))))
                    obtain rfl := Option.some.inj hm
                    refine PJ.sel (L' := []) [] ⟨List.nodup_nil, rfl⟩ ?_
                    exact PJ.retn (vs := [.bool false]) Try.results49 ⟨rfl, trivial⟩ ⟨rfl, rfl⟩
                  · replace hm := ifF hm hb56
                    refine WJ.skip ?_
                    refine PJ.next ?_
                    refine WJ.quiet ?_
                    refine QJ.step (YldS.yld (y_move rfl)) rfl ?_
                    refine QJ.step (YldS.yld (y_move rfl)) rfl ?_
                    obtain ⟨e57, h58, hm⟩ := bindS hm
                    obtain ⟨ad59, _, rfl, ha60, hy61⟩ := hr3.elem h58
                    refine QJ.step (YldS.yld (hy61 Try.runUnderlying25 Try.sizeOf51 rfl rfl)) rfl ?_
                    refine QJ.step (YldS.yld (y_fld (ad := ad59) fld51_4 rfl)) rfl ?_
                    refine QJ.step (YldS.yld (y_load1 (v := .int .i64 e57.instead) Try.isAgg2 (ha60.sub 4 1) St.frozenC rfl)) rfl ?_
                    refine QJ.step (YldS.yld (y_assign rfl)) rfl ?_
                    refine QJ.done ?_
                    refine PJ.block_normal (PJ.next ?_)
                    refine WJ.quiet ?_
                    refine QJ.step (YldS.yld (y_move rfl)) rfl ?_
                    refine QJ.step (YldS.yld (y_bin rfl rfl rfl)) rfl ?_
                    refine QJ.step (YldS.yld (y_assign rfl)) rfl ?_
                    refine QJ.done ?_
                    exact PJ.round (e57.instead, w64 (x49 + 1)) [] hm ⟨rfl, rfl, rfl, rfl, rfl, trivial⟩ ⟨List.nodup_nil, rfl⟩
                · replace hm := ifF hm hb50
                  refine WJ.exit ?_
                  refine PJ.then_exit (PJ.then_exit (PJ.block_exit (PJ.block_normal ?_)))
                  exact PJ.joined () [] hm ⟨rfl, rfl, rfl, trivial⟩ ⟨List.nodup_nil, rfl⟩
        · rintro _ hm
          subst hk9
          refine WJ.quiet ?_
          refine QJ.step (YldS.yld (y_move rfl)) rfl ?_
          refine QJ.step (YldS.yld (y_bin rfl rfl rfl)) rfl ?_
          refine QJ.step (YldS.yld (y_assign rfl)) rfl ?_
          refine QJ.done ?_
          exact PJ.round (w64 (x6 + 1)) [] hm ⟨rfl, rfl, rfl, trivial⟩ ⟨List.nodup_nil, rfl⟩
      · replace hm := ifF hm hb7
        refine WJ.exit ?_
        refine PJ.then_exit (PJ.then_exit (PJ.block_exit ?_))
        exact PJ.joined () [] hm ⟨rfl, trivial⟩ ⟨List.nodup_nil, rfl⟩
  · rintro _ hm
    subst hk5
    refine WJ.seq ?_
    refine WJ.quiet ?_
    refine QJ.step (YldS.yld (y_move rfl)) rfl ?_
    refine QJ.step (YldS.yld (y_bin rfl rfl rfl)) rfl ?_
    refine QJ.step (YldS.yld (y_assign rfl)) rfl ?_
    refine QJ.done ?_
    refine PJ.next ?_
    refine WJ.ret ?_
    obtain rfl := Option.some.inj hm
    refine PJ.sel (L' := []) [] ⟨List.nodup_nil, rfl⟩ ?_
    exact PJ.retn (vs := [.bool (decide ((List.length list1 : Int) ≤ 40))]) Try.results49 ⟨rfl, trivial⟩ ⟨rfl, rfl⟩

set_option maxRecDepth 100000 in
set_option maxHeartbeats 1000000 in
theorem ok_s_l00Max {a1 : Int} {b2 : Int} {r : Int} (hm : s_l00Max a1 b2 = some r) (w : World)  :
    Calls Try.prog 56 #[.int .i64 a1, .int .i64 b2] w (Ret (cx w) (.int .i64 r)) := by
  unfold s_l00Max at hm
  refine Calls.enter [.int .i64 a1, .int .i64 b2] Try.func56 rfl Try.ntmps56 rfl ?_
  refine WJ.seq ?_
  refine WJ.quiet ?_
  refine QJ.step (YldS.yld (y_assign rfl)) rfl ?_
  refine QJ.done ?_
  refine PJ.next ?_
  refine WJ.seq ?_
  refine WJ.seq ?_
  refine WJ.quiet ?_
  refine QJ.step (YldS.yld (y_move rfl)) rfl ?_
  refine QJ.step (YldS.yld (y_move rfl)) rfl ?_
  refine QJ.step (YldS.yld (y_bin rfl rfl rfl)) rfl ?_
  refine QJ.done ?_
  refine PJ.next ?_
  refine WJ.cond (t := decide (a1 > b2)) rfl (fun hb3 => ?_) (fun hb3 => ?_)
  · replace hm := ifT hm hb3
    refine WJ.seq ?_
    refine WJ.quiet ?_
    refine QJ.step (YldS.yld (y_move rfl)) rfl ?_
    refine QJ.step (YldS.yld (y_assign rfl)) rfl ?_
    refine QJ.done ?_
    refine PJ.next ?_
    refine WJ.ret ?_
    refine PJ.then_ret ?_
    obtain rfl := Option.some.inj hm
    refine PJ.sel (L' := []) [] ⟨List.nodup_nil, rfl⟩ ?_
    exact PJ.retn (vs := [.int .i64 a1]) Try.results56 ⟨rfl, trivial⟩ ⟨rfl, rfl⟩
  · replace hm := ifF hm hb3
    refine WJ.skip ?_
    refine PJ.next ?_
    refine WJ.seq ?_
    refine WJ.quiet ?_
    refine QJ.step (YldS.yld (y_move rfl)) rfl ?_
    refine QJ.step (YldS.yld (y_assign rfl)) rfl ?_
    refine QJ.done ?_
    refine PJ.next ?_
    refine WJ.ret ?_
    obtain rfl := Option.some.inj hm
    refine PJ.sel (L' := []) [] ⟨List.nodup_nil, rfl⟩ ?_
    exact PJ.retn (vs := [.int .i64 b2]) Try.results56 ⟨rfl, trivial⟩ ⟨rfl, rfl⟩

set_option maxRecDepth 100000 in
set_option maxHeartbeats 1000000 in
theorem ok_s_OrderList {N : Nat} {list1 : List SparePart} {r : (List Int) × Int} (hm : s_OrderList N list1 = some r) (w : World) (v2 : Value) (hr3 : RdS w (cx w).Fz v2 fSparePart.rp list1) :
    Calls Try.prog 22 #[v2] w (RetG (cx w) fun u L => ∃ (u1 : Value), (u = tup [u1, .int .i64 r.2] ∧ L = [row u1 2 fI64 r.1])) := by
  unfold s_OrderList at hm
  refine Calls.enter [v2] Try.func22 rfl Try.ntmps22 rfl ?_
  refine WJ.seq ?_
  refine WJ.quiet ?_
  refine QJ.step (YldS.yld (y_assign rfl)) rfl ?_
  refine QJ.step (YldS.yld (y_assign rfl)) rfl ?_
  refine QJ.done ?_
  refine PJ.next ?_
  refine WJ.seq ?_
  refine WJ.seq ?_
  refine WJ.quiet ?_
  refine QJ.step (YldS.yld (y_move rfl)) rfl ?_
  obtain ⟨r4, h5, hm⟩ := bindS hm
  refine QJ.step (y_call Try.call49 rfl (RetG.quiet fun w hw => ok_s_l24Ok h5 w _ (hr3.st hw))) rfl ?_
  refine QJ.step (YldS.yld (y_not rfl)) rfl ?_
  refine QJ.done ?_
  refine PJ.next ?_
  refine WJ.cond (t := !r4) rfl (fun hb6 => ?_) (fun hb6 => ?_)
  · replace hm := ifT hm hb6
    refine WJ.seq ?_
    refine WJ.quiet ?_
    refine QJ.step (YldS.yld (y_assign rfl)) rfl ?_
    refine QJ.step (YldS.yld (y_assign rfl)) rfl ?_
    refine QJ.done ?_
    refine PJ.next ?_
    refine WJ.ret ?_
    refine PJ.then_ret ?_
    refine PJ.nil_row 2 fI64 ?_
    obtain rfl := Option.some.inj hm
    refine PJ.sel (L' := [row (.slice none 0 0) 2 fI64 []]) [0] ⟨by decide, rfl⟩ ?_
    exact PJ.retn (vs := [(.slice none 0 0), .int .i64 1]) Try.results22 ⟨rfl, rfl, trivial⟩ ⟨_, rfl, rfl⟩
  · replace hm := ifF hm hb6
    refine WJ.skip ?_
    refine PJ.next ?_
    refine WJ.seq ?_
    refine WJ.reg ?_
    refine SJ.buildSlice (R := fI64) (os := []) [] Try.runUnderlying33 Try.sizeOf2 Try.zeroValue2 rfl rfl rfl rfl rfl rfl fun v7 => ?_
    refine SJ.q (YldS.yld (y_assign rfl)) rfl ?_
    refine SJ.nil ?_
    refine PJ.next ?_
    obtain ⟨k10, hk11, hm⟩ := withK_open hm
    refine WJ.join (X := (List Int) × Value) (fun (x : (List Int) × Value) => k10 x.1 = some r) (fun (x : (List Int) × Value) => [(4, x.2)]) (fun (x : (List Int) × Value) => [row x.2 2 fI64 x.1]) ?_ ?_
    · clear hk11
      refine WJ.seq ?_
      refine WJ.quiet ?_
      refine QJ.step (YldS.yld (y_assign rfl)) rfl ?_
      refine QJ.done ?_
      refine PJ.next ?_
      refine WJ.block ?_
      refine WJ.sel (L' := (fun (x : (List Int) × Value × Int) => [row x.2.1 2 fI64 x.1]) ([], v7, 0)) [0] ⟨by decide, rfl⟩ ?_
      refine WJ.sub (m' := (fun (x : (List Int) × Value × Int) => [(0, v2), (4, x.2.1), (5, .int .i64 x.2.2)]) ([], v7, 0)) ⟨rfl, rfl, rfl, trivial⟩ ?_
      refine WJ.loop (X := (List Int) × Value × Int) (fun N (x : (List Int) × Value × Int) => s_OrderList_l1 k10 list1 N x.1 x.2.2 = some r) (fun (x : (List Int) × Value × Int) => [(0, v2), (4, x.2.1), (5, .int .i64 x.2.2)]) (fun (x : (List Int) × Value × Int) => [row x.2.1 2 fI64 x.1]) ?_ N ([], v7, 0) hm
      · rintro N ⟨l12, v13, i14⟩ hI
        have hm := hI; clear hI
        cases N with
        | zero => cases hm
        | succ N =>
        unfold s_OrderList_l1 at hm
        refine WJ.seq ?_
        refine WJ.seq ?_
        refine WJ.quiet ?_
        refine QJ.step (YldS.yld (y_move rfl)) rfl ?_
        refine QJ.step (YldS.yld (y_move rfl)) rfl ?_
        refine QJ.step (YldS.yld (y_lenS Try.runUnderlying25 hr3 rfl)) rfl ?_
        refine QJ.step (YldS.yld (y_bin rfl rfl rfl)) rfl ?_
        refine QJ.done ?_
        refine PJ.next ?_
        refine WJ.cond (t := decide (i14 < (List.length list1 : Int))) rfl (fun hb15 => ?_) (fun hb15 => ?_)
        · replace hm := ifT hm hb15
          refine WJ.skip ?_
          refine PJ.next ?_
          refine WJ.seq ?_
          refine WJ.block ?_
          obtain ⟨e16, h17, hm⟩ := bindS hm
          obtain ⟨ad18, _, rfl, ha19, hy20⟩ := hr3.elem h17
          obtain ⟨e21, h22, hm⟩ := bindS hm
          obtain ⟨ad23, _, rfl, ha24, hy25⟩ := hr3.elem h22
          obtain ⟨r26, h27, hm⟩ := bindS hm
          obtain ⟨l29, h30, hm⟩ := bindS hm
          refine WJ.draws (N := 16) (listed0 := #[false, false, false, false, false, false, false, false, false, false, false, false, false, false, false, false]) [] follows rfl rfl ?_
          refine RJ.first 0 (listed' := #[true, false, false, false, false, false, false, false, false, false, false, false, false, false, false, false]) [] rfl (by kernel_rfl) rfl ⟨List.nodup_nil, rfl⟩ (y_move rfl) rfl ?_
          refine RJ.first 1 (listed' := #[true, true, false, false, false, false, false, false, false, false, false, false, false, false, false, false]) [] rfl (by kernel_rfl) rfl ⟨List.nodup_nil, rfl⟩ (y_move rfl) rfl ?_
          refine RJ.first 2 (listed' := #[true, true, true, false, false, false, false, false, false, false, false, false, false, false, false, false]) [] rfl (by kernel_rfl) rfl ⟨List.nodup_nil, rfl⟩ (y_move rfl) rfl ?_
          refine RJ.first 3 (listed' := #[true, true, true, true, false, false, false, false, false, false, false, false, false, false, false, false]) [] rfl (by kernel_rfl) rfl ⟨List.nodup_nil, rfl⟩ (hy20 Try.runUnderlying25 Try.sizeOf51 rfl rfl) rfl ?_
          refine RJ.first 4 (listed' := #[true, true, true, true, true, false, false, false, false, false, false, false, false, false, false, false]) [] rfl (by kernel_rfl) rfl ⟨List.nodup_nil, rfl⟩ (y_fld (ad := ad18) fld51_2 rfl) rfl ?_
          refine RJ.first 5 (listed' := #[true, true, true, true, true, true, false, false, false, false, false, false, false, false, false, false]) [] rfl (by kernel_rfl) rfl ⟨List.nodup_nil, rfl⟩ (y_load1 (v := .int .i64 e16.target) Try.isAgg2 (ha19.sub 2 1) St.frozenC rfl) rfl ?_
          refine RJ.first 6 (listed' := #[true, true, true, true, true, true, true, false, false, false, false, false, false, false, false, false]) [] rfl (by kernel_rfl) rfl ⟨List.nodup_nil, rfl⟩ (y_move rfl) rfl ?_
          refine RJ.first 7 (listed' := #[true, true, true, true, true, true, true, true, false, false, false, false, false, false, false, false]) [] rfl (by kernel_rfl) rfl ⟨List.nodup_nil, rfl⟩ (y_move rfl) rfl ?_
          refine RJ.first 8 (listed' := #[true, true, true, true, true, true, true, true, true, false, false, false, false, false, false, false]) [] rfl (by kernel_rfl) rfl ⟨List.nodup_nil, rfl⟩ (hy25 Try.runUnderlying25 Try.sizeOf51 rfl rfl) rfl ?_
          refine RJ.first 9 (listed' := #[true, true, true, true, true, true, true, true, true, true, false, false, false, false, false, false]) [] rfl (by kernel_rfl) rfl ⟨List.nodup_nil, rfl⟩ (y_fld (ad := ad23) fld51_1 rfl) rfl ?_
          refine RJ.first 10 (listed' := #[true, true, true, true, true, true, true, true, true, true, true, false, false, false, false, false]) [] rfl (by kernel_rfl) rfl ⟨List.nodup_nil, rfl⟩ (y_load1 (v := .int .i64 e21.stock) Try.isAgg2 (ha24.sub 1 1) St.frozenC rfl) rfl ?_
          refine RJ.first 11 (listed' := #[true, true, true, true, true, true, true, true, true, true, true, true, false, false, false, false]) [] rfl (by kernel_rfl) rfl ⟨List.nodup_nil, rfl⟩ (y_bin rfl rfl rfl) rfl ?_
          refine RJ.step1 12 [] (by kernel_rfl) ⟨List.nodup_nil, rfl⟩ ?_
          refine RO.of (listed' := #[true, true, true, true, true, true, true, true, true, true, true, true, true, false, false, false]) rfl rfl ?_
          refine SJ.q (y_call Try.call56 rfl (RetG.quiet fun w hw => ok_s_l00Max h27 w )) rfl ?_
          refine SJ.nil ?_
          refine PJ.draw ?_
          refine RJ.step1 13 [] (by kernel_rfl) ⟨List.nodup_nil, rfl⟩ ?_
          refine RO.of (listed' := #[true, true, true, true, true, true, true, true, true, true, true, true, true, true, false, false]) rfl rfl ?_
          refine SJ.buildSlice (R := fI64) (os := [.tmp 28]) [r26] Try.runUnderlying33 Try.sizeOf2 Try.zeroValue2 rfl rfl rfl rfl rfl rfl fun v28 => ?_
          refine SJ.nil ?_
          refine PJ.draw ?_
          refine RJ.step1 14 [] (by kernel_rfl) ⟨List.nodup_nil, rfl⟩ ?_
          refine RO.of (listed' := #[true, true, true, true, true, true, true, true, true, true, true, true, true, true, true, false]) rfl rfl ?_
          refine SJ.append (k := 1) (R := fI64) h30 rfl Try.underlying33 el2 rfl rfl rfl (fun w hw => (hw.row_rd (k := 0) rfl)) rfl fun v31 => ?_
          refine SJ.nil ?_
          refine PJ.draw ?_
          refine RJ.first 15 (listed' := #[true, true, true, true, true, true, true, true, true, true, true, true, true, true, true, true]) [] rfl (by kernel_rfl) rfl ⟨List.nodup_nil, rfl⟩ (y_assign rfl) rfl ?_
          refine RJ.fin [] (by kernel_rfl) ⟨List.nodup_nil, rfl⟩ ?_
          refine PJ.block_normal (PJ.next ?_)
          refine WJ.quiet ?_
          refine QJ.step (YldS.yld (y_move rfl)) rfl ?_
          refine QJ.step (YldS.yld (y_bin rfl rfl rfl)) rfl ?_
          refine QJ.step (YldS.yld (y_assign rfl)) rfl ?_
          refine QJ.done ?_
          exact PJ.round (l29, v31, w64 (i14 + 1)) [1] hm ⟨rfl, rfl, rfl, trivial⟩ ⟨by decide, rfl⟩
        · replace hm := ifF hm hb15
          refine WJ.exit ?_
          refine PJ.then_exit (PJ.then_exit (PJ.block_exit ?_))
          exact PJ.joined (l12, v13) [0] hm ⟨rfl, trivial⟩ ⟨by decide, rfl⟩
    · rintro ⟨l8, v9⟩ hm
      subst hk11
      refine WJ.seq ?_
      refine WJ.quiet ?_
      refine QJ.step (YldS.yld (y_move rfl)) rfl ?_
      refine QJ.step (YldS.yld (y_assign rfl)) rfl ?_
      refine QJ.step (YldS.yld (y_assign rfl)) rfl ?_
      refine QJ.done ?_
      refine PJ.next ?_
      refine WJ.ret ?_
      obtain rfl := Option.some.inj hm
      refine PJ.sel (L' := [row v9 2 fI64 l8]) [0] ⟨by decide, rfl⟩ ?_
      exact PJ.retn (vs := [v9, .int .i64 0]) Try.results22 ⟨rfl, rfl, trivial⟩ ⟨_, rfl, rfl⟩

set_option maxRecDepth 100000 in
set_option maxHeartbeats 1000000 in
theorem ok_i_isDigit {b1 : UInt8} {r : Bool} (hm : i_isDigit b1 = some r) (w : World)  :
    Calls Try.prog 67 #[.int .u8 (UInt8.toNat b1 : Int)] w (Ret (cx w) (.bool r)) := by
  unfold i_isDigit at hm
  refine Calls.enter [.int .u8 (UInt8.toNat b1 : Int)] Try.func67 rfl Try.ntmps67 rfl ?_
  refine WJ.seq ?_
  refine WJ.quiet ?_
  refine QJ.step (YldS.yld (y_assign rfl)) rfl ?_
  refine QJ.done ?_
  refine PJ.next ?_
  refine WJ.seq ?_
  refine WJ.quiet ?_
  refine QJ.step (YldS.yld (y_move rfl)) rfl ?_
  refine QJ.step (YldS.yld (y_bin8 b1 (48 : UInt8) rfl rfl rfl)) rfl ?_
  refine QJ.step (YldS.yld (y_move rfl)) rfl ?_
  obtain ⟨t2, h3, hm⟩ := bindS hm
  refine QJ.cut 3 [(8, .bool t2)] ?_ ?_
  · rcases Bool.eq_false_or_eq_true (decide (b1 ≥ (48 : UInt8))) with hb4 | hb4
    · replace h3 := andT h3 hb4
      refine QJ.on rfl rfl (cB hb4) (YldS.yld (y_move rfl)) rfl ?_
      refine QJ.on rfl rfl (cB hb4) (YldS.yld (y_bin8 b1 (57 : UInt8) rfl rfl rfl)) rfl ?_
      refine QJ.step (YldS.yld (y_pick_t (cB hb4) rfl)) rfl ?_
      obtain rfl := Option.some.inj h3
      exact QJ.cut_end ⟨rfl, trivial⟩
    · obtain rfl := andF h3 hb4
      refine QJ.off rfl rfl (cB hb4) rfl rfl ?_
      refine QJ.off rfl rfl (cB hb4) rfl rfl ?_
      refine QJ.step (YldS.yld (y_pick_f (cB hb4) rfl)) rfl ?_
      exact QJ.cut_end ⟨rfl, trivial⟩
  refine QJ.step (YldS.yld (y_assign rfl)) rfl ?_
  refine QJ.done ?_
  refine PJ.next ?_
  refine WJ.ret ?_
  obtain rfl := Option.some.inj hm
  refine PJ.sel (L' := []) [] ⟨List.nodup_nil, rfl⟩ ?_
  exact PJ.retn (vs := [.bool t2]) Try.results67 ⟨rfl, trivial⟩ ⟨rfl, rfl⟩

set_option maxRecDepth 100000 in
set_option maxHeartbeats 1000000 in
theorem ok_i_IsName {N : Nat} {s1 : Str} {r : Bool} (hm : i_IsName N s1 = some r) (w : World)  :
    Calls Try.prog 50 #[str s1] w (Ret (cx w) (.bool r)) := by
  unfold i_IsName at hm
  refine Calls.enter [str s1] Try.func50 rfl Try.ntmps50 rfl ?_
  refine WJ.seq ?_
  refine WJ.quiet ?_
  refine QJ.step (YldS.yld (y_assign rfl)) rfl ?_
  refine QJ.done ?_
  refine PJ.next ?_
  refine WJ.seq ?_
  refine WJ.seq ?_
  refine WJ.quiet ?_
  refine QJ.step (YldS.yld (y_move rfl)) rfl ?_
  refine QJ.step (YldS.yld (y_lenStr Try.runUnderlying9 rfl)) rfl ?_
  refine QJ.step (YldS.yld (y_bin rfl rfl rfl)) rfl ?_
  refine QJ.step (YldS.yld (y_move rfl)) rfl ?_
  obtain ⟨t2, h3, hm⟩ := bindS hm
  refine QJ.cut 4 [(0, str s1), (12, .bool t2)] ?_ ?_
  · rcases Bool.eq_false_or_eq_true ((List.length s1 : Int) == 0) with hb4 | hb4
    · obtain rfl := orT h3 hb4
      refine QJ.off rfl rfl (cB hb4) rfl rfl ?_
      refine QJ.off rfl rfl (cB hb4) rfl rfl ?_
      refine QJ.off rfl rfl (cB hb4) rfl rfl ?_
      refine QJ.step (YldS.yld (y_pick_t (cB hb4) rfl)) rfl ?_
      exact QJ.cut_end ⟨rfl, rfl, trivial⟩
    · replace h3 := orF h3 hb4
      refine QJ.on rfl rfl (cB hb4) (YldS.yld (y_move rfl)) rfl ?_
      refine QJ.on rfl rfl (cB hb4) (YldS.yld (y_lenStr Try.runUnderlying9 rfl)) rfl ?_
      refine QJ.on rfl rfl (cB hb4) (YldS.yld (y_bin rfl rfl rfl)) rfl ?_
      refine QJ.step (YldS.yld (y_pick_f (cB hb4) rfl)) rfl ?_
      obtain rfl := Option.some.inj h3
      exact QJ.cut_end ⟨rfl, rfl, trivial⟩
  refine QJ.done ?_
  refine PJ.next ?_
  refine WJ.cond (t := t2) rfl (fun hb5 => ?_) (fun hb5 => ?_)
  · replace hm := ifT hm hb5
    refine WJ.seq ?_
    refine WJ.quiet ?_
    refine QJ.step (YldS.yld (y_assign rfl)) rfl ?_
    refine QJ.done ?_
    refine PJ.next ?_
    refine WJ.ret ?_
    refine PJ.then_ret ?_
    obtain rfl := Option.some.inj hm
    refine PJ.sel (L' := []) [] ⟨List.nodup_nil, rfl⟩ ?_
    exact PJ.retn (vs := [.bool false]) Try.results50 ⟨rfl, trivial⟩ ⟨rfl, rfl⟩
  · replace hm := ifF hm hb5
    refine WJ.skip ?_
    refine PJ.next ?_
    obtain ⟨k6, hk7, hm⟩ := withK_open hm
    refine WJ.join (X := Unit) (fun (_ : Unit) => k6  = some r) (fun (_ : Unit) => []) (fun (_ : Unit) => []) ?_ ?_
    · clear hk7
      refine WJ.seq ?_
      refine WJ.quiet ?_
      refine QJ.step (YldS.yld (y_move rfl)) rfl ?_
      refine QJ.step (YldS.yld (y_lenStr Try.runUnderlying9 rfl)) rfl ?_
      refine QJ.step (YldS.yld (y_move rfl)) rfl ?_
      refine QJ.done ?_
      refine PJ.next ?_
      refine WJ.block ?_
      refine WJ.sel (L' := (fun (x : Int) => []) 0) [] ⟨List.nodup_nil, rfl⟩ ?_
      refine WJ.sub (m' := (fun (x : Int) => [(0, str s1), (14, .int .i64 (List.length s1 : Int)), (15, .int .i64 x)]) 0) ⟨rfl, rfl, rfl, trivial⟩ ?_
      refine WJ.loop (X := Int) (fun N (x : Int) => i_IsName_l1 k6 s1 N x = some r) (fun (x : Int) => [(0, str s1), (14, .int .i64 (List.length s1 : Int)), (15, .int .i64 x)]) (fun (x : Int) => []) ?_ N 0 hm
      · rintro N x8 hI
        have hm := hI; clear hI
        cases N with
        | zero => cases hm
        | succ N =>
        unfold i_IsName_l1 at hm
        refine WJ.seq ?_
        refine WJ.quiet ?_
        refine QJ.step (YldS.yld (y_bin rfl rfl rfl)) rfl ?_
        refine QJ.done ?_
        refine PJ.next ?_
        refine WJ.seq ?_
        refine WJ.cond (t := decide (x8 < (List.length s1 : Int))) rfl (fun hb9 => ?_) (fun hb9 => ?_)
        · replace hm := ifT hm hb9
          refine WJ.skip ?_
          refine PJ.next ?_
          refine WJ.seq ?_
          refine WJ.block ?_
          refine WJ.seq ?_
          refine WJ.quiet ?_
          refine QJ.step (YldS.yld (y_move rfl)) rfl ?_
          refine QJ.step (YldS.yld (y_assign rfl)) rfl ?_
          refine QJ.done ?_
          refine PJ.next ?_
          refine WJ.seq ?_
          refine WJ.quiet ?_
          refine QJ.step (YldS.yld (y_move rfl)) rfl ?_
          refine QJ.step (YldS.yld (y_move rfl)) rfl ?_
          obtain ⟨c10, h11, hm⟩ := bindS hm
          refine QJ.step (YldS.yld (y_idxStr Try.runUnderlying9 rfl rfl h11)) rfl ?_
          refine QJ.step (YldS.yld (y_bin8 c10 (97 : UInt8) rfl rfl rfl)) rfl ?_
          refine QJ.step (YldS.yld (y_move rfl)) rfl ?_
          obtain ⟨t12, h13, hm⟩ := bindS hm
          refine QJ.cut 5 [(0, str s1), (3, .int .i64 x8), (14, .int .i64 (List.length s1 : Int)), (15, .int .i64 x8), (27, .bool t12)] ?_ ?_
          · rcases Bool.eq_false_or_eq_true (decide (c10 ≥ (97 : UInt8))) with hb14 | hb14
            · replace h13 := andT h13 hb14
              refine QJ.on rfl rfl (cB hb14) (YldS.yld (y_move rfl)) rfl ?_
              refine QJ.on rfl rfl (cB hb14) (YldS.yld (y_move rfl)) rfl ?_
              obtain ⟨c15, h16, h13⟩ := bindS h13
              refine QJ.on rfl rfl (cB hb14) (YldS.yld (y_idxStr Try.runUnderlying9 rfl rfl h16)) rfl ?_
              refine QJ.on rfl rfl (cB hb14) (YldS.yld (y_bin8 c15 (122 : UInt8) rfl rfl rfl)) rfl ?_
              refine QJ.step (YldS.yld (y_pick_t (cB hb14) rfl)) rfl ?_
              obtain rfl := Option.some.inj h13
              exact QJ.cut_end ⟨rfl, rfl, rfl, rfl, rfl, trivial⟩
            · obtain rfl := andF h13 hb14
              refine QJ.off rfl rfl (cB hb14) rfl rfl ?_
              refine QJ.off rfl rfl (cB hb14) rfl rfl ?_
              refine QJ.off rfl rfl (cB hb14) rfl rfl ?_
              refine QJ.off rfl rfl (cB hb14) rfl rfl ?_
              refine QJ.step (YldS.yld (y_pick_f (cB hb14) rfl)) rfl ?_
              exact QJ.cut_end ⟨rfl, rfl, rfl, rfl, rfl, trivial⟩
          refine QJ.step (YldS.yld (y_assign rfl)) rfl ?_
          refine QJ.done ?_
          refine PJ.next ?_
          refine WJ.seq ?_
          refine WJ.quiet ?_
          refine QJ.step (YldS.yld (y_move rfl)) rfl ?_
          refine QJ.step (YldS.yld (y_not rfl)) rfl ?_
          refine QJ.step (YldS.yld (y_move rfl)) rfl ?_
          obtain ⟨t17, h18, hm⟩ := bindS hm
          refine QJ.cut 16 [(0, str s1), (14, .int .i64 (List.length s1 : Int)), (15, .int .i64 x8), (46, .bool t17)] ?_ ?_
          · rcases Bool.eq_false_or_eq_true (!t12) with hb19 | hb19
            · replace h18 := andT h18 hb19
              refine QJ.on rfl rfl (cB hb19) (YldS.yld (y_move rfl)) rfl ?_
              refine QJ.on rfl rfl (cB hb19) (YldS.yld (y_bin rfl rfl rfl)) rfl ?_
              refine QJ.on rfl rfl (cB hb19) (YldS.yld (y_move rfl)) rfl ?_
              obtain ⟨t20, h21, h18⟩ := bindS h18
              refine QJ.cut 12 [(0, str s1), (14, .int .i64 (List.length s1 : Int)), (15, .int .i64 x8), (30, .bool (!t12)), (31, .int .i64 x8), (32, .bool (x8 == 0)), (33, .bool (x8 == 0)), (45, .bool t20)] ?_ ?_
              · rcases Bool.eq_false_or_eq_true (x8 == 0) with hb22 | hb22
                · obtain rfl := orT h21 hb22
                  refine QJ.off rfl rfl (cB hb22) rfl rfl ?_
                  refine QJ.off rfl rfl (cB hb22) rfl rfl ?_
                  refine QJ.off rfl rfl (cB hb22) rfl rfl ?_
                  refine QJ.off rfl rfl (cB hb22) rfl rfl ?_
                  refine QJ.off rfl rfl (cB hb22) rfl rfl ?_
                  refine QJ.off_undef rfl rfl rfl rfl ?_
                  refine QJ.off_undef rfl rfl rfl rfl ?_
                  refine QJ.off_undef rfl rfl rfl rfl ?_
                  refine QJ.off_undef rfl rfl rfl rfl ?_
                  refine QJ.off_undef rfl rfl rfl rfl ?_
                  refine QJ.off rfl rfl (cB hb22) rfl rfl ?_
                  refine QJ.on rfl rfl (cB hb19) (YldS.yld (y_pick_t (cB hb22) rfl)) rfl ?_
                  exact QJ.cut_end ⟨rfl, rfl, rfl, rfl, rfl, rfl, rfl, rfl, trivial⟩
                · replace h21 := orF h21 hb22
                  refine QJ.on rfl rfl (cB hb22) (YldS.yld (y_move rfl)) rfl ?_
                  refine QJ.on rfl rfl (cB hb22) (YldS.yld (y_move rfl)) rfl ?_
                  obtain ⟨c23, h24, h21⟩ := bindS h21
                  refine QJ.on rfl rfl (cB hb22) (YldS.yld (y_idxStr Try.runUnderlying9 rfl rfl h24)) rfl ?_
                  refine QJ.on rfl rfl (cB hb22) (YldS.yld (y_bin8 c23 (45 : UInt8) rfl rfl rfl)) rfl ?_
                  refine QJ.on rfl rfl (cB hb22) (YldS.yld (y_move rfl)) rfl ?_
                  obtain ⟨t25, h26, h21⟩ := bindS h21
                  refine QJ.cut 6 [(0, str s1), (14, .int .i64 (List.length s1 : Int)), (15, .int .i64 x8), (30, .bool (!t12)), (31, .int .i64 x8), (32, .bool (x8 == 0)), (33, .bool (x8 == 0)), (34, str s1), (35, .int .i64 x8), (36, .int .u8 (UInt8.toNat c23 : Int)), (37, .bool (c23 != (45 : UInt8))), (38, .bool (c23 != (45 : UInt8))), (44, .bool t25)] ?_ ?_
                  · rcases Bool.eq_false_or_eq_true (c23 != (45 : UInt8)) with hb27 | hb27
                    · replace h26 := andT h26 hb27
                      refine QJ.on rfl rfl (cB hb27) (YldS.yld (y_move rfl)) rfl ?_
                      refine QJ.on rfl rfl (cB hb27) (YldS.yld (y_move rfl)) rfl ?_
                      obtain ⟨c28, h29, h26⟩ := bindS h26
                      refine QJ.on rfl rfl (cB hb27) (YldS.yld (y_idxStr Try.runUnderlying9 rfl rfl h29)) rfl ?_
                      obtain ⟨r30, h31, h26⟩ := bindS h26
                      refine QJ.on rfl rfl (cB hb27) (y_call Try.call67 rfl (RetG.quiet fun w hw => ok_i_isDigit h31 w )) rfl ?_
                      refine QJ.on rfl rfl (cB hb27) (YldS.yld (y_not rfl)) rfl ?_
                      refine QJ.on rfl rfl (cB hb22) (YldS.yld (y_pick_t (cB hb27) rfl)) rfl ?_
                      obtain rfl := Option.some.inj h26
                      exact QJ.cut_end ⟨rfl, rfl, rfl, rfl, rfl, rfl, rfl, rfl, rfl, rfl, rfl, rfl, rfl, trivial⟩
                    · obtain rfl := andF h26 hb27
                      refine QJ.off rfl rfl (cB hb27) rfl rfl ?_
                      refine QJ.off rfl rfl (cB hb27) rfl rfl ?_
                      refine QJ.off rfl rfl (cB hb27) rfl rfl ?_
                      refine QJ.off rfl rfl (cB hb27) rfl rfl ?_
                      refine QJ.off rfl rfl (cB hb27) rfl rfl ?_
                      refine QJ.on rfl rfl (cB hb22) (YldS.yld (y_pick_f (cB hb27) rfl)) rfl ?_
                      exact QJ.cut_end ⟨rfl, rfl, rfl, rfl, rfl, rfl, rfl, rfl, rfl, rfl, rfl, rfl, rfl, trivial⟩
                  refine QJ.on rfl rfl (cB hb19) (YldS.yld (y_pick_f (cB hb22) rfl)) rfl ?_
                  obtain rfl := Option.some.inj h21
                  exact QJ.cut_end ⟨rfl, rfl, rfl, rfl, rfl, rfl, rfl, rfl, trivial⟩
              refine QJ.step (YldS.yld (y_pick_t (cB hb19) rfl)) rfl ?_
              obtain rfl := Option.some.inj h18
              exact QJ.cut_end ⟨rfl, rfl, rfl, rfl, trivial⟩
            · obtain rfl := andF h18 hb19
              refine QJ.off rfl rfl (cB hb19) rfl rfl ?_
              refine QJ.off rfl rfl (cB hb19) rfl rfl ?_
              refine QJ.off rfl rfl (cB hb19) rfl rfl ?_
              refine QJ.off_undef rfl rfl rfl rfl ?_
              refine QJ.off_undef rfl rfl rfl rfl ?_
              refine QJ.off_undef rfl rfl rfl rfl ?_
              refine QJ.off_undef rfl rfl rfl rfl ?_
              refine QJ.off_undef rfl rfl rfl rfl ?_
              refine QJ.off_undef rfl rfl rfl rfl ?_
              refine QJ.off_undef rfl rfl rfl rfl ?_
              refine QJ.off_undef rfl rfl rfl rfl ?_
              refine QJ.off_undef rfl rfl rfl rfl ?_
              refine QJ.off_undef rfl rfl rfl rfl ?_
              refine QJ.off_undef rfl rfl rfl rfl ?_
              refine QJ.off rfl rfl (cB hb19) rfl rfl ?_
              refine QJ.step (YldS.yld (y_pick_f (cB hb19) rfl)) rfl ?_
              exact QJ.cut_end ⟨rfl, rfl, rfl, rfl, trivial⟩
          refine QJ.done ?_
          refine PJ.next ?_
          refine WJ.cond (t := t17) rfl (fun hb32 => ?_) (fun hb32 => ?_)
          · replace hm := ifT hm hb32
            refine WJ.seq ?_
            refine WJ.quiet ?_
            refine QJ.step (YldS.yld (y_assign rfl)) rfl ?_
            refine QJ.done ?_
            refine PJ.next ?_
            refine WJ.ret ?_
            refine PJ.block_ret (PJ.then_ret (PJ.then_ret (PJ.block_ret (PJ.then_ret ?_))))
            obtain rfl := Option.some.inj hm
            refine PJ.sel (L' := []) [] ⟨List.nodup_nil, rfl⟩ ?_
            exact PJ.retn (vs := [.bool false]) Try.results50 ⟨rfl, trivial⟩ ⟨rfl, rfl⟩
          · replace hm := ifF hm hb32
            refine WJ.skip ?_
            refine PJ.block_normal (PJ.next ?_)
            refine WJ.quiet ?_
            refine QJ.step (YldS.yld (y_bin rfl rfl rfl)) rfl ?_
            refine QJ.step (YldS.yld (y_move rfl)) rfl ?_
            refine QJ.done ?_
            exact PJ.round (w64 (x8 + 1)) [] hm ⟨rfl, rfl, rfl, trivial⟩ ⟨List.nodup_nil, rfl⟩
        · replace hm := ifF hm hb9
          refine WJ.exit ?_
          refine PJ.then_exit (PJ.then_exit (PJ.block_exit ?_))
          exact PJ.joined () [] hm trivial ⟨List.nodup_nil, rfl⟩
    · rintro _ hm
      subst hk7
      refine WJ.seq ?_
      refine WJ.quiet ?_
      refine QJ.step (YldS.yld (y_assign rfl)) rfl ?_
      refine QJ.done ?_
      refine PJ.next ?_
      refine WJ.ret ?_
      obtain rfl := Option.some.inj hm
      refine PJ.sel (L' := []) [] ⟨List.nodup_nil, rfl⟩ ?_
      exact PJ.retn (vs := [.bool true]) Try.results50 ⟨rfl, trivial⟩ ⟨rfl, rfl⟩

set_option maxRecDepth 100000 in
set_option maxHeartbeats 1000000 in
theorem ok_i_between {n1 : Int} {low2 : Int} {high3 : Int} {r : Bool} (hm : i_between n1 low2 high3 = some r) (w : World)  :
    Calls Try.prog 51 #[.int .i64 n1, .int .i64 low2, .int .i64 high3] w (Ret (cx w) (.bool r)) := by
  unfold i_between at hm
  refine Calls.enter [.int .i64 n1, .int .i64 low2, .int .i64 high3] Try.func51 rfl Try.ntmps51 rfl ?_
  refine WJ.seq ?_
  refine WJ.quiet ?_
  refine QJ.step (YldS.yld (y_assign rfl)) rfl ?_
  refine QJ.done ?_
  refine PJ.next ?_
  refine WJ.seq ?_
  refine WJ.quiet ?_
  refine QJ.step (YldS.yld (y_move rfl)) rfl ?_
  refine QJ.step (YldS.yld (y_move rfl)) rfl ?_
  refine QJ.step (YldS.yld (y_bin rfl rfl rfl)) rfl ?_
  refine QJ.step (YldS.yld (y_move rfl)) rfl ?_
  obtain ⟨t4, h5, hm⟩ := bindS hm
  refine QJ.cut 4 [(14, .bool t4)] ?_ ?_
  · rcases Bool.eq_false_or_eq_true (decide (n1 ≥ low2)) with hb6 | hb6
    · replace h5 := andT h5 hb6
      refine QJ.on rfl rfl (cB hb6) (YldS.yld (y_move rfl)) rfl ?_
      refine QJ.on rfl rfl (cB hb6) (YldS.yld (y_move rfl)) rfl ?_
      refine QJ.on rfl rfl (cB hb6) (YldS.yld (y_bin rfl rfl rfl)) rfl ?_
      refine QJ.step (YldS.yld (y_pick_t (cB hb6) rfl)) rfl ?_
      obtain rfl := Option.some.inj h5
      exact QJ.cut_end ⟨rfl, trivial⟩
    · obtain rfl := andF h5 hb6
      refine QJ.off rfl rfl (cB hb6) rfl rfl ?_
      refine QJ.off rfl rfl (cB hb6) rfl rfl ?_
      refine QJ.off rfl rfl (cB hb6) rfl rfl ?_
      refine QJ.step (YldS.yld (y_pick_f (cB hb6) rfl)) rfl ?_
      exact QJ.cut_end ⟨rfl, trivial⟩
  refine QJ.step (YldS.yld (y_assign rfl)) rfl ?_
  refine QJ.done ?_
  refine PJ.next ?_
  refine WJ.ret ?_
  obtain rfl := Option.some.inj hm
  refine PJ.sel (L' := []) [] ⟨List.nodup_nil, rfl⟩ ?_
  exact PJ.retn (vs := [.bool t4]) Try.results51 ⟨rfl, trivial⟩ ⟨rfl, rfl⟩

set_option maxRecDepth 100000 in
set_option maxHeartbeats 1000000 in
theorem ok_i_ValidParts {N : Nat} {list1 : List SparePart} {r : Bool} (hm : i_ValidParts N list1 = some r) (w : World) (v2 : Value) (hr3 : RdS w (cx w).Fz v2 fSparePart.rp list1) :
    Calls Try.prog 19 #[v2] w (Ret (cx w) (.bool r)) := by
  unfold i_ValidParts at hm
  refine Calls.enter [v2] Try.func19 rfl Try.ntmps19 rfl ?_
  refine WJ.seq ?_
  refine WJ.quiet ?_
  refine QJ.step (YldS.yld (y_assign rfl)) rfl ?_
  refine QJ.done ?_
  refine PJ.next ?_
  refine WJ.seq ?_
  refine WJ.seq ?_
  refine WJ.quiet ?_
  refine QJ.step (YldS.yld (y_move rfl)) rfl ?_
  refine QJ.step (YldS.yld (y_lenS Try.runUnderlying25 hr3 rfl)) rfl ?_
  refine QJ.step (YldS.yld (y_bin rfl rfl rfl)) rfl ?_
  refine QJ.done ?_
  refine PJ.next ?_
  refine WJ.cond (t := decide ((List.length list1 : Int) > 40)) rfl (fun hb4 => ?_) (fun hb4 => ?_)
  · replace hm := ifT hm hb4
    refine WJ.seq ?_
    refine WJ.quiet ?_
    refine QJ.step (YldS.yld (y_assign rfl)) rfl ?_
    refine QJ.done ?_
    refine PJ.next ?_
    refine WJ.ret ?_
    refine PJ.then_ret ?_
    obtain rfl := Option.some.inj hm
    refine PJ.sel (L' := []) [] ⟨List.nodup_nil, rfl⟩ ?_
    exact PJ.retn (vs := [.bool false]) Try.results19 ⟨rfl, trivial⟩ ⟨rfl, rfl⟩
  · replace hm := ifF hm hb4
    refine WJ.skip ?_
    refine PJ.next ?_
    refine WJ.seq ?_
    refine WJ.reg ?_
    refine SJ.makeMap rfl fun g5 => ?_
    refine SJ.q (YldS.yld (y_assign rfl)) rfl ?_
    refine SJ.nil ?_
    refine PJ.next ?_
    obtain ⟨k6, hk7, hm⟩ := withK_open hm
    refine WJ.join (X := Unit) (fun (_ : Unit) => k6  = some r) (fun (_ : Unit) => [(0, v2)]) (fun (_ : Unit) => []) ?_ ?_
    · clear hk7
      refine WJ.seq ?_
      refine WJ.quiet ?_
      refine QJ.step (YldS.yld (y_move rfl)) rfl ?_
      refine QJ.step (YldS.yld (y_lenS Try.runUnderlying25 hr3 rfl)) rfl ?_
      refine QJ.step (YldS.yld (y_move rfl)) rfl ?_
      refine QJ.done ?_
      refine PJ.next ?_
      refine WJ.block ?_
      refine WJ.sel (L' := (fun (x : (List (Str × Bool)) × Int) => [mp g5 x.1]) ([], 0)) [0] ⟨by decide, rfl⟩ ?_
      refine WJ.sub (m' := (fun (x : (List (Str × Bool)) × Int) => [(0, v2), (3, .map (some g5)), (13, v2), (14, .int .i64 (List.length list1 : Int)), (15, .int .i64 x.2)]) ([], 0)) ⟨rfl, rfl, rfl, rfl, rfl, trivial⟩ ?_
      refine WJ.loop (X := (List (Str × Bool)) × Int) (fun N (x : (List (Str × Bool)) × Int) => i_ValidParts_l1 k6 list1 N x.1 x.2 = some r) (fun (x : (List (Str × Bool)) × Int) => [(0, v2), (3, .map (some g5)), (13, v2), (14, .int .i64 (List.length list1 : Int)), (15, .int .i64 x.2)]) (fun (x : (List (Str × Bool)) × Int) => [mp g5 x.1]) ?_ N ([], 0) hm
      · rintro N ⟨mp8, x9⟩ hI
        have hm := hI; clear hI
        cases N with
        | zero => cases hm
        | succ N =>
        unfold i_ValidParts_l1 at hm
        refine WJ.seq ?_
        refine WJ.quiet ?_
        refine QJ.step (YldS.yld (y_bin rfl rfl rfl)) rfl ?_
        refine QJ.done ?_
        refine PJ.next ?_
        refine WJ.seq ?_
        refine WJ.cond (t := decide (x9 < (List.length list1 : Int))) rfl (fun hb10 => ?_) (fun hb10 => ?_)
        · replace hm := ifT hm hb10
          refine WJ.skip ?_
          refine PJ.next ?_
          refine WJ.seq ?_
          refine WJ.block ?_
          refine WJ.seq ?_
          refine WJ.reg ?_
          obtain ⟨e11, h12, hm⟩ := bindS hm
          obtain ⟨ad13, _, rfl, ha14, hy15⟩ := hr3.elem h12
          refine SJ.q (YldS.yld (hy15 Try.runUnderlying25 Try.sizeOf51 rfl rfl)) rfl ?_
          refine SJ.q (YldS.yld (y_loadN Try.isAgg51 Try.sizeOf51 rfl ha14 St.frozenC rfl)) rfl ?_
          refine SJ.alloc (cs := [str [], .int .i64 0, .int .i64 0, .int .i64 0, .int .i64 0]) Try.zeroValue51 rfl rfl fun g16 => ?_
          refine SJ.storeL (k := 0) (off := 0) (us := [str e11.name, .int .i64 e11.stock, .int .i64 e11.target, .int .i64 e11.days, .int .i64 e11.instead]) rfl rfl rfl rfl Try.sizeOf51 rfl rfl ?_
          refine SJ.nil ?_
          refine PJ.next ?_
          refine WJ.seq ?_
          refine WJ.seq ?_
          refine WJ.quiet ?_
          refine QJ.step (YldS.yld (y_fldB (o := 0) fld51_0 rfl)) rfl ?_
          refine QJ.step (YldS.yld (y_loadB (k := 0) (off := 0) (v := str e11.name) rfl Try.isAgg9 rfl rfl)) rfl ?_
          obtain ⟨r17, h18, hm⟩ := bindS hm
          refine QJ.step (y_call Try.call50 rfl (RetG.quiet fun w hw => ok_i_IsName h18 w )) rfl ?_
          refine QJ.step (YldS.yld (y_not rfl)) rfl ?_
          refine QJ.step (YldS.yld (y_move rfl)) rfl ?_
          obtain ⟨t19, h20, hm⟩ := bindS hm
          refine QJ.cut 5 [(0, v2), (3, .map (some g5)), (5, pt g16 0), (13, v2), (14, .int .i64 (List.length list1 : Int)), (15, .int .i64 x9), (28, .bool t19)] ?_ ?_
          · rcases Bool.eq_false_or_eq_true (!r17) with hb21 | hb21
            · obtain rfl := orT h20 hb21
              refine QJ.off rfl rfl (cB hb21) rfl rfl ?_
              refine QJ.off rfl rfl (cB hb21) rfl rfl ?_
              refine QJ.off rfl rfl (cB hb21) rfl rfl ?_
              refine QJ.off rfl rfl (cB hb21) rfl rfl ?_
              refine QJ.step (YldS.yld (y_pick_t (cB hb21) rfl)) rfl ?_
              exact QJ.cut_end ⟨rfl, rfl, rfl, rfl, rfl, rfl, rfl, trivial⟩
            · replace h20 := orF h20 hb21
              refine QJ.on rfl rfl (cB hb21) (YldS.yld (y_move rfl)) rfl ?_
              refine QJ.on rfl rfl (cB hb21) (YldS.yld (y_fldB (o := 0) fld51_0 rfl)) rfl ?_
              refine QJ.on rfl rfl (cB hb21) (YldS.yld (y_loadB (k := 0) (off := 0) (v := str e11.name) rfl Try.isAgg9 rfl rfl)) rfl ?_
              refine QJ.on rfl rfl (cB hb21) (YldS.yld (y_lookupSB (k := 1) rfl Try.underlying56 Try.underlying9 Try.zeroValue4 rfl rfl)) rfl ?_
              refine QJ.step (YldS.yld (y_pick_f (cB hb21) rfl)) rfl ?_
              obtain rfl := Option.some.inj h20
              exact QJ.cut_end ⟨rfl, rfl, rfl, rfl, rfl, rfl, rfl, trivial⟩
          refine QJ.step (YldS.yld (y_move rfl)) rfl ?_
          obtain ⟨t22, h23, hm⟩ := bindS hm
          refine QJ.cut 5 [(0, v2), (3, .map (some g5)), (5, pt g16 0), (13, v2), (14, .int .i64 (List.length list1 : Int)), (15, .int .i64 x9), (34, .bool t22)] ?_ ?_
          · rcases Bool.eq_false_or_eq_true t19 with hb24 | hb24
            · obtain rfl := orT h23 hb24
              refine QJ.off rfl rfl (cB hb24) rfl rfl ?_
              refine QJ.off rfl rfl (cB hb24) rfl rfl ?_
              refine QJ.off rfl rfl (cB hb24) rfl rfl ?_
              refine QJ.off rfl rfl (cB hb24) rfl rfl ?_
              refine QJ.step (YldS.yld (y_pick_t (cB hb24) rfl)) rfl ?_
              exact QJ.cut_end ⟨rfl, rfl, rfl, rfl, rfl, rfl, rfl, trivial⟩
            · replace h23 := orF h23 hb24
              refine QJ.on rfl rfl (cB hb24) (YldS.yld (y_fldB (o := 0) fld51_1 rfl)) rfl ?_
              refine QJ.on rfl rfl (cB hb24) (YldS.yld (y_loadB (k := 0) (off := 1) (v := .int .i64 e11.stock) rfl Try.isAgg2 rfl rfl)) rfl ?_
              obtain ⟨r25, h26, h23⟩ := bindS h23
              refine QJ.on rfl rfl (cB hb24) (y_call Try.call51 rfl (RetG.quiet fun w hw => ok_i_between h26 w )) rfl ?_
              refine QJ.on rfl rfl (cB hb24) (YldS.yld (y_not rfl)) rfl ?_
              refine QJ.step (YldS.yld (y_pick_f (cB hb24) rfl)) rfl ?_
              obtain rfl := Option.some.inj h23
              exact QJ.cut_end ⟨rfl, rfl, rfl, rfl, rfl, rfl, rfl, trivial⟩
          refine QJ.step (YldS.yld (y_move rfl)) rfl ?_
          obtain ⟨t27, h28, hm⟩ := bindS hm
          refine QJ.cut 5 [(0, v2), (3, .map (some g5)), (5, pt g16 0), (13, v2), (14, .int .i64 (List.length list1 : Int)), (15, .int .i64 x9), (40, .bool t27)] ?_ ?_
          · rcases Bool.eq_false_or_eq_true t22 with hb29 | hb29
            · obtain rfl := orT h28 hb29
              refine QJ.off rfl rfl (cB hb29) rfl rfl ?_
              refine QJ.off rfl rfl (cB hb29) rfl rfl ?_
              refine QJ.off rfl rfl (cB hb29) rfl rfl ?_
              refine QJ.off rfl rfl (cB hb29) rfl rfl ?_
              refine QJ.step (YldS.yld (y_pick_t (cB hb29) rfl)) rfl ?_
              exact QJ.cut_end ⟨rfl, rfl, rfl, rfl, rfl, rfl, rfl, trivial⟩
            · replace h28 := orF h28 hb29
              refine QJ.on rfl rfl (cB hb29) (YldS.yld (y_fldB (o := 0) fld51_2 rfl)) rfl ?_
              refine QJ.on rfl rfl (cB hb29) (YldS.yld (y_loadB (k := 0) (off := 2) (v := .int .i64 e11.target) rfl Try.isAgg2 rfl rfl)) rfl ?_
              obtain ⟨r30, h31, h28⟩ := bindS h28
              refine QJ.on rfl rfl (cB hb29) (y_call Try.call51 rfl (RetG.quiet fun w hw => ok_i_between h31 w )) rfl ?_
              refine QJ.on rfl rfl (cB hb29) (YldS.yld (y_not rfl)) rfl ?_
              refine QJ.step (YldS.yld (y_pick_f (cB hb29) rfl)) rfl ?_
              obtain rfl := Option.some.inj h28
              exact QJ.cut_end ⟨rfl, rfl, rfl, rfl, rfl, rfl, rfl, trivial⟩
          refine QJ.step (YldS.yld (y_move rfl)) rfl ?_
          obtain ⟨t32, h33, hm⟩ := bindS hm
          refine QJ.cut 5 [(0, v2), (3, .map (some g5)), (5, pt g16 0), (13, v2), (14, .int .i64 (List.length list1 : Int)), (15, .int .i64 x9), (46, .bool t32)] ?_ ?_
          · rcases Bool.eq_false_or_eq_true t27 with hb34 | hb34
            · obtain rfl := orT h33 hb34
              refine QJ.off rfl rfl (cB hb34) rfl rfl ?_
              refine QJ.off rfl rfl (cB hb34) rfl rfl ?_
              refine QJ.off rfl rfl (cB hb34) rfl rfl ?_
              refine QJ.off rfl rfl (cB hb34) rfl rfl ?_
              refine QJ.step (YldS.yld (y_pick_t (cB hb34) rfl)) rfl ?_
              exact QJ.cut_end ⟨rfl, rfl, rfl, rfl, rfl, rfl, rfl, trivial⟩
            · replace h33 := orF h33 hb34
              refine QJ.on rfl rfl (cB hb34) (YldS.yld (y_fldB (o := 0) fld51_3 rfl)) rfl ?_
              refine QJ.on rfl rfl (cB hb34) (YldS.yld (y_loadB (k := 0) (off := 3) (v := .int .i64 e11.days) rfl Try.isAgg2 rfl rfl)) rfl ?_
              obtain ⟨r35, h36, h33⟩ := bindS h33
              refine QJ.on rfl rfl (cB hb34) (y_call Try.call51 rfl (RetG.quiet fun w hw => ok_i_between h36 w )) rfl ?_
              refine QJ.on rfl rfl (cB hb34) (YldS.yld (y_not rfl)) rfl ?_
              refine QJ.step (YldS.yld (y_pick_f (cB hb34) rfl)) rfl ?_
              obtain rfl := Option.some.inj h33
              exact QJ.cut_end ⟨rfl, rfl, rfl, rfl, rfl, rfl, rfl, trivial⟩
          refine QJ.step (YldS.yld (y_move rfl)) rfl ?_
          obtain ⟨t37, h38, hm⟩ := bindS hm
          refine QJ.cut 8 [(0, v2), (3, .map (some g5)), (5, pt g16 0), (13, v2), (14, .int .i64 (List.length list1 : Int)), (15, .int .i64 x9), (55, .bool t37)] ?_ ?_
          · rcases Bool.eq_false_or_eq_true t32 with hb39 | hb39
            · obtain rfl := orT h38 hb39
              refine QJ.off rfl rfl (cB hb39) rfl rfl ?_
              refine QJ.off rfl rfl (cB hb39) rfl rfl ?_
              refine QJ.off rfl rfl (cB hb39) rfl rfl ?_
              refine QJ.off rfl rfl (cB hb39) rfl rfl ?_
              refine QJ.off rfl rfl (cB hb39) rfl rfl ?_
              refine QJ.off rfl rfl (cB hb39) rfl rfl ?_
              refine QJ.off rfl rfl (cB hb39) rfl rfl ?_
              refine QJ.step (YldS.yld (y_pick_t (cB hb39) rfl)) rfl ?_
              exact QJ.cut_end ⟨rfl, rfl, rfl, rfl, rfl, rfl, rfl, trivial⟩
            · replace h38 := orF h38 hb39
              refine QJ.on rfl rfl (cB hb39) (YldS.yld (y_fldB (o := 0) fld51_4 rfl)) rfl ?_
              refine QJ.on rfl rfl (cB hb39) (YldS.yld (y_loadB (k := 0) (off := 4) (v := .int .i64 e11.instead) rfl Try.isAgg2 rfl rfl)) rfl ?_
              refine QJ.on rfl rfl (cB hb39) (YldS.yld (y_move rfl)) rfl ?_
              refine QJ.on rfl rfl (cB hb39) (YldS.yld (y_lenS Try.runUnderlying25 hr3 rfl)) rfl ?_
              refine QJ.on rfl rfl (cB hb39) (YldS.yld (y_bin rfl rfl rfl)) rfl ?_
              obtain ⟨r40, h41, h38⟩ := bindS h38
              refine QJ.on rfl rfl (cB hb39) (y_call Try.call51 rfl (RetG.quiet fun w hw => ok_i_between h41 w )) rfl ?_
              refine QJ.on rfl rfl (cB hb39) (YldS.yld (y_not rfl)) rfl ?_
              refine QJ.step (YldS.yld (y_pick_f (cB hb39) rfl)) rfl ?_
              obtain rfl := Option.some.inj h38
              exact QJ.cut_end ⟨rfl, rfl, rfl, rfl, rfl, rfl, rfl, trivial⟩
          refine QJ.done ?_
          refine PJ.next ?_
          refine WJ.cond (t := t37) rfl (fun hb42 => ?_) (fun hb42 => ?_)
          · replace hm := ifT hm hb42
            refine WJ.seq ?_
            refine WJ.quiet ?_
            refine QJ.step (YldS.yld (y_assign rfl)) rfl ?_
            refine QJ.done ?_
            refine PJ.next ?_
            refine WJ.ret ?_
            refine PJ.then_ret (PJ.block_ret (PJ.then_ret (PJ.then_ret (PJ.block_ret (PJ.then_ret ?_)))))
            obtain rfl := Option.some.inj hm
            refine PJ.sel (L' := []) [] ⟨List.nodup_nil, rfl⟩ ?_
            exact PJ.retn (vs := [.bool false]) Try.results19 ⟨rfl, trivial⟩ ⟨rfl, rfl⟩
          · replace hm := ifF hm hb42
            refine WJ.skip ?_
            refine PJ.next ?_
            refine WJ.reg ?_
            refine SJ.q (YldS.yld (y_move rfl)) rfl ?_
            refine SJ.q (YldS.yld (y_fldB (o := 0) fld51_0 rfl)) rfl ?_
            refine SJ.q (YldS.yld (y_loadB (k := 0) (off := 0) (v := str e11.name) rfl Try.isAgg9 rfl rfl)) rfl ?_
            refine SJ.mapUpdateSB (k := 1) Try.underlying56 Try.underlying9 rfl rfl rfl rfl ?_
            refine SJ.nil ?_
            refine PJ.block_normal (PJ.next ?_)
            refine WJ.quiet ?_
            refine QJ.step (YldS.yld (y_bin rfl rfl rfl)) rfl ?_
            refine QJ.step (YldS.yld (y_move rfl)) rfl ?_
            refine QJ.done ?_
            exact PJ.round (mset mp8 e11.name true, w64 (x9 + 1)) [1] hm ⟨rfl, rfl, rfl, rfl, rfl, trivial⟩ ⟨by decide, rfl⟩
        · replace hm := ifF hm hb10
          refine WJ.exit ?_
          refine PJ.then_exit (PJ.then_exit (PJ.block_exit ?_))
          exact PJ.joined () [] hm ⟨rfl, trivial⟩ ⟨List.nodup_nil, rfl⟩
    · rintro _ hm
      subst hk7
      obtain ⟨k43, hk44, hm⟩ := withK_open hm
      refine WJ.join (X := Unit) (fun (_ : Unit) => k43  = some r) (fun (_ : Unit) => []) (fun (_ : Unit) => []) ?_ ?_
      · clear hk44
        refine WJ.seq ?_
        refine WJ.quiet ?_
        refine QJ.step (YldS.yld (y_move rfl)) rfl ?_
        refine QJ.step (YldS.yld (y_lenS Try.runUnderlying25 hr3 rfl)) rfl ?_
        refine QJ.step (YldS.yld (y_move rfl)) rfl ?_
        refine QJ.done ?_
        refine PJ.next ?_
        refine WJ.block ?_
        refine WJ.sel (L' := (fun (x : Int) => []) 0) [] ⟨List.nodup_nil, rfl⟩ ?_
        refine WJ.sub (m' := (fun (x : Int) => [(0, v2), (61, .int .i64 (List.length list1 : Int)), (62, .int .i64 x)]) 0) ⟨rfl, rfl, rfl, trivial⟩ ?_
        refine WJ.loop (X := Int) (fun N (x : Int) => i_ValidParts_l2 k43 list1 N x = some r) (fun (x : Int) => [(0, v2), (61, .int .i64 (List.length list1 : Int)), (62, .int .i64 x)]) (fun (x : Int) => []) ?_ N 0 hm
        · rintro N x45 hI
          have hm := hI; clear hI
          cases N with
          | zero => cases hm
          | succ N =>
          unfold i_ValidParts_l2 at hm
          refine WJ.seq ?_
          refine WJ.quiet ?_
          refine QJ.step (YldS.yld (y_bin rfl rfl rfl)) rfl ?_
          refine QJ.done ?_
          refine PJ.next ?_
          refine WJ.seq ?_
          refine WJ.cond (t := decide (x45 < (List.length list1 : Int))) rfl (fun hb46 => ?_) (fun hb46 => ?_)
          · replace hm := ifT hm hb46
            refine WJ.skip ?_
            refine PJ.next ?_
            obtain ⟨k48, hk48, hm⟩ := withK_open hm
            refine WJ.join (X := Unit) (fun (_ : Unit) => k48  = some r) (fun (_ : Unit) => [(0, v2), (61, .int .i64 (List.length list1 : Int)), (62, .int .i64 x45)]) (fun (_ : Unit) => []) ?_ ?_
            · clear hk48
              refine WJ.block ?_
              refine WJ.seq ?_
              refine WJ.quiet ?_
              refine QJ.step (YldS.yld (y_move rfl)) rfl ?_
              refine QJ.step (YldS.yld (y_assign rfl)) rfl ?_
              refine QJ.done ?_
              refine PJ.next ?_
              refine WJ.seq ?_
              refine WJ.quiet ?_
              refine QJ.step (YldS.yld (y_move rfl)) rfl ?_
              refine QJ.step (YldS.yld (y_assign rfl)) rfl ?_
              refine QJ.step (YldS.yld (y_assign rfl)) rfl ?_
              refine QJ.done ?_
              refine PJ.next ?_
              refine WJ.block ?_
              refine WJ.sel (L' := (fun (x : Int × Int) => []) (x45, 0)) [] ⟨List.nodup_nil, rfl⟩ ?_
              refine WJ.sub (m' := (fun (x : Int × Int) => [(0, v2), (7, .int .i64 x.1), (8, .int .i64 x.2), (61, .int .i64 (List.length list1 : Int)), (62, .int .i64 x45)]) (x45, 0)) ⟨rfl, rfl, rfl, rfl, rfl, trivial⟩ ?_
              refine WJ.loop (X := Int × Int) (fun N (x : Int × Int) => i_ValidParts_l3 k48 list1 N x.1 x.2 = some r) (fun (x : Int × Int) => [(0, v2), (7, .int .i64 x.1), (8, .int .i64 x.2), (61, .int .i64 (List.length list1 : Int)), (62, .int .i64 x45)]) (fun (x : Int × Int) => []) ?_ N (x45, 0) hm
              · rintro N ⟨x49, x50⟩ hI
                have hm := hI; clear hI
                cases N with
                | zero => cases hm
                | succ N =>
                unfold i_ValidParts_l3 at hm
                refine WJ.seq ?_
                refine WJ.seq ?_
                refine WJ.quiet ?_
                refine QJ.step (YldS.yld (y_move rfl)) rfl ?_
                refine QJ.step (YldS.yld (y_bin rfl rfl rfl)) rfl ?_
                refine QJ.done ?_
                refine PJ.next ?_
                refine WJ.cond (t := decide (x49 ≥ 0)) rfl (fun hb51 => ?_) (fun hb51 => ?_)
                · replace hm := ifT hm hb51
                  refine WJ.skip ?_
                  refine PJ.next ?_
                  refine WJ.block ?_
                  refine WJ.seq ?_
                  refine WJ.quiet ?_
                  refine QJ.step (YldS.yld (y_move rfl)) rfl ?_
                  refine QJ.step (YldS.yld (y_move rfl)) rfl ?_
                  obtain ⟨e52, h53, hm⟩ := bindS hm
                  obtain ⟨ad54, _, rfl, ha55, hy56⟩ := hr3.elem h53
                  refine QJ.step (YldS.yld (hy56 Try.runUnderlying25 Try.sizeOf51 rfl rfl)) rfl ?_
                  refine QJ.step (YldS.yld (y_fld (ad := ad54) fld51_4 rfl)) rfl ?_
                  refine QJ.step (YldS.yld (y_load1 (v := .int .i64 e52.instead) Try.isAgg2 (ha55.sub 4 1) St.frozenC rfl)) rfl ?_
                  refine QJ.step (YldS.yld (y_assign rfl)) rfl ?_
                  refine QJ.done ?_
                  refine PJ.next ?_
                  refine WJ.seq ?_
                  refine WJ.quiet ?_
                  refine QJ.step (YldS.yld (y_move rfl)) rfl ?_
                  refine QJ.step (YldS.yld (y_bin rfl rfl rfl)) rfl ?_
                  refine QJ.step (YldS.yld (y_assign rfl)) rfl ?_
                  refine QJ.done ?_
                  refine PJ.next ?_
                  refine WJ.seq ?_
                  refine WJ.quiet ?_
                  refine QJ.step (YldS.yld (y_move rfl)) rfl ?_
                  refine QJ.step (YldS.yld (y_move rfl)) rfl ?_
                  refine QJ.step (YldS.yld (y_lenS Try.runUnderlying25 hr3 rfl)) rfl ?_
                  refine QJ.step (YldS.yld (y_bin rfl rfl rfl)) rfl ?_
                  refine QJ.done ?_
                  refine PJ.next ?_
                  refine WJ.cond (t := decide ((w64 (x50 + 1)) > (List.length list1 : Int))) rfl (fun hb57 => ?_) (fun hb57 => ?_)
                  · replace hm := ifT hm hb57
                    refine WJ.seq ?_
                    refine WJ.quiet ?_
                    refine QJ.step (YldS.yld (y_assign rfl)) rfl ?_
                    refine QJ.done ?_
                    refine PJ.next ?_
                    refine WJ.ret ?_
                    refine PJ.block_ret (PJ.then_ret (PJ.block_ret (PJ.block_ret (PJ.then_ret (PJ.then_ret (PJ.block_ret (PJ.then_ret ?_)))))))
                    obtain rfl := Option.some.inj hm
                    refine PJ.sel (L' := []) [] ⟨List.nodup_nil, rfl⟩ ?_
                    exact PJ.retn (vs := [.bool false]) Try.results19 ⟨rfl, trivial⟩ ⟨rfl, rfl⟩
                  · replace hm := ifF hm hb57
                    refine WJ.skip ?_
                    refine PJ.block_normal ?_
                    exact PJ.round (e52.instead, w64 (x50 + 1)) [] hm ⟨rfl, rfl, rfl, rfl, rfl, trivial⟩ ⟨List.nodup_nil, rfl⟩
                · replace hm := ifF hm hb51
                  refine WJ.exit ?_
                  refine PJ.then_exit (PJ.then_exit (PJ.block_exit (PJ.block_normal ?_)))
                  exact PJ.joined () [] hm ⟨rfl, rfl, rfl, trivial⟩ ⟨List.nodup_nil, rfl⟩
            · rintro _ hm
              subst hk48
              refine WJ.quiet ?_
              refine QJ.step (YldS.yld (y_bin rfl rfl rfl)) rfl ?_
              refine QJ.step (YldS.yld (y_move rfl)) rfl ?_
              refine QJ.done ?_
              exact PJ.round (w64 (x45 + 1)) [] hm ⟨rfl, rfl, rfl, trivial⟩ ⟨List.nodup_nil, rfl⟩
          · replace hm := ifF hm hb46
            refine WJ.exit ?_
            refine PJ.then_exit (PJ.then_exit (PJ.block_exit ?_))
            exact PJ.joined () [] hm trivial ⟨List.nodup_nil, rfl⟩
      · rintro _ hm
        subst hk44
        refine WJ.seq ?_
        refine WJ.quiet ?_
        refine QJ.step (YldS.yld (y_assign rfl)) rfl ?_
        refine QJ.done ?_
        refine PJ.next ?_
        refine WJ.ret ?_
        obtain rfl := Option.some.inj hm
        refine PJ.sel (L' := []) [] ⟨List.nodup_nil, rfl⟩ ?_
        exact PJ.retn (vs := [.bool true]) Try.results19 ⟨rfl, trivial⟩ ⟨rfl, rfl⟩

set_option maxRecDepth 100000 in
set_option maxHeartbeats 1000000 in
theorem ok_i_OrderList {N : Nat} {list1 : List SparePart} {r : (List Int) × Int} (hm : i_OrderList N list1 = some r) (w : World) (v2 : Value) (hr3 : RdS w (cx w).Fz v2 fSparePart.rp list1) :
    Calls Try.prog 23 #[v2] w (RetG (cx w) fun u L => ∃ (u1 : Value), (u = tup [u1, .int .i64 r.2] ∧ L = [row u1 2 fI64 r.1])) := by
  unfold i_OrderList at hm
  refine Calls.enter [v2] Try.func23 rfl Try.ntmps23 rfl ?_
  refine WJ.seq ?_
  refine WJ.quiet ?_
  refine QJ.step (YldS.yld (y_assign rfl)) rfl ?_
  refine QJ.step (YldS.yld (y_assign rfl)) rfl ?_
  refine QJ.done ?_
  refine PJ.next ?_
  refine WJ.seq ?_
  refine WJ.seq ?_
  refine WJ.quiet ?_
  refine QJ.step (YldS.yld (y_move rfl)) rfl ?_
  obtain ⟨r4, h5, hm⟩ := bindS hm
  refine QJ.step (y_call Try.call19 rfl (RetG.quiet fun w hw => ok_i_ValidParts h5 w _ (hr3.st hw))) rfl ?_
  refine QJ.step (YldS.yld (y_not rfl)) rfl ?_
  refine QJ.done ?_
  refine PJ.next ?_
  refine WJ.cond (t := !r4) rfl (fun hb6 => ?_) (fun hb6 => ?_)
  · replace hm := ifT hm hb6
    refine WJ.seq ?_
    refine WJ.quiet ?_
    refine QJ.step (YldS.yld (y_assign rfl)) rfl ?_
    refine QJ.step (YldS.yld (y_assign rfl)) rfl ?_
    refine QJ.done ?_
    refine PJ.next ?_
    refine WJ.ret ?_
    refine PJ.then_ret ?_
    refine PJ.nil_row 2 fI64 ?_
    obtain rfl := Option.some.inj hm
    refine PJ.sel (L' := [row (.slice none 0 0) 2 fI64 []]) [0] ⟨by decide, rfl⟩ ?_
    exact PJ.retn (vs := [(.slice none 0 0), .int .i64 1]) Try.results23 ⟨rfl, rfl, trivial⟩ ⟨_, rfl, rfl⟩
  · replace hm := ifF hm hb6
    refine WJ.skip ?_
    refine PJ.next ?_
    refine WJ.seq ?_
    refine WJ.reg ?_
    refine SJ.buildSlice (R := fI64) (os := []) [] Try.runUnderlying33 Try.sizeOf2 Try.zeroValue2 rfl rfl rfl rfl rfl rfl fun v7 => ?_
    refine SJ.q (YldS.yld (y_assign rfl)) rfl ?_
    refine SJ.nil ?_
    refine PJ.next ?_
    obtain ⟨k10, hk11, hm⟩ := withK_open hm
    refine WJ.join (X := (List Int) × Value) (fun (x : (List Int) × Value) => k10 x.1 = some r) (fun (x : (List Int) × Value) => [(4, x.2)]) (fun (x : (List Int) × Value) => [row x.2 2 fI64 x.1]) ?_ ?_
    · clear hk11
      refine WJ.seq ?_
      refine WJ.quiet ?_
      refine QJ.step (YldS.yld (y_move rfl)) rfl ?_
      refine QJ.step (YldS.yld (y_lenS Try.runUnderlying25 hr3 rfl)) rfl ?_
      refine QJ.step (YldS.yld (y_move rfl)) rfl ?_
      refine QJ.done ?_
      refine PJ.next ?_
      refine WJ.block ?_
      refine WJ.sel (L' := (fun (x : (List Int) × Value × Int) => [row x.2.1 2 fI64 x.1]) ([], v7, 0)) [0] ⟨by decide, rfl⟩ ?_
      refine WJ.sub (m' := (fun (x : (List Int) × Value × Int) => [(4, x.2.1), (11, v2), (12, .int .i64 (List.length list1 : Int)), (13, .int .i64 x.2.2)]) ([], v7, 0)) ⟨rfl, rfl, rfl, rfl, trivial⟩ ?_
      refine WJ.loop (X := (List Int) × Value × Int) (fun N (x : (List Int) × Value × Int) => i_OrderList_l1 k10 list1 N x.1 x.2.2 = some r) (fun (x : (List Int) × Value × Int) => [(4, x.2.1), (11, v2), (12, .int .i64 (List.length list1 : Int)), (13, .int .i64 x.2.2)]) (fun (x : (List Int) × Value × Int) => [row x.2.1 2 fI64 x.1]) ?_ N ([], v7, 0) hm
      · rintro N ⟨l12, v13, x14⟩ hI
        have hm := hI; clear hI
        cases N with
        | zero => cases hm
        | succ N =>
        unfold i_OrderList_l1 at hm
        refine WJ.seq ?_
        refine WJ.quiet ?_
        refine QJ.step (YldS.yld (y_bin rfl rfl rfl)) rfl ?_
        refine QJ.done ?_
        refine PJ.next ?_
        refine WJ.seq ?_
        refine WJ.cond (t := decide (x14 < (List.length list1 : Int))) rfl (fun hb15 => ?_) (fun hb15 => ?_)
        · replace hm := ifT hm hb15
          refine WJ.skip ?_
          refine PJ.next ?_
          refine WJ.seq ?_
          refine WJ.block ?_
          refine WJ.seq ?_
          refine WJ.reg ?_
          obtain ⟨e16, h17, hm⟩ := bindS hm
          obtain ⟨ad18, _, rfl, ha19, hy20⟩ := hr3.elem h17
          refine SJ.q (YldS.yld (hy20 Try.runUnderlying25 Try.sizeOf51 rfl rfl)) rfl ?_
          refine SJ.q (YldS.yld (y_loadN Try.isAgg51 Try.sizeOf51 rfl ha19 St.frozenC rfl)) rfl ?_
          refine SJ.alloc (cs := [str [], .int .i64 0, .int .i64 0, .int .i64 0, .int .i64 0]) Try.zeroValue51 rfl rfl fun g21 => ?_
          refine SJ.storeL (k := 0) (off := 0) (us := [str e16.name, .int .i64 e16.stock, .int .i64 e16.target, .int .i64 e16.days, .int .i64 e16.instead]) rfl rfl rfl rfl Try.sizeOf51 rfl rfl ?_
          refine SJ.nil ?_
          refine PJ.next ?_
          refine WJ.reg ?_
          refine SJ.q (YldS.yld (y_move rfl)) rfl ?_
          refine SJ.q (YldS.yld (y_fldB (o := 0) fld51_2 rfl)) rfl ?_
          refine SJ.q (YldS.yld (y_loadB (k := 0) (off := 2) (v := .int .i64 e16.target) rfl Try.isAgg2 rfl rfl)) rfl ?_
          refine SJ.q (YldS.yld (y_fldB (o := 0) fld51_1 rfl)) rfl ?_
          refine SJ.q (YldS.yld (y_loadB (k := 0) (off := 1) (v := .int .i64 e16.stock) rfl Try.isAgg2 rfl rfl)) rfl ?_
          refine SJ.q (YldS.yld (y_bin rfl rfl rfl)) rfl ?_
          refine SJ.q (YldS.yld (y_max rfl rfl)) rfl ?_
          refine SJ.buildSlice (R := fI64) (os := [.tmp 23]) [imax (w64 (e16.target - e16.stock)) 0] Try.runUnderlying33 Try.sizeOf2 Try.zeroValue2 rfl rfl rfl rfl rfl rfl fun v22 => ?_
          obtain ⟨l23, h24, hm⟩ := bindS hm
          refine SJ.append (k := 2) (R := fI64) h24 rfl Try.underlying33 el2 rfl rfl rfl (fun w hw => (hw.row_rd (k := 0) rfl)) rfl fun v25 => ?_
          refine SJ.q (YldS.yld (y_assign rfl)) rfl ?_
          refine SJ.nil ?_
          refine PJ.block_normal (PJ.next ?_)
          refine WJ.quiet ?_
          refine QJ.step (YldS.yld (y_bin rfl rfl rfl)) rfl ?_
          refine QJ.step (YldS.yld (y_move rfl)) rfl ?_
          refine QJ.done ?_
          exact PJ.round (l23, v25, w64 (x14 + 1)) [2] hm ⟨rfl, rfl, rfl, rfl, trivial⟩ ⟨by decide, rfl⟩
        · replace hm := ifF hm hb15
          refine WJ.exit ?_
          refine PJ.then_exit (PJ.then_exit (PJ.block_exit ?_))
          exact PJ.joined (l12, v13) [0] hm ⟨rfl, trivial⟩ ⟨by decide, rfl⟩
    · rintro ⟨l8, v9⟩ hm
      subst hk11
      refine WJ.seq ?_
      refine WJ.quiet ?_
      refine QJ.step (YldS.yld (y_move rfl)) rfl ?_
      refine QJ.step (YldS.yld (y_assign rfl)) rfl ?_
      refine QJ.step (YldS.yld (y_assign rfl)) rfl ?_
      refine QJ.done ?_
      refine PJ.next ?_
      refine WJ.ret ?_
      obtain rfl := Option.some.inj hm
      refine PJ.sel (L' := [row v9 2 fI64 l8]) [0] ⟨by decide, rfl⟩ ?_
      exact PJ.retn (vs := [v9, .int .i64 0]) Try.results23 ⟨rfl, rfl, trivial⟩ ⟨_, rfl, rfl⟩

set_option maxRecDepth 100000 in
set_option maxHeartbeats 1000000 in
theorem ok_w_eqInt64S {N : Nat} {a1 : List Int} {b4 : List Int} {r : Bool} (hm : w_eqInt64S N a1 b4 = some r) (w : World) (v2 : Value) (hr3 : RdS w (cx w).Fz v2 fI64.rp a1) (v5 : Value) (hr6 : RdS w (cx w).Fz v5 fI64.rp b4) :
    Calls Try.prog 24 #[v2, v5] w (Ret (cx w) (.bool r)) := by
  unfold w_eqInt64S at hm
  refine Calls.enter [v2, v5] Try.func24 rfl Try.ntmps24 rfl ?_
  refine WJ.seq ?_
  refine WJ.quiet ?_
  refine QJ.step (YldS.yld (y_assign rfl)) rfl ?_
  refine QJ.done ?_
  refine PJ.next ?_
  refine WJ.seq ?_
  refine WJ.seq ?_
  refine WJ.quiet ?_
  refine QJ.step (YldS.yld (y_move rfl)) rfl ?_
  refine QJ.step (YldS.yld (y_lenS Try.runUnderlying33 hr3 rfl)) rfl ?_
  refine QJ.step (YldS.yld (y_move rfl)) rfl ?_
  refine QJ.step (YldS.yld (y_lenS Try.runUnderlying33 hr6 rfl)) rfl ?_
  refine QJ.step (YldS.yld (y_bin rfl rfl rfl)) rfl ?_
  refine QJ.done ?_
  refine PJ.next ?_
  refine WJ.cond (t := ((List.length a1 : Int) != (List.length b4 : Int))) rfl (fun hb7 => ?_) (fun hb7 => ?_)
  · replace hm := ifT hm hb7
    refine WJ.seq ?_
    refine WJ.quiet ?_
    refine QJ.step (YldS.yld (y_assign rfl)) rfl ?_
    refine QJ.done ?_
    refine PJ.next ?_
    refine WJ.ret ?_
    refine PJ.then_ret ?_
    obtain rfl := Option.some.inj hm
    refine PJ.sel (L' := []) [] ⟨List.nodup_nil, rfl⟩ ?_
    exact PJ.retn (vs := [.bool false]) Try.results24 ⟨rfl, trivial⟩ ⟨rfl, rfl⟩
  · replace hm := ifF hm hb7
    refine WJ.skip ?_
    refine PJ.next ?_
    obtain ⟨k8, hk9, hm⟩ := withK_open hm
    refine WJ.join (X := Unit) (fun (_ : Unit) => k8  = some r) (fun (_ : Unit) => []) (fun (_ : Unit) => []) ?_ ?_
    · clear hk9
      refine WJ.seq ?_
      refine WJ.quiet ?_
      refine QJ.step (YldS.yld (y_assign rfl)) rfl ?_
      refine QJ.done ?_
      refine PJ.next ?_
      refine WJ.block ?_
      refine WJ.sel (L' := (fun (x : Int) => []) 0) [] ⟨List.nodup_nil, rfl⟩ ?_
      refine WJ.sub (m' := (fun (x : Int) => [(0, v2), (1, v5), (5, .int .i64 x)]) 0) ⟨rfl, rfl, rfl, trivial⟩ ?_
      refine WJ.loop (X := Int) (fun N (x : Int) => w_eqInt64S_l1 k8 a1 b4 N x = some r) (fun (x : Int) => [(0, v2), (1, v5), (5, .int .i64 x)]) (fun (x : Int) => []) ?_ N 0 hm
      · rintro N i10 hI
        have hm := hI; clear hI
        cases N with
        | zero => cases hm
        | succ N =>
        unfold w_eqInt64S_l1 at hm
        refine WJ.seq ?_
        refine WJ.seq ?_
        refine WJ.quiet ?_
        refine QJ.step (YldS.yld (y_move rfl)) rfl ?_
        refine QJ.step (YldS.yld (y_move rfl)) rfl ?_
        refine QJ.step (YldS.yld (y_lenS Try.runUnderlying33 hr3 rfl)) rfl ?_
        refine QJ.step (YldS.yld (y_bin rfl rfl rfl)) rfl ?_
        refine QJ.done ?_
        refine PJ.next ?_
        refine WJ.cond (t := decide (i10 < (List.length a1 : Int))) rfl (fun hb11 => ?_) (fun hb11 => ?_)
        · replace hm := ifT hm hb11
          refine WJ.skip ?_
          refine PJ.next ?_
          refine WJ.seq ?_
          refine WJ.block ?_
          refine WJ.seq ?_
          refine WJ.quiet_draw follows (by kernel_rfl) ?_
          refine QJ.step (YldS.yld (y_move rfl)) rfl ?_
          refine QJ.step (YldS.yld (y_move rfl)) rfl ?_
          obtain ⟨e12, h13, hm⟩ := bindS hm
          obtain ⟨ad14, _, rfl, ha15, hy16⟩ := hr3.elem h13
          refine QJ.step (YldS.yld (hy16 Try.runUnderlying33 Try.sizeOf2 rfl rfl)) rfl ?_
          refine QJ.step (YldS.yld (y_load1 (v := .int .i64 e12) Try.isAgg2 ha15 St.frozenC rfl)) rfl ?_
          refine QJ.step (YldS.yld (y_move rfl)) rfl ?_
          refine QJ.step (YldS.yld (y_move rfl)) rfl ?_
          obtain ⟨e17, h18, hm⟩ := bindS hm
          obtain ⟨ad19, _, rfl, ha20, hy21⟩ := hr6.elem h18
          refine QJ.step (YldS.yld (hy21 Try.runUnderlying33 Try.sizeOf2 rfl rfl)) rfl ?_
          refine QJ.step (YldS.yld (y_load1 (v := .int .i64 e17) Try.isAgg2 ha20 St.frozenC rfl)) rfl ?_
          refine QJ.step (YldS.yld (y_bin rfl rfl rfl)) rfl ?_
          refine QJ.done ?_
          refine PJ.next ?_
          refine WJ.cond (t := (e12 != e17)) rfl (fun hb22 => ?_) (fun hb22 => ?_)
          · replace hm := ifT hm hb22
            refine WJ.seq ?_
            refine WJ.quiet ?_
            refine QJ.step (YldS.yld (y_assign rfl)) rfl ?_
            refine QJ.done ?_
            refine PJ.next ?_
            refine WJ.ret ?_
            refine PJ.block_ret (PJ.then_ret (PJ.then_ret (PJ.block_ret (PJ.then_ret ?_))))
            obtain rfl := Option.some.inj hm
            refine PJ.sel (L' := []) [] ⟨List.nodup_nil, rfl⟩ ?_
            exact PJ.retn (vs := [.bool false]) Try.results24 ⟨rfl, trivial⟩ ⟨rfl, rfl⟩
          · replace hm := ifF hm hb22
            refine WJ.skip ?_
            refine PJ.block_normal (PJ.next ?_)
            refine WJ.quiet ?_
            refine QJ.step (YldS.yld (y_move rfl)) rfl ?_
            refine QJ.step (YldS.yld (y_bin rfl rfl rfl)) rfl ?_
            refine QJ.step (YldS.yld (y_assign rfl)) rfl ?_
            refine QJ.done ?_
            exact PJ.round (w64 (i10 + 1)) [] hm ⟨rfl, rfl, rfl, trivial⟩ ⟨List.nodup_nil, rfl⟩
        · replace hm := ifF hm hb11
          refine WJ.exit ?_
          refine PJ.then_exit (PJ.then_exit (PJ.block_exit ?_))
          exact PJ.joined () [] hm trivial ⟨List.nodup_nil, rfl⟩
    · rintro _ hm
      subst hk9
      refine WJ.seq ?_
      refine WJ.quiet ?_
      refine QJ.step (YldS.yld (y_assign rfl)) rfl ?_
      refine QJ.done ?_
      refine PJ.next ?_
      refine WJ.ret ?_
      obtain rfl := Option.some.inj hm
      refine PJ.sel (L' := []) [] ⟨List.nodup_nil, rfl⟩ ?_
      exact PJ.retn (vs := [.bool true]) Try.results24 ⟨rfl, trivial⟩ ⟨rfl, rfl⟩

set_option maxRecDepth 100000 in
set_option maxHeartbeats 1000000 in
theorem ok_w_eqSparePart {a1 : SparePart} {b2 : SparePart} {r : Bool} (hm : w_eqSparePart a1 b2 = some r) (w : World)  :
    Calls Try.prog 48 #[.agg (SparePart.enc a1).toArray, .agg (SparePart.enc b2).toArray] w (Ret (cx w) (.bool r)) := by
  unfold w_eqSparePart at hm
  refine Calls.enter [.agg (SparePart.enc a1).toArray, .agg (SparePart.enc b2).toArray] Try.func48 rfl Try.ntmps48 rfl ?_
  refine WJ.seq ?_
  refine WJ.reg ?_
  refine SJ.box (cs := [str a1.name, .int .i64 a1.stock, .int .i64 a1.target, .int .i64 a1.days, .int .i64 a1.instead]) rfl rfl rfl fun g3 => ?_
  refine SJ.box (cs := [str b2.name, .int .i64 b2.stock, .int .i64 b2.target, .int .i64 b2.days, .int .i64 b2.instead]) rfl rfl rfl fun g4 => ?_
  refine SJ.q (YldS.yld (y_assign rfl)) rfl ?_
  refine SJ.nil ?_
  refine PJ.next ?_
  refine WJ.seq ?_
  refine WJ.seq ?_
  refine WJ.quiet ?_
  refine QJ.step (YldS.yld (y_fldB (o := 0) fld51_0 rfl)) rfl ?_
  refine QJ.step (YldS.yld (y_loadB (k := 1) (off := 0) (v := str a1.name) rfl Try.isAgg9 rfl rfl)) rfl ?_
  refine QJ.step (YldS.yld (y_fldB (o := 0) fld51_0 rfl)) rfl ?_
  refine QJ.step (YldS.yld (y_loadB (k := 0) (off := 0) (v := str b2.name) rfl Try.isAgg9 rfl rfl)) rfl ?_
  refine QJ.step (YldS.yld (y_binS rfl rfl rfl)) rfl ?_
  refine QJ.done ?_
  refine PJ.next ?_
  refine WJ.cond (t := (a1.name != b2.name)) rfl (fun hb5 => ?_) (fun hb5 => ?_)
  · replace hm := ifT hm hb5
    refine WJ.seq ?_
    refine WJ.quiet ?_
    refine QJ.step (YldS.yld (y_assign rfl)) rfl ?_
    refine QJ.done ?_
    refine PJ.next ?_
    refine WJ.ret ?_
    refine PJ.then_ret ?_
    obtain rfl := Option.some.inj hm
    refine PJ.sel (L' := []) [] ⟨List.nodup_nil, rfl⟩ ?_
    exact PJ.retn (vs := [.bool false]) Try.results48 ⟨rfl, trivial⟩ ⟨rfl, rfl⟩
  · replace hm := ifF hm hb5
    refine WJ.skip ?_
    refine PJ.next ?_
    refine WJ.seq ?_
    refine WJ.seq ?_
    refine WJ.quiet ?_
    refine QJ.step (YldS.yld (y_fldB (o := 0) fld51_1 rfl)) rfl ?_
    refine QJ.step (YldS.yld (y_loadB (k := 1) (off := 1) (v := .int .i64 a1.stock) rfl Try.isAgg2 rfl rfl)) rfl ?_
    refine QJ.step (YldS.yld (y_fldB (o := 0) fld51_1 rfl)) rfl ?_
    refine QJ.step (YldS.yld (y_loadB (k := 0) (off := 1) (v := .int .i64 b2.stock) rfl Try.isAgg2 rfl rfl)) rfl ?_
    refine QJ.step (YldS.yld (y_bin rfl rfl rfl)) rfl ?_
    refine QJ.done ?_
    refine PJ.next ?_
    refine WJ.cond (t := (a1.stock != b2.stock)) rfl (fun hb6 => ?_) (fun hb6 => ?_)
    · replace hm := ifT hm hb6
      refine WJ.seq ?_
      refine WJ.quiet ?_
      refine QJ.step (YldS.yld (y_assign rfl)) rfl ?_
      refine QJ.done ?_
      refine PJ.next ?_
      refine WJ.ret ?_
      refine PJ.then_ret ?_
      obtain rfl := Option.some.inj hm
      refine PJ.sel (L' := []) [] ⟨List.nodup_nil, rfl⟩ ?_
      exact PJ.retn (vs := [.bool false]) Try.results48 ⟨rfl, trivial⟩ ⟨rfl, rfl⟩
    · replace hm := ifF hm hb6
      refine WJ.skip ?_
      refine PJ.next ?_
      refine WJ.seq ?_
      refine WJ.seq ?_
      refine WJ.quiet ?_
      refine QJ.step (YldS.yld (y_fldB (o := 0) fld51_2 rfl)) rfl ?_
      refine QJ.step (YldS.yld (y_loadB (k := 1) (off := 2) (v := .int .i64 a1.target) rfl Try.isAgg2 rfl rfl)) rfl ?_
      refine QJ.step (YldS.yld (y_fldB (o := 0) fld51_2 rfl)) rfl ?_
      refine QJ.step (YldS.yld (y_loadB (k := 0) (off := 2) (v := .int .i64 b2.target) rfl Try.isAgg2 rfl rfl)) rfl ?_
      refine QJ.step (YldS.yld (y_bin rfl rfl rfl)) rfl ?_
      refine QJ.done ?_
      refine PJ.next ?_
      refine WJ.cond (t := (a1.target != b2.target)) rfl (fun hb7 => ?_) (fun hb7 => ?_)
      · replace hm := ifT hm hb7
        refine WJ.seq ?_
        refine WJ.quiet ?_
        refine QJ.step (YldS.yld (y_assign rfl)) rfl ?_
        refine QJ.done ?_
        refine PJ.next ?_
        refine WJ.ret ?_
        refine PJ.then_ret ?_
        obtain rfl := Option.some.inj hm
        refine PJ.sel (L' := []) [] ⟨List.nodup_nil, rfl⟩ ?_
        exact PJ.retn (vs := [.bool false]) Try.results48 ⟨rfl, trivial⟩ ⟨rfl, rfl⟩
      · replace hm := ifF hm hb7
        refine WJ.skip ?_
        refine PJ.next ?_
        refine WJ.seq ?_
        refine WJ.seq ?_
        refine WJ.quiet ?_
        refine QJ.step (YldS.yld (y_fldB (o := 0) fld51_3 rfl)) rfl ?_
        refine QJ.step (YldS.yld (y_loadB (k := 1) (off := 3) (v := .int .i64 a1.days) rfl Try.isAgg2 rfl rfl)) rfl ?_
        refine QJ.step (YldS.yld (y_fldB (o := 0) fld51_3 rfl)) rfl ?_
        refine QJ.step (YldS.yld (y_loadB (k := 0) (off := 3) (v := .int .i64 b2.days) rfl Try.isAgg2 rfl rfl)) rfl ?_
        refine QJ.step (YldS.yld (y_bin rfl rfl rfl)) rfl ?_
        refine QJ.done ?_
        refine PJ.next ?_
        refine WJ.cond (t := (a1.days != b2.days)) rfl (fun hb8 => ?_) (fun hb8 => ?_)
        · replace hm := ifT hm hb8
          refine WJ.seq ?_
          refine WJ.quiet ?_
          refine QJ.step (YldS.yld (y_assign rfl)) rfl ?_
          refine QJ.done ?_
          refine PJ.next ?_
          refine WJ.ret ?_
          refine PJ.then_ret ?_
          obtain rfl := Option.some.inj hm
          refine PJ.sel (L' := []) [] ⟨List.nodup_nil, rfl⟩ ?_
          exact PJ.retn (vs := [.bool false]) Try.results48 ⟨rfl, trivial⟩ ⟨rfl, rfl⟩
        · replace hm := ifF hm hb8
          refine WJ.skip ?_
          refine PJ.next ?_
          refine WJ.seq ?_
          refine WJ.seq ?_
          refine WJ.quiet ?_
          refine QJ.step (YldS.yld (y_fldB (o := 0) fld51_4 rfl)) rfl ?_
          refine QJ.step (YldS.yld (y_loadB (k := 1) (off := 4) (v := .int .i64 a1.instead) rfl Try.isAgg2 rfl rfl)) rfl ?_
          refine QJ.step (YldS.yld (y_fldB (o := 0) fld51_4 rfl)) rfl ?_
          refine QJ.step (YldS.yld (y_loadB (k := 0) (off := 4) (v := .int .i64 b2.instead) rfl Try.isAgg2 rfl rfl)) rfl ?_
          refine QJ.step (YldS.yld (y_bin rfl rfl rfl)) rfl ?_
          refine QJ.done ?_
          refine PJ.next ?_
          refine WJ.cond (t := (a1.instead != b2.instead)) rfl (fun hb9 => ?_) (fun hb9 => ?_)
          · replace hm := ifT hm hb9
            refine WJ.seq ?_
            refine WJ.quiet ?_
            refine QJ.step (YldS.yld (y_assign rfl)) rfl ?_
            refine QJ.done ?_
            refine PJ.next ?_
            refine WJ.ret ?_
            refine PJ.then_ret ?_
            obtain rfl := Option.some.inj hm
            refine PJ.sel (L' := []) [] ⟨List.nodup_nil, rfl⟩ ?_
            exact PJ.retn (vs := [.bool false]) Try.results48 ⟨rfl, trivial⟩ ⟨rfl, rfl⟩
          · replace hm := ifF hm hb9
            refine WJ.skip ?_
            refine PJ.next ?_
            refine WJ.seq ?_
            refine WJ.quiet ?_
            refine QJ.step (YldS.yld (y_assign rfl)) rfl ?_
            refine QJ.done ?_
            refine PJ.next ?_
            refine WJ.ret ?_
            obtain rfl := Option.some.inj hm
            refine PJ.sel (L' := []) [] ⟨List.nodup_nil, rfl⟩ ?_
            exact PJ.retn (vs := [.bool true]) Try.results48 ⟨rfl, trivial⟩ ⟨rfl, rfl⟩

set_option maxRecDepth 100000 in
set_option maxHeartbeats 1000000 in
theorem ok_w_eqSparePartS {N : Nat} {a1 : List SparePart} {b4 : List SparePart} {r : Bool} (hm : w_eqSparePartS N a1 b4 = some r) (w : World) (v2 : Value) (hr3 : RdS w (cx w).Fz v2 fSparePart.rp a1) (v5 : Value) (hr6 : RdS w (cx w).Fz v5 fSparePart.rp b4) :
    Calls Try.prog 17 #[v2, v5] w (Ret (cx w) (.bool r)) := by
  unfold w_eqSparePartS at hm
  refine Calls.enter [v2, v5] Try.func17 rfl Try.ntmps17 rfl ?_
  refine WJ.seq ?_
  refine WJ.quiet ?_
  refine QJ.step (YldS.yld (y_assign rfl)) rfl ?_
  refine QJ.done ?_
  refine PJ.next ?_
  refine WJ.seq ?_
  refine WJ.seq ?_
  refine WJ.quiet ?_
  refine QJ.step (YldS.yld (y_move rfl)) rfl ?_
  refine QJ.step (YldS.yld (y_lenS Try.runUnderlying25 hr3 rfl)) rfl ?_
  refine QJ.step (YldS.yld (y_move rfl)) rfl ?_
  refine QJ.step (YldS.yld (y_lenS Try.runUnderlying25 hr6 rfl)) rfl ?_
  refine QJ.step (YldS.yld (y_bin rfl rfl rfl)) rfl ?_
  refine QJ.done ?_
  refine PJ.next ?_
  refine WJ.cond (t := ((List.length a1 : Int) != (List.length b4 : Int))) rfl (fun hb7 => ?_) (fun hb7 => ?_)
  · replace hm := ifT hm hb7
    refine WJ.seq ?_
    refine WJ.quiet ?_
    refine QJ.step (YldS.yld (y_assign rfl)) rfl ?_
    refine QJ.done ?_
    refine PJ.next ?_
    refine WJ.ret ?_
    refine PJ.then_ret ?_
    obtain rfl := Option.some.inj hm
    refine PJ.sel (L' := []) [] ⟨List.nodup_nil, rfl⟩ ?_
    exact PJ.retn (vs := [.bool false]) Try.results17 ⟨rfl, trivial⟩ ⟨rfl, rfl⟩
  · replace hm := ifF hm hb7
    refine WJ.skip ?_
    refine PJ.next ?_
    obtain ⟨k8, hk9, hm⟩ := withK_open hm
    refine WJ.join (X := Unit) (fun (_ : Unit) => k8  = some r) (fun (_ : Unit) => []) (fun (_ : Unit) => []) ?_ ?_
    · clear hk9
      refine WJ.seq ?_
      refine WJ.quiet ?_
      refine QJ.step (YldS.yld (y_assign rfl)) rfl ?_
      refine QJ.done ?_
      refine PJ.next ?_
      refine WJ.block ?_
      refine WJ.sel (L' := (fun (x : Int) => []) 0) [] ⟨List.nodup_nil, rfl⟩ ?_
      refine WJ.sub (m' := (fun (x : Int) => [(0, v2), (1, v5), (5, .int .i64 x)]) 0) ⟨rfl, rfl, rfl, trivial⟩ ?_
      refine WJ.loop (X := Int) (fun N (x : Int) => w_eqSparePartS_l1 k8 a1 b4 N x = some r) (fun (x : Int) => [(0, v2), (1, v5), (5, .int .i64 x)]) (fun (x : Int) => []) ?_ N 0 hm
      · rintro N i10 hI
        have hm := hI; clear hI
        cases N with
        | zero => cases hm
        | succ N =>
        unfold w_eqSparePartS_l1 at hm
        refine WJ.seq ?_
        refine WJ.seq ?_
        refine WJ.quiet ?_
        refine QJ.step (YldS.yld (y_move rfl)) rfl ?_
        refine QJ.step (YldS.yld (y_move rfl)) rfl ?_
        refine QJ.step (YldS.yld (y_lenS Try.runUnderlying25 hr3 rfl)) rfl ?_
        refine QJ.step (YldS.yld (y_bin rfl rfl rfl)) rfl ?_
        refine QJ.done ?_
        refine PJ.next ?_
        refine WJ.cond (t := decide (i10 < (List.length a1 : Int))) rfl (fun hb11 => ?_) (fun hb11 => ?_)
        · replace hm := ifT hm hb11
          refine WJ.skip ?_
          refine PJ.next ?_
          refine WJ.seq ?_
          refine WJ.block ?_
          refine WJ.seq ?_
          refine WJ.quiet_draw follows (by kernel_rfl) ?_
          refine QJ.step (YldS.yld (y_move rfl)) rfl ?_
          refine QJ.step (YldS.yld (y_move rfl)) rfl ?_
          obtain ⟨e12, h13, hm⟩ := bindS hm
          obtain ⟨ad14, _, rfl, ha15, hy16⟩ := hr3.elem h13
          refine QJ.step (YldS.yld (hy16 Try.runUnderlying25 Try.sizeOf51 rfl rfl)) rfl ?_
          refine QJ.step (YldS.yld (y_loadN Try.isAgg51 Try.sizeOf51 rfl ha15 St.frozenC rfl)) rfl ?_
          refine QJ.step (YldS.yld (y_move rfl)) rfl ?_
          refine QJ.step (YldS.yld (y_move rfl)) rfl ?_
          obtain ⟨e17, h18, hm⟩ := bindS hm
          obtain ⟨ad19, _, rfl, ha20, hy21⟩ := hr6.elem h18
          refine QJ.step (YldS.yld (hy21 Try.runUnderlying25 Try.sizeOf51 rfl rfl)) rfl ?_
          refine QJ.step (YldS.yld (y_loadN Try.isAgg51 Try.sizeOf51 rfl ha20 St.frozenC rfl)) rfl ?_
          obtain ⟨r22, h23, hm⟩ := bindS hm
          refine QJ.step (y_call Try.call48 rfl (RetG.quiet fun w hw => ok_w_eqSparePart h23 w )) rfl ?_
          refine QJ.step (YldS.yld (y_not rfl)) rfl ?_
          refine QJ.done ?_
          refine PJ.next ?_
          refine WJ.cond (t := !r22) rfl (fun hb24 => ?_) (fun hb24 => ?_)
          · replace hm := ifT hm hb24
            refine WJ.seq ?_
            refine WJ.quiet ?_
            refine QJ.step (YldS.yld (y_assign rfl)) rfl ?_
            refine QJ.done ?_
            refine PJ.next ?_
            refine WJ.ret ?_
            refine PJ.block_ret (PJ.then_ret (PJ.then_ret (PJ.block_ret (PJ.then_ret ?_))))
            obtain rfl := Option.some.inj hm
            refine PJ.sel (L' := []) [] ⟨List.nodup_nil, rfl⟩ ?_
            exact PJ.retn (vs := [.bool false]) Try.results17 ⟨rfl, trivial⟩ ⟨rfl, rfl⟩
          · replace hm := ifF hm hb24
            refine WJ.skip ?_
            refine PJ.block_normal (PJ.next ?_)
            refine WJ.quiet ?_
            refine QJ.step (YldS.yld (y_move rfl)) rfl ?_
            refine QJ.step (YldS.yld (y_bin rfl rfl rfl)) rfl ?_
            refine QJ.step (YldS.yld (y_assign rfl)) rfl ?_
            refine QJ.done ?_
            exact PJ.round (w64 (i10 + 1)) [] hm ⟨rfl, rfl, rfl, trivial⟩ ⟨List.nodup_nil, rfl⟩
        · replace hm := ifF hm hb11
          refine WJ.exit ?_
          refine PJ.then_exit (PJ.then_exit (PJ.block_exit ?_))
          exact PJ.joined () [] hm trivial ⟨List.nodup_nil, rfl⟩
    · rintro _ hm
      subst hk9
      refine WJ.seq ?_
      refine WJ.quiet ?_
      refine QJ.step (YldS.yld (y_assign rfl)) rfl ?_
      refine QJ.done ?_
      refine PJ.next ?_
      refine WJ.ret ?_
      obtain rfl := Option.some.inj hm
      refine PJ.sel (L' := []) [] ⟨List.nodup_nil, rfl⟩ ?_
      exact PJ.retn (vs := [.bool true]) Try.results17 ⟨rfl, trivial⟩ ⟨rfl, rfl⟩

set_option maxRecDepth 100000 in
set_option maxHeartbeats 1000000 in
theorem ok_w_markText {N : Nat} {k1 : Int} {r : Str} (hm : w_markText N k1 = some r) (w : World)  :
    Calls Try.prog 57 #[.int .i64 k1] w (Ret (cx w) (str r)) := by
  unfold w_markText at hm
  refine Calls.enter [.int .i64 k1] Try.func57 rfl Try.ntmps57 rfl ?_
  refine WJ.seq ?_
  refine WJ.quiet ?_
  refine QJ.step (YldS.yld (y_assign rfl)) rfl ?_
  refine QJ.done ?_
  refine PJ.next ?_
  refine WJ.seq ?_
  refine WJ.seq ?_
  refine WJ.quiet ?_
  refine QJ.step (YldS.yld (y_move rfl)) rfl ?_
  refine QJ.step (YldS.yld (y_bin rfl rfl rfl)) rfl ?_
  refine QJ.done ?_
  refine PJ.next ?_
  refine WJ.cond (t := decide (k1 ≤ 0)) rfl (fun hb2 => ?_) (fun hb2 => ?_)
  · replace hm := ifT hm hb2
    refine WJ.seq ?_
    refine WJ.quiet ?_
    refine QJ.step (YldS.yld (y_assign rfl)) rfl ?_
    refine QJ.done ?_
    refine PJ.next ?_
    refine WJ.ret ?_
    refine PJ.then_ret ?_
    obtain rfl := Option.some.inj hm
    refine PJ.sel (L' := []) [] ⟨List.nodup_nil, rfl⟩ ?_
    exact PJ.retn (vs := [str [109, 48]]) Try.results57 ⟨rfl, trivial⟩ ⟨rfl, rfl⟩
  · replace hm := ifF hm hb2
    refine WJ.skip ?_
    refine PJ.next ?_
    refine WJ.seq ?_
    refine WJ.quiet ?_
    refine QJ.step (YldS.yld (y_assign rfl)) rfl ?_
    refine QJ.done ?_
    refine PJ.next ?_
    obtain ⟨k4, hk5, hm⟩ := withK_open hm
    refine WJ.join (X := Str) (fun (x : Str) => k4 x = some r) (fun (x : Str) => [(3, str x)]) (fun (x : Str) => []) ?_ ?_
    · clear hk5
      refine WJ.block ?_
      refine WJ.sel (L' := (fun (x : Int × Str) => []) (k1, [])) [] ⟨List.nodup_nil, rfl⟩ ?_
      refine WJ.sub (m' := (fun (x : Int × Str) => [(0, .int .i64 x.1), (3, str x.2)]) (k1, [])) ⟨rfl, rfl, trivial⟩ ?_
      refine WJ.loop (X := Int × Str) (fun N (x : Int × Str) => w_markText_l1 k4 N x.1 x.2 = some r) (fun (x : Int × Str) => [(0, .int .i64 x.1), (3, str x.2)]) (fun (x : Int × Str) => []) ?_ N (k1, []) hm
      · rintro N ⟨k6, out7⟩ hI
        have hm := hI; clear hI
        cases N with
        | zero => cases hm
        | succ N =>
        unfold w_markText_l1 at hm
        refine WJ.seq ?_
        refine WJ.seq ?_
        refine WJ.quiet ?_
        refine QJ.step (YldS.yld (y_move rfl)) rfl ?_
        refine QJ.step (YldS.yld (y_bin rfl rfl rfl)) rfl ?_
        refine QJ.done ?_
        refine PJ.next ?_
        refine WJ.cond (t := decide (k6 > 0)) rfl (fun hb8 => ?_) (fun hb8 => ?_)
        · replace hm := ifT hm hb8
          refine WJ.skip ?_
          refine PJ.next ?_
          refine WJ.block ?_
          refine WJ.seq ?_
          refine WJ.reg ?_
          refine SJ.q (YldS.yld (y_move rfl)) rfl ?_
          refine SJ.q (YldS.yld (y_rem rfl rfl (by decide))) rfl ?_
          refine SJ.q (YldS.yld (y_bin rfl rfl rfl)) rfl ?_
          refine SJ.q (YldS.yld (y_convTo8 Try.runUnderlying3 Try.runUnderlying5 rfl)) rfl ?_
          refine SJ.buildSlice (R := fByte) (os := [.tmp 11]) [UInt8.ofInt (w64 (48 + (Int.tmod k6 10)))] Try.runUnderlying46 Try.sizeOf5 Try.zeroValue5 rfl rfl rfl rfl rfl rfl fun v9 => ?_
          refine SJ.q (YldS.yld (y_b2s Try.underlying46 Try.underlying9 Try.underlying5 (fun w hw => ⟨_, (hw.row_rd (k := 0) rfl)⟩) rfl)) rfl ?_
          refine SJ.q (YldS.yld (y_move rfl)) rfl ?_
          obtain ⟨s10, h11, hm⟩ := bindS hm
          refine SJ.q (YldS.yld (y_cat h11 rfl rfl)) rfl ?_
          refine SJ.q (YldS.yld (y_assign rfl)) rfl ?_
          refine SJ.nil ?_
          refine PJ.next ?_
          refine WJ.quiet ?_
          refine QJ.step (YldS.yld (y_move rfl)) rfl ?_
          refine QJ.step (YldS.yld (y_quo rfl rfl (by decide))) rfl ?_
          refine QJ.step (YldS.yld (y_assign rfl)) rfl ?_
          refine QJ.done ?_
          refine PJ.block_normal ?_
          exact PJ.round (w64 (Int.tdiv k6 10), s10) [] hm ⟨rfl, rfl, trivial⟩ ⟨List.nodup_nil, rfl⟩
        · replace hm := ifF hm hb8
          refine WJ.exit ?_
          refine PJ.then_exit (PJ.then_exit (PJ.block_exit ?_))
          exact PJ.joined out7 [] hm ⟨rfl, trivial⟩ ⟨List.nodup_nil, rfl⟩
    · rintro out3 hm
      subst hk5
      refine WJ.seq ?_
      refine WJ.quiet ?_
      refine QJ.step (YldS.yld (y_move rfl)) rfl ?_
      obtain ⟨s12, h13, hm⟩ := bindS hm
      refine QJ.step (YldS.yld (y_cat h13 rfl rfl)) rfl ?_
      refine QJ.step (YldS.yld (y_assign rfl)) rfl ?_
      refine QJ.done ?_
      refine PJ.next ?_
      refine WJ.ret ?_
      obtain rfl := Option.some.inj hm
      refine PJ.sel (L' := []) [] ⟨List.nodup_nil, rfl⟩ ?_
      exact PJ.retn (vs := [str s12]) Try.results57 ⟨rfl, trivial⟩ ⟨rfl, rfl⟩

set_option maxRecDepth 100000 in
set_option maxHeartbeats 1000000 in
theorem ok_w_markSparePartS {N : Nat} {a1 : List SparePart} {k3 : Int} {v2 : Value} {r : Int × (List SparePart)} (hm : w_markSparePartS N a1 k3 = some r) (w : World) (S : Nat → Prop)  (hA : (row v2 51 fSparePart a1).holds w S) :
    Calls Try.prog 25 #[v2, .int .i64 k3] w (RetG ⟨w, S⟩ fun u L => (u = .int .i64 r.1 ∧ L = [row v2 51 fSparePart r.2])) := by
  unfold w_markSparePartS at hm
  refine Calls.enter1 hA [v2, .int .i64 k3] Try.func25 rfl Try.ntmps25 rfl ?_
  refine WJ.seq ?_
  refine WJ.quiet ?_
  refine QJ.step (YldS.yld (y_assign rfl)) rfl ?_
  refine QJ.done ?_
  refine PJ.next ?_
  obtain ⟨k6, hk7, hm⟩ := withK_open hm
  refine WJ.join (X := (List SparePart) × Int) (fun (x : (List SparePart) × Int) => k6 x.1 x.2 = some r) (fun (x : (List SparePart) × Int) => [(1, .int .i64 x.2)]) (fun (x : (List SparePart) × Int) => [row v2 51 fSparePart x.1]) ?_ ?_
  · clear hk7
    refine WJ.seq ?_
    refine WJ.quiet ?_
    refine QJ.step (YldS.yld (y_assign rfl)) rfl ?_
    refine QJ.done ?_
    refine PJ.next ?_
    refine WJ.block ?_
    refine WJ.sel (L' := (fun (x : (List SparePart) × Int × Int) => [row v2 51 fSparePart x.1]) (a1, k3, 0)) [0] ⟨by decide, rfl⟩ ?_
    refine WJ.sub (m' := (fun (x : (List SparePart) × Int × Int) => [(0, v2), (1, .int .i64 x.2.1), (5, .int .i64 x.2.2)]) (a1, k3, 0)) ⟨rfl, rfl, rfl, trivial⟩ ?_
    refine WJ.loop (X := (List SparePart) × Int × Int) (fun N (x : (List SparePart) × Int × Int) => w_markSparePartS_l1 k6 N x.1 x.2.1 x.2.2 = some r) (fun (x : (List SparePart) × Int × Int) => [(0, v2), (1, .int .i64 x.2.1), (5, .int .i64 x.2.2)]) (fun (x : (List SparePart) × Int × Int) => [row v2 51 fSparePart x.1]) ?_ N (a1, k3, 0) hm
    · rintro N ⟨l8, k9, i10⟩ hI
      have hm := hI; clear hI
      cases N with
      | zero => cases hm
      | succ N =>
      unfold w_markSparePartS_l1 at hm
      refine WJ.seq ?_
      refine WJ.seq ?_
      refine WJ.quiet ?_
      refine QJ.step (YldS.yld (y_move rfl)) rfl ?_
      refine QJ.step (YldS.yld (y_move rfl)) rfl ?_
      refine QJ.step (YldS.yld (y_lenRow (k := 0) rfl Try.runUnderlying25 rfl)) rfl ?_
      refine QJ.step (YldS.yld (y_bin rfl rfl rfl)) rfl ?_
      refine QJ.done ?_
      refine PJ.next ?_
      refine WJ.cond (t := decide (i10 < (List.length l8 : Int))) rfl (fun hb11 => ?_) (fun hb11 => ?_)
      · replace hm := ifT hm hb11
        refine WJ.skip ?_
        refine PJ.next ?_
        refine WJ.seq ?_
        refine WJ.block ?_
        refine WJ.seq ?_
        refine WJ.reg ?_
        refine SJ.q (YldS.yld (y_move rfl)) rfl ?_
        refine SJ.q (YldS.yld (y_move rfl)) rfl ?_
        refine SJ.q (YldS.yld (y_move rfl)) rfl ?_
        obtain ⟨r12, h13, hm⟩ := bindS hm
        refine SJ.q (y_call Try.call57 rfl (RetG.quiet fun w hw => ok_w_markText h13 w )) rfl ?_
        obtain ⟨e14, h15, hm⟩ := bindS hm
        refine SJ.q (YldS.yld (y_ixRow (k := 0) (R := fSparePart) rfl Try.runUnderlying25 Try.sizeOf51 rfl rfl h15)) rfl ?_
        refine SJ.q (YldS.yld (y_fldR fld51_0 rfl)) rfl ?_
        refine SJ.storeRL (k := 0) (i := (Int.toNat i10)) (off := 0) (us := [str r12]) (b := (SparePart.mk r12 e14.stock e14.target e14.days e14.instead)) rfl rfl (idx_get h15) rfl rfl Try.sizeOf9 rfl rfl rfl ?_
        refine SJ.nil ?_
        refine PJ.next ?_
        refine WJ.seq ?_
        refine WJ.quiet ?_
        refine QJ.step (YldS.yld (y_move rfl)) rfl ?_
        refine QJ.step (YldS.yld (y_bin rfl rfl rfl)) rfl ?_
        refine QJ.step (YldS.yld (y_assign rfl)) rfl ?_
        refine QJ.done ?_
        refine PJ.next ?_
        refine WJ.seq ?_
        refine WJ.reg ?_
        refine SJ.q (YldS.yld (y_move rfl)) rfl ?_
        refine SJ.q (YldS.yld (y_move rfl)) rfl ?_
        refine SJ.q (YldS.yld (y_move rfl)) rfl ?_
        obtain ⟨e16, h17, hm⟩ := bindS hm
        refine SJ.q (YldS.yld (y_ixRow (k := 0) (R := fSparePart) rfl Try.runUnderlying25 Try.sizeOf51 rfl rfl h17)) rfl ?_
        refine SJ.q (YldS.yld (y_fldR fld51_1 rfl)) rfl ?_
        refine SJ.storeRL (k := 0) (i := (Int.toNat i10)) (off := 1) (us := [.int .i64 (w64 (k9 + 1))]) (b := (SparePart.mk e16.name (w64 (k9 + 1)) e16.target e16.days e16.instead)) rfl rfl (idx_get h17) rfl rfl Try.sizeOf2 rfl rfl rfl ?_
        refine SJ.nil ?_
        refine PJ.next ?_
        refine WJ.seq ?_
        refine WJ.quiet ?_
        refine QJ.step (YldS.yld (y_move rfl)) rfl ?_
        refine QJ.step (YldS.yld (y_bin rfl rfl rfl)) rfl ?_
        refine QJ.step (YldS.yld (y_assign rfl)) rfl ?_
        refine QJ.done ?_
        refine PJ.next ?_
        refine WJ.seq ?_
        refine WJ.reg ?_
        refine SJ.q (YldS.yld (y_move rfl)) rfl ?_
        refine SJ.q (YldS.yld (y_move rfl)) rfl ?_
        refine SJ.q (YldS.yld (y_move rfl)) rfl ?_
        obtain ⟨e18, h19, hm⟩ := bindS hm
        refine SJ.q (YldS.yld (y_ixRow (k := 0) (R := fSparePart) rfl Try.runUnderlying25 Try.sizeOf51 rfl rfl h19)) rfl ?_
        refine SJ.q (YldS.yld (y_fldR fld51_2 rfl)) rfl ?_
        refine SJ.storeRL (k := 0) (i := (Int.toNat i10)) (off := 2) (us := [.int .i64 (w64 ((w64 (k9 + 1)) + 1))]) (b := (SparePart.mk e18.name e18.stock (w64 ((w64 (k9 + 1)) + 1)) e18.days e18.instead)) rfl rfl (idx_get h19) rfl rfl Try.sizeOf2 rfl rfl rfl ?_
        refine SJ.nil ?_
        refine PJ.next ?_
        refine WJ.seq ?_
        refine WJ.quiet ?_
        refine QJ.step (YldS.yld (y_move rfl)) rfl ?_
        refine QJ.step (YldS.yld (y_bin rfl rfl rfl)) rfl ?_
        refine QJ.step (YldS.yld (y_assign rfl)) rfl ?_
        refine QJ.done ?_
        refine PJ.next ?_
        refine WJ.seq ?_
        refine WJ.reg ?_
        refine SJ.q (YldS.yld (y_move rfl)) rfl ?_
        refine SJ.q (YldS.yld (y_move rfl)) rfl ?_
        refine SJ.q (YldS.yld (y_move rfl)) rfl ?_
        obtain ⟨e20, h21, hm⟩ := bindS hm
        refine SJ.q (YldS.yld (y_ixRow (k := 0) (R := fSparePart) rfl Try.runUnderlying25 Try.sizeOf51 rfl rfl h21)) rfl ?_
        refine SJ.q (YldS.yld (y_fldR fld51_3 rfl)) rfl ?_
        refine SJ.storeRL (k := 0) (i := (Int.toNat i10)) (off := 3) (us := [.int .i64 (w64 ((w64 ((w64 (k9 + 1)) + 1)) + 1))]) (b := (SparePart.mk e20.name e20.stock e20.target (w64 ((w64 ((w64 (k9 + 1)) + 1)) + 1)) e20.instead)) rfl rfl (idx_get h21) rfl rfl Try.sizeOf2 rfl rfl rfl ?_
        refine SJ.nil ?_
        refine PJ.next ?_
        refine WJ.seq ?_
        refine WJ.quiet ?_
        refine QJ.step (YldS.yld (y_move rfl)) rfl ?_
        refine QJ.step (YldS.yld (y_bin rfl rfl rfl)) rfl ?_
        refine QJ.step (YldS.yld (y_assign rfl)) rfl ?_
        refine QJ.done ?_
        refine PJ.next ?_
        refine WJ.seq ?_
        refine WJ.reg ?_
        refine SJ.q (YldS.yld (y_move rfl)) rfl ?_
        refine SJ.q (YldS.yld (y_move rfl)) rfl ?_
        refine SJ.q (YldS.yld (y_move rfl)) rfl ?_
        obtain ⟨e22, h23, hm⟩ := bindS hm
        refine SJ.q (YldS.yld (y_ixRow (k := 0) (R := fSparePart) rfl Try.runUnderlying25 Try.sizeOf51 rfl rfl h23)) rfl ?_
        refine SJ.q (YldS.yld (y_fldR fld51_4 rfl)) rfl ?_
        refine SJ.storeRL (k := 0) (i := (Int.toNat i10)) (off := 4) (us := [.int .i64 (w64 ((w64 ((w64 ((w64 (k9 + 1)) + 1)) + 1)) + 1))]) (b := (SparePart.mk e22.name e22.stock e22.target e22.days (w64 ((w64 ((w64 ((w64 (k9 + 1)) + 1)) + 1)) + 1)))) rfl rfl (idx_get h23) rfl rfl Try.sizeOf2 rfl rfl rfl ?_
        refine SJ.nil ?_
        refine PJ.next ?_
        refine WJ.quiet ?_
        refine QJ.step (YldS.yld (y_move rfl)) rfl ?_
        refine QJ.step (YldS.yld (y_bin rfl rfl rfl)) rfl ?_
        refine QJ.step (YldS.yld (y_assign rfl)) rfl ?_
        refine QJ.done ?_
        refine PJ.block_normal (PJ.next ?_)
        refine WJ.quiet ?_
        refine QJ.step (YldS.yld (y_move rfl)) rfl ?_
        refine QJ.step (YldS.yld (y_bin rfl rfl rfl)) rfl ?_
        refine QJ.step (YldS.yld (y_assign rfl)) rfl ?_
        refine QJ.done ?_
        exact PJ.round ((List.set (List.set (List.set (List.set (List.set l8 (Int.toNat i10) (SparePart.mk r12 e14.stock e14.target e14.days e14.instead)) (Int.toNat i10) (SparePart.mk e16.name (w64 (k9 + 1)) e16.target e16.days e16.instead)) (Int.toNat i10) (SparePart.mk e18.name e18.stock (w64 ((w64 (k9 + 1)) + 1)) e18.days e18.instead)) (Int.toNat i10) (SparePart.mk e20.name e20.stock e20.target (w64 ((w64 ((w64 (k9 + 1)) + 1)) + 1)) e20.instead)) (Int.toNat i10) (SparePart.mk e22.name e22.stock e22.target e22.days (w64 ((w64 ((w64 ((w64 (k9 + 1)) + 1)) + 1)) + 1)))), w64 ((w64 ((w64 ((w64 ((w64 (k9 + 1)) + 1)) + 1)) + 1)) + 1), w64 (i10 + 1)) [0] hm ⟨rfl, rfl, rfl, trivial⟩ ⟨by decide, rfl⟩
      · replace hm := ifF hm hb11
        refine WJ.exit ?_
        refine PJ.then_exit (PJ.then_exit (PJ.block_exit ?_))
        exact PJ.joined (l8, k9) [0] hm ⟨rfl, trivial⟩ ⟨by decide, rfl⟩
  · rintro ⟨l4, k5⟩ hm
    subst hk7
    refine WJ.seq ?_
    refine WJ.quiet ?_
    refine QJ.step (YldS.yld (y_move rfl)) rfl ?_
    refine QJ.step (YldS.yld (y_assign rfl)) rfl ?_
    refine QJ.done ?_
    refine PJ.next ?_
    refine WJ.ret ?_
    obtain rfl := Option.some.inj hm
    refine PJ.sel (L' := [row v2 51 fSparePart l4]) [0] ⟨by decide, rfl⟩ ?_
    exact PJ.retn (vs := [.int .i64 k5]) Try.results25 ⟨rfl, trivial⟩ ⟨rfl, rfl⟩

set_option maxRecDepth 100000 in
set_option maxHeartbeats 1000000 in
theorem ok_w_markInt64S {N : Nat} {a1 : List Int} {k3 : Int} {v2 : Value} {r : Int × (List Int)} (hm : w_markInt64S N a1 k3 = some r) (w : World) (S : Nat → Prop)  (hA : (row v2 2 fI64 a1).holds w S) :
    Calls Try.prog 26 #[v2, .int .i64 k3] w (RetG ⟨w, S⟩ fun u L => (u = .int .i64 r.1 ∧ L = [row v2 2 fI64 r.2])) := by
  unfold w_markInt64S at hm
  refine Calls.enter1 hA [v2, .int .i64 k3] Try.func26 rfl Try.ntmps26 rfl ?_
  refine WJ.seq ?_
  refine WJ.quiet ?_
  refine QJ.step (YldS.yld (y_assign rfl)) rfl ?_
  refine QJ.done ?_
  refine PJ.next ?_
  obtain ⟨k6, hk7, hm⟩ := withK_open hm
  refine WJ.join (X := (List Int) × Int) (fun (x : (List Int) × Int) => k6 x.1 x.2 = some r) (fun (x : (List Int) × Int) => [(1, .int .i64 x.2)]) (fun (x : (List Int) × Int) => [row v2 2 fI64 x.1]) ?_ ?_
  · clear hk7
    refine WJ.seq ?_
    refine WJ.quiet ?_
    refine QJ.step (YldS.yld (y_assign rfl)) rfl ?_
    refine QJ.done ?_
    refine PJ.next ?_
    refine WJ.block ?_
    refine WJ.sel (L' := (fun (x : (List Int) × Int × Int) => [row v2 2 fI64 x.1]) (a1, k3, 0)) [0] ⟨by decide, rfl⟩ ?_
    refine WJ.sub (m' := (fun (x : (List Int) × Int × Int) => [(0, v2), (1, .int .i64 x.2.1), (5, .int .i64 x.2.2)]) (a1, k3, 0)) ⟨rfl, rfl, rfl, trivial⟩ ?_
    refine WJ.loop (X := (List Int) × Int × Int) (fun N (x : (List Int) × Int × Int) => w_markInt64S_l1 k6 N x.1 x.2.1 x.2.2 = some r) (fun (x : (List Int) × Int × Int) => [(0, v2), (1, .int .i64 x.2.1), (5, .int .i64 x.2.2)]) (fun (x : (List Int) × Int × Int) => [row v2 2 fI64 x.1]) ?_ N (a1, k3, 0) hm
    · rintro N ⟨l8, k9, i10⟩ hI
      have hm := hI; clear hI
      cases N with
      | zero => cases hm
      | succ N =>
      unfold w_markInt64S_l1 at hm
      refine WJ.seq ?_
      refine WJ.seq ?_
      refine WJ.quiet ?_
      refine QJ.step (YldS.yld (y_move rfl)) rfl ?_
      refine QJ.step (YldS.yld (y_move rfl)) rfl ?_
      refine QJ.step (YldS.yld (y_lenRow (k := 0) rfl Try.runUnderlying33 rfl)) rfl ?_
      refine QJ.step (YldS.yld (y_bin rfl rfl rfl)) rfl ?_
      refine QJ.done ?_
      refine PJ.next ?_
      refine WJ.cond (t := decide (i10 < (List.length l8 : Int))) rfl (fun hb11 => ?_) (fun hb11 => ?_)
      · replace hm := ifT hm hb11
        refine WJ.skip ?_
        refine PJ.next ?_
        refine WJ.seq ?_
        refine WJ.block ?_
        refine WJ.seq ?_
        refine WJ.reg ?_
        refine SJ.q (YldS.yld (y_move rfl)) rfl ?_
        refine SJ.q (YldS.yld (y_move rfl)) rfl ?_
        refine SJ.q (YldS.yld (y_move rfl)) rfl ?_
        obtain ⟨e12, h13, hm⟩ := bindS hm
        refine SJ.q (YldS.yld (y_ixRow (k := 0) (R := fI64) rfl Try.runUnderlying33 Try.sizeOf2 rfl rfl h13)) rfl ?_
        refine SJ.storeRL (k := 0) (i := (Int.toNat i10)) (off := 0) (us := [.int .i64 k9]) (b := k9) rfl rfl (idx_get h13) rfl rfl Try.sizeOf2 rfl rfl rfl ?_
        refine SJ.nil ?_
        refine PJ.next ?_
        refine WJ.quiet ?_
        refine QJ.step (YldS.yld (y_move rfl)) rfl ?_
        refine QJ.step (YldS.yld (y_bin rfl rfl rfl)) rfl ?_
        refine QJ.step (YldS.yld (y_assign rfl)) rfl ?_
        refine QJ.done ?_
        refine PJ.block_normal (PJ.next ?_)
        refine WJ.quiet ?_
        refine QJ.step (YldS.yld (y_move rfl)) rfl ?_
        refine QJ.step (YldS.yld (y_bin rfl rfl rfl)) rfl ?_
        refine QJ.step (YldS.yld (y_assign rfl)) rfl ?_
        refine QJ.done ?_
        exact PJ.round ((List.set l8 (Int.toNat i10) k9), w64 (k9 + 1), w64 (i10 + 1)) [0] hm ⟨rfl, rfl, rfl, trivial⟩ ⟨by decide, rfl⟩
      · replace hm := ifF hm hb11
        refine WJ.exit ?_
        refine PJ.then_exit (PJ.then_exit (PJ.block_exit ?_))
        exact PJ.joined (l8, k9) [0] hm ⟨rfl, trivial⟩ ⟨by decide, rfl⟩
  · rintro ⟨l4, k5⟩ hm
    subst hk7
    refine WJ.seq ?_
    refine WJ.quiet ?_
    refine QJ.step (YldS.yld (y_move rfl)) rfl ?_
    refine QJ.step (YldS.yld (y_assign rfl)) rfl ?_
    refine QJ.done ?_
    refine PJ.next ?_
    refine WJ.ret ?_
    obtain rfl := Option.some.inj hm
    refine PJ.sel (L' := [row v2 2 fI64 l4]) [0] ⟨by decide, rfl⟩ ?_
    exact PJ.retn (vs := [.int .i64 k5]) Try.results26 ⟨rfl, trivial⟩ ⟨rfl, rfl⟩

set_option maxRecDepth 100000 in
set_option maxHeartbeats 1000000 in
theorem ok_w_heldInt64S {N : Nat} {a1 : List Int} {k4 : Int} {r : Int} (hm : w_heldInt64S N a1 k4 = some r) (w : World) (v2 : Value) (hr3 : RdS w (cx w).Fz v2 fI64.rp a1) :
    Calls Try.prog 27 #[v2, .int .i64 k4] w (Ret (cx w) (.int .i64 r)) := by
  unfold w_heldInt64S at hm
  refine Calls.enter [v2, .int .i64 k4] Try.func27 rfl Try.ntmps27 rfl ?_
  refine WJ.seq ?_
  refine WJ.quiet ?_
  refine QJ.step (YldS.yld (y_assign rfl)) rfl ?_
  refine QJ.done ?_
  refine PJ.next ?_
  obtain ⟨k6, hk7, hm⟩ := withK_open hm
  refine WJ.join (X := Int) (fun (x : Int) => k6 x = some r) (fun (x : Int) => [(1, .int .i64 x)]) (fun (x : Int) => []) ?_ ?_
  · clear hk7
    refine WJ.seq ?_
    refine WJ.quiet ?_
    refine QJ.step (YldS.yld (y_assign rfl)) rfl ?_
    refine QJ.done ?_
    refine PJ.next ?_
    refine WJ.block ?_
    refine WJ.sel (L' := (fun (x : Int × Int) => []) (k4, 0)) [] ⟨List.nodup_nil, rfl⟩ ?_
    refine WJ.sub (m' := (fun (x : Int × Int) => [(0, v2), (1, .int .i64 x.1), (5, .int .i64 x.2)]) (k4, 0)) ⟨rfl, rfl, rfl, trivial⟩ ?_
    refine WJ.loop (X := Int × Int) (fun N (x : Int × Int) => w_heldInt64S_l1 k6 a1 N x.1 x.2 = some r) (fun (x : Int × Int) => [(0, v2), (1, .int .i64 x.1), (5, .int .i64 x.2)]) (fun (x : Int × Int) => []) ?_ N (k4, 0) hm
    · rintro N ⟨k8, i9⟩ hI
      have hm := hI; clear hI
      cases N with
      | zero => cases hm
      | succ N =>
      unfold w_heldInt64S_l1 at hm
      refine WJ.seq ?_
      refine WJ.seq ?_
      refine WJ.quiet ?_
      refine QJ.step (YldS.yld (y_move rfl)) rfl ?_
      refine QJ.step (YldS.yld (y_move rfl)) rfl ?_
      refine QJ.step (YldS.yld (y_lenS Try.runUnderlying33 hr3 rfl)) rfl ?_
      refine QJ.step (YldS.yld (y_bin rfl rfl rfl)) rfl ?_
      refine QJ.done ?_
      refine PJ.next ?_
      refine WJ.cond (t := decide (i9 < (List.length a1 : Int))) rfl (fun hb10 => ?_) (fun hb10 => ?_)
      · replace hm := ifT hm hb10
        refine WJ.skip ?_
        refine PJ.next ?_
        refine WJ.seq ?_
        refine WJ.block ?_
        refine WJ.seq ?_
        refine WJ.seq ?_
        refine WJ.quiet ?_
        refine QJ.step (YldS.yld (y_move rfl)) rfl ?_
        refine QJ.step (YldS.yld (y_move rfl)) rfl ?_
        obtain ⟨e11, h12, hm⟩ := bindS hm
        obtain ⟨ad13, _, rfl, ha14, hy15⟩ := hr3.elem h12
        refine QJ.step (YldS.yld (hy15 Try.runUnderlying33 Try.sizeOf2 rfl rfl)) rfl ?_
        refine QJ.step (YldS.yld (y_load1 (v := .int .i64 e11) Try.isAgg2 ha14 St.frozenC rfl)) rfl ?_
        refine QJ.step (YldS.yld (y_move rfl)) rfl ?_
        refine QJ.step (YldS.yld (y_bin rfl rfl rfl)) rfl ?_
        refine QJ.done ?_
        refine PJ.next ?_
        refine WJ.cond (t := (e11 != k8)) rfl (fun hb16 => ?_) (fun hb16 => ?_)
        · replace hm := ifT hm hb16
          refine WJ.seq ?_
          refine WJ.quiet ?_
          refine QJ.step (YldS.yld (y_assign rfl)) rfl ?_
          refine QJ.done ?_
          refine PJ.next ?_
          refine WJ.ret ?_
          refine PJ.then_ret (PJ.block_ret (PJ.then_ret (PJ.then_ret (PJ.block_ret (PJ.then_ret ?_)))))
          obtain rfl := Option.some.inj hm
          refine PJ.sel (L' := []) [] ⟨List.nodup_nil, rfl⟩ ?_
          exact PJ.retn (vs := [.int .i64 (-1)]) Try.results27 ⟨rfl, trivial⟩ ⟨rfl, rfl⟩
        · replace hm := ifF hm hb16
          refine WJ.skip ?_
          refine PJ.next ?_
          refine WJ.quiet ?_
          refine QJ.step (YldS.yld (y_move rfl)) rfl ?_
          refine QJ.step (YldS.yld (y_bin rfl rfl rfl)) rfl ?_
          refine QJ.step (YldS.yld (y_assign rfl)) rfl ?_
          refine QJ.done ?_
          refine PJ.block_normal (PJ.next ?_)
          refine WJ.quiet ?_
          refine QJ.step (YldS.yld (y_move rfl)) rfl ?_
          refine QJ.step (YldS.yld (y_bin rfl rfl rfl)) rfl ?_
          refine QJ.step (YldS.yld (y_assign rfl)) rfl ?_
          refine QJ.done ?_
          exact PJ.round (w64 (k8 + 1), w64 (i9 + 1)) [] hm ⟨rfl, rfl, rfl, trivial⟩ ⟨List.nodup_nil, rfl⟩
      · replace hm := ifF hm hb10
        refine WJ.exit ?_
        refine PJ.then_exit (PJ.then_exit (PJ.block_exit ?_))
        exact PJ.joined k8 [] hm ⟨rfl, trivial⟩ ⟨List.nodup_nil, rfl⟩
  · rintro k5 hm
    subst hk7
    refine WJ.seq ?_
    refine WJ.quiet ?_
    refine QJ.step (YldS.yld (y_move rfl)) rfl ?_
    refine QJ.step (YldS.yld (y_assign rfl)) rfl ?_
    refine QJ.done ?_
    refine PJ.next ?_
    refine WJ.ret ?_
    obtain rfl := Option.some.inj hm
    refine PJ.sel (L' := []) [] ⟨List.nodup_nil, rfl⟩ ?_
    exact PJ.retn (vs := [.int .i64 k5]) Try.results27 ⟨rfl, trivial⟩ ⟨rfl, rfl⟩

set_option maxRecDepth 100000 in
set_option maxHeartbeats 1000000 in
theorem ok_w_FnExactOrderList {N : Nat} {aList1 : List SparePart} {r : Bool} (hm : w_FnExactOrderList N aList1 = some r) (w : World) (v2 : Value) (hr3 : RdS w (cx w).Fz v2 fSparePart.rp aList1) :
    Calls Try.prog 6 #[v2] w (Ret (cx w) (.bool r)) := by
  unfold w_FnExactOrderList at hm
  refine Calls.enter [v2] Try.func6 rfl Try.ntmps6 rfl ?_
  refine WJ.seq ?_
  refine WJ.quiet ?_
  refine QJ.step (YldS.yld (y_assign rfl)) rfl ?_
  refine QJ.done ?_
  refine PJ.next ?_
  refine WJ.seq ?_
  refine WJ.quiet ?_
  refine QJ.step (YldS.yld (y_assign rfl)) rfl ?_
  refine QJ.done ?_
  refine PJ.next ?_
  refine WJ.seq ?_
  refine WJ.quiet ?_
  refine QJ.step (YldS.yld (y_move rfl)) rfl ?_
  refine QJ.step (YldS.yld (y_move rfl)) rfl ?_
  obtain ⟨r4, h5, hm⟩ := bindS hm
  refine QJ.step (y_call Try.call13 rfl (RetG.quiet fun w hw => ok_w_szSparePartS h5 w _ (hr3.st hw))) rfl ?_
  refine QJ.step (YldS.yld (y_assign rfl)) rfl ?_
  refine QJ.done ?_
  refine PJ.next ?_
  refine WJ.seq ?_
  refine WJ.seq ?_
  refine WJ.quiet ?_
  refine QJ.step (YldS.yld (y_move rfl)) rfl ?_
  refine QJ.step (YldS.yld (y_bin rfl rfl rfl)) rfl ?_
  refine QJ.done ?_
  refine PJ.next ?_
  refine WJ.cond (t := decide (r4 < 0)) rfl (fun hb6 => ?_) (fun hb6 => ?_)
  · replace hm := ifT hm hb6
    refine WJ.seq ?_
    refine WJ.quiet ?_
    refine QJ.step (YldS.yld (y_assign rfl)) rfl ?_
    refine QJ.done ?_
    refine PJ.next ?_
    refine WJ.ret ?_
    refine PJ.then_ret ?_
    obtain rfl := Option.some.inj hm
    refine PJ.sel (L' := []) [] ⟨List.nodup_nil, rfl⟩ ?_
    exact PJ.retn (vs := [.bool true]) Try.results6 ⟨rfl, trivial⟩ ⟨rfl, rfl⟩
  · replace hm := ifF hm hb6
    refine WJ.skip ?_
    refine PJ.next ?_
    refine WJ.seq ?_
    refine WJ.reg ?_
    refine SJ.q (YldS.yld (y_move rfl)) rfl ?_
    obtain ⟨r7, h8, hm⟩ := bindS hm
    refine SJ.call Try.call15 rfl (fun w hw => ok_w_toSparePartS h8 w _ (hr3.st hw)) rfl ?_
    rintro v9 _ ⟨_, rfl, rfl⟩
    obtain ⟨r10, h11, hm⟩ := bindS hm
    refine SJ.call Try.call22 rfl (fun w hw => ok_s_OrderList h11 w _ (hw.row_rd (k := 0) rfl)) rfl ?_
    rintro _ _ ⟨v12, rfl, rfl⟩
    refine SJ.q (YldS.yld (y_move rfl)) rfl ?_
    refine SJ.q (YldS.yld (y_extract rfl rfl)) rfl ?_
    refine SJ.q (YldS.yld (y_extract rfl rfl)) rfl ?_
    refine SJ.q (YldS.yld (y_assign rfl)) rfl ?_
    refine SJ.q (YldS.yld (y_assign rfl)) rfl ?_
    refine SJ.nil ?_
    refine PJ.next ?_
    refine WJ.seq ?_
    refine WJ.reg ?_
    refine SJ.q (YldS.yld (y_move rfl)) rfl ?_
    obtain ⟨r13, h14, hm⟩ := bindS hm
    refine SJ.call Try.call15 rfl (fun w hw => ok_w_toSparePartS h14 w _ (hr3.st hw)) rfl ?_
    rintro v15 _ ⟨_, rfl, rfl⟩
    refine SJ.q (YldS.yld (y_assign rfl)) rfl ?_
    refine SJ.nil ?_
    refine PJ.next ?_
    refine WJ.seq ?_
    refine WJ.reg ?_
    refine SJ.q (YldS.yld (y_move rfl)) rfl ?_
    obtain ⟨r16, h17, hm⟩ := bindS hm
    refine SJ.call Try.call23 rfl (fun w hw => ok_i_OrderList h17 w _ (hw.row_rd (k := 0) rfl)) rfl ?_
    rintro _ _ ⟨v18, rfl, rfl⟩
    refine SJ.q (YldS.yld (y_move rfl)) rfl ?_
    refine SJ.q (YldS.yld (y_extract rfl rfl)) rfl ?_
    refine SJ.q (YldS.yld (y_extract rfl rfl)) rfl ?_
    refine SJ.q (YldS.yld (y_assign rfl)) rfl ?_
    refine SJ.q (YldS.yld (y_assign rfl)) rfl ?_
    refine SJ.nil ?_
    refine PJ.next ?_
    refine WJ.seq ?_
    refine WJ.seq ?_
    refine WJ.quiet ?_
    refine QJ.step (YldS.yld (y_move rfl)) rfl ?_
    refine QJ.step (YldS.yld (y_move rfl)) rfl ?_
    obtain ⟨r19, h20, hm⟩ := bindS hm
    refine QJ.step (y_call Try.call24 rfl (RetG.quiet fun w hw => ok_w_eqInt64S h20 w _ (hw.row_rd (k := 0) rfl) _ (hw.row_rd (k := 2) rfl))) rfl ?_
    refine QJ.step (YldS.yld (y_not rfl)) rfl ?_
    refine QJ.step (YldS.yld (y_move rfl)) rfl ?_
    obtain ⟨t21, h22, hm⟩ := bindS hm
    refine QJ.cut 4 [(0, v2), (4, v12), (5, .int .i64 r10.2), (6, v15), (7, v18), (8, .int .i64 r16.2), (40, .bool t21)] ?_ ?_
    · rcases Bool.eq_false_or_eq_true (!r19) with hb23 | hb23
      · obtain rfl := orT h22 hb23
        refine QJ.off rfl rfl (cB hb23) rfl rfl ?_
        refine QJ.off rfl rfl (cB hb23) rfl rfl ?_
        refine QJ.off rfl rfl (cB hb23) rfl rfl ?_
        refine QJ.step (YldS.yld (y_pick_t (cB hb23) rfl)) rfl ?_
        exact QJ.cut_end ⟨rfl, rfl, rfl, rfl, rfl, rfl, rfl, trivial⟩
      · replace h22 := orF h22 hb23
        refine QJ.on rfl rfl (cB hb23) (YldS.yld (y_move rfl)) rfl ?_
        refine QJ.on rfl rfl (cB hb23) (YldS.yld (y_move rfl)) rfl ?_
        refine QJ.on rfl rfl (cB hb23) (YldS.yld (y_bin rfl rfl rfl)) rfl ?_
        refine QJ.step (YldS.yld (y_pick_f (cB hb23) rfl)) rfl ?_
        obtain rfl := Option.some.inj h22
        exact QJ.cut_end ⟨rfl, rfl, rfl, rfl, rfl, rfl, rfl, trivial⟩
    refine QJ.done ?_
    refine PJ.next ?_
    refine WJ.cond (t := t21) rfl (fun hb24 => ?_) (fun hb24 => ?_)
    · replace hm := ifT hm hb24
      refine WJ.seq ?_
      refine WJ.quiet ?_
      refine QJ.step (YldS.yld (y_assign rfl)) rfl ?_
      refine QJ.done ?_
      refine PJ.next ?_
      refine WJ.ret ?_
      refine PJ.then_ret ?_
      obtain rfl := Option.some.inj hm
      refine PJ.sel (L' := []) [] ⟨List.nodup_nil, rfl⟩ ?_
      exact PJ.retn (vs := [.bool false]) Try.results6 ⟨rfl, trivial⟩ ⟨rfl, rfl⟩
    · replace hm := ifF hm hb24
      refine WJ.skip ?_
      refine PJ.next ?_
      refine WJ.seq ?_
      refine WJ.seq ?_
      refine WJ.reg ?_
      refine SJ.q (YldS.yld (y_move rfl)) rfl ?_
      refine SJ.q (YldS.yld (y_move rfl)) rfl ?_
      obtain ⟨r25, h26, hm⟩ := bindS hm
      refine SJ.call Try.call15 rfl (fun w hw => ok_w_toSparePartS h26 w _ (hr3.st hw)) rfl ?_
      rintro v27 _ ⟨_, rfl, rfl⟩
      obtain ⟨r28, h29, hm⟩ := bindS hm
      refine SJ.q (y_call Try.call17 rfl (RetG.quiet fun w hw => ok_w_eqSparePartS h29 w _ (hw.row_rd (k := 2) rfl) _ (hw.row_rd (k := 0) rfl))) rfl ?_
      refine SJ.q (YldS.yld (y_not rfl)) rfl ?_
      refine SJ.nil ?_
      refine PJ.next ?_
      refine WJ.cond (t := !r28) rfl (fun hb30 => ?_) (fun hb30 => ?_)
      · replace hm := ifT hm hb30
        refine WJ.seq ?_
        refine WJ.quiet ?_
        refine QJ.step (YldS.yld (y_assign rfl)) rfl ?_
        refine QJ.done ?_
        refine PJ.next ?_
        refine WJ.ret ?_
        refine PJ.then_ret ?_
        obtain rfl := Option.some.inj hm
        refine PJ.sel (L' := []) [] ⟨List.nodup_nil, rfl⟩ ?_
        exact PJ.retn (vs := [.bool false]) Try.results6 ⟨rfl, trivial⟩ ⟨rfl, rfl⟩
      · replace hm := ifF hm hb30
        refine WJ.skip ?_
        refine PJ.next ?_
        refine WJ.seq ?_
        refine WJ.quiet ?_
        refine QJ.step (YldS.yld (y_assign rfl)) rfl ?_
        refine QJ.done ?_
        refine PJ.next ?_
        refine WJ.seq ?_
        refine WJ.reg ?_
        refine SJ.q (YldS.yld (y_move rfl)) rfl ?_
        refine SJ.q (YldS.yld (y_move rfl)) rfl ?_
        obtain ⟨r31, h32, hm⟩ := bindS hm
        refine SJ.call1 (k := 2) rfl Try.call25 rfl (fun w S hw hA hO => ok_w_markSparePartS h32 w S  hA) rfl ?_
        rintro _ _ ⟨rfl, rfl⟩
        refine SJ.q (YldS.yld (y_assign rfl)) rfl ?_
        refine SJ.nil ?_
        refine PJ.next ?_
        refine WJ.seq ?_
        refine WJ.seq ?_
        refine WJ.quiet ?_
        refine QJ.step (YldS.yld (y_move rfl)) rfl ?_
        refine QJ.step (YldS.yld (y_bin rfl rfl rfl)) rfl ?_
        refine QJ.step (YldS.yld (y_move rfl)) rfl ?_
        obtain ⟨t33, h34, hm⟩ := bindS hm
        refine QJ.cut 5 [(0, v2), (4, v12), (5, .int .i64 r10.2), (7, v18), (8, .int .i64 r16.2), (56, .bool t33)] ?_ ?_
        · rcases Bool.eq_false_or_eq_true (decide (r31.1 < 0)) with hb35 | hb35
          · obtain rfl := orT h34 hb35
            refine QJ.off rfl rfl (cB hb35) rfl rfl ?_
            refine QJ.off rfl rfl (cB hb35) rfl rfl ?_
            refine QJ.off rfl rfl (cB hb35) rfl rfl ?_
            refine QJ.off rfl rfl (cB hb35) rfl rfl ?_
            refine QJ.step (YldS.yld (y_pick_t (cB hb35) rfl)) rfl ?_
            exact QJ.cut_end ⟨rfl, rfl, rfl, rfl, rfl, rfl, trivial⟩
          · replace h34 := orF h34 hb35
            refine QJ.on rfl rfl (cB hb35) (YldS.yld (y_move rfl)) rfl ?_
            refine QJ.on rfl rfl (cB hb35) (YldS.yld (y_move rfl)) rfl ?_
            obtain ⟨r36, h37, h34⟩ := bindS h34
            refine QJ.on rfl rfl (cB hb35) (y_call Try.call24 rfl (RetG.quiet fun w hw => ok_w_eqInt64S h37 w _ (hw.row_rd (k := 2) rfl) _ (hw.row_rd (k := 3) rfl))) rfl ?_
            refine QJ.on rfl rfl (cB hb35) (YldS.yld (y_not rfl)) rfl ?_
            refine QJ.step (YldS.yld (y_pick_f (cB hb35) rfl)) rfl ?_
            obtain rfl := Option.some.inj h34
            exact QJ.cut_end ⟨rfl, rfl, rfl, rfl, rfl, rfl, trivial⟩
        refine QJ.step (YldS.yld (y_move rfl)) rfl ?_
        obtain ⟨t38, h39, hm⟩ := bindS hm
        refine QJ.cut 4 [(0, v2), (4, v12), (5, .int .i64 r10.2), (7, v18), (61, .bool t38)] ?_ ?_
        · rcases Bool.eq_false_or_eq_true t33 with hb40 | hb40
          · obtain rfl := orT h39 hb40
            refine QJ.off rfl rfl (cB hb40) rfl rfl ?_
            refine QJ.off rfl rfl (cB hb40) rfl rfl ?_
            refine QJ.off rfl rfl (cB hb40) rfl rfl ?_
            refine QJ.step (YldS.yld (y_pick_t (cB hb40) rfl)) rfl ?_
            exact QJ.cut_end ⟨rfl, rfl, rfl, rfl, rfl, trivial⟩
          · replace h39 := orF h39 hb40
            refine QJ.on rfl rfl (cB hb40) (YldS.yld (y_move rfl)) rfl ?_
            refine QJ.on rfl rfl (cB hb40) (YldS.yld (y_move rfl)) rfl ?_
            refine QJ.on rfl rfl (cB hb40) (YldS.yld (y_bin rfl rfl rfl)) rfl ?_
            refine QJ.step (YldS.yld (y_pick_f (cB hb40) rfl)) rfl ?_
            obtain rfl := Option.some.inj h39
            exact QJ.cut_end ⟨rfl, rfl, rfl, rfl, rfl, trivial⟩
        refine QJ.done ?_
        refine PJ.next ?_
        refine WJ.cond (t := t38) rfl (fun hb41 => ?_) (fun hb41 => ?_)
        · replace hm := ifT hm hb41
          refine WJ.seq ?_
          refine WJ.quiet ?_
          refine QJ.step (YldS.yld (y_assign rfl)) rfl ?_
          refine QJ.done ?_
          refine PJ.next ?_
          refine WJ.ret ?_
          refine PJ.then_ret ?_
          obtain rfl := Option.some.inj hm
          refine PJ.sel (L' := []) [] ⟨List.nodup_nil, rfl⟩ ?_
          exact PJ.retn (vs := [.bool false]) Try.results6 ⟨rfl, trivial⟩ ⟨rfl, rfl⟩
        · replace hm := ifF hm hb41
          refine WJ.skip ?_
          refine PJ.next ?_
          refine WJ.seq ?_
          refine WJ.quiet ?_
          refine QJ.step (YldS.yld (y_assign rfl)) rfl ?_
          refine QJ.done ?_
          refine PJ.next ?_
          refine WJ.seq ?_
          refine WJ.reg ?_
          refine SJ.q (YldS.yld (y_move rfl)) rfl ?_
          refine SJ.q (YldS.yld (y_move rfl)) rfl ?_
          obtain ⟨r42, h43, hm⟩ := bindS hm
          refine SJ.call1 (k := 2) rfl Try.call26 rfl (fun w S hw hA hO => ok_w_markInt64S h43 w S  hA) rfl ?_
          rintro _ _ ⟨rfl, rfl⟩
          refine SJ.q (YldS.yld (y_assign rfl)) rfl ?_
          refine SJ.nil ?_
          refine PJ.next ?_
          refine WJ.seq ?_
          refine WJ.quiet ?_
          refine QJ.step (YldS.yld (y_assign rfl)) rfl ?_
          refine QJ.done ?_
          refine PJ.next ?_
          refine WJ.seq ?_
          refine WJ.quiet ?_
          refine QJ.step (YldS.yld (y_move rfl)) rfl ?_
          refine QJ.step (YldS.yld (y_move rfl)) rfl ?_
          obtain ⟨r44, h45, hm⟩ := bindS hm
          refine QJ.step (y_call Try.call27 rfl (RetG.quiet fun w hw => ok_w_heldInt64S h45 w _ (hw.row_rd (k := 0) rfl))) rfl ?_
          refine QJ.step (YldS.yld (y_assign rfl)) rfl ?_
          refine QJ.done ?_
          refine PJ.next ?_
          refine WJ.seq ?_
          refine WJ.seq ?_
          refine WJ.quiet ?_
          refine QJ.step (YldS.yld (y_move rfl)) rfl ?_
          refine QJ.step (YldS.yld (y_bin rfl rfl rfl)) rfl ?_
          refine QJ.done ?_
          refine PJ.next ?_
          refine WJ.cond (t := decide (r44 < 0)) rfl (fun hb46 => ?_) (fun hb46 => ?_)
          · replace hm := ifT hm hb46
            refine WJ.seq ?_
            refine WJ.quiet ?_
            refine QJ.step (YldS.yld (y_assign rfl)) rfl ?_
            refine QJ.done ?_
            refine PJ.next ?_
            refine WJ.ret ?_
            refine PJ.then_ret ?_
            obtain rfl := Option.some.inj hm
            refine PJ.sel (L' := []) [] ⟨List.nodup_nil, rfl⟩ ?_
            exact PJ.retn (vs := [.bool false]) Try.results6 ⟨rfl, trivial⟩ ⟨rfl, rfl⟩
          · replace hm := ifF hm hb46
            refine WJ.skip ?_
            refine PJ.next ?_
            refine WJ.seq ?_
            refine WJ.seq ?_
            refine WJ.quiet ?_
            refine QJ.step (YldS.yld (y_move rfl)) rfl ?_
            refine QJ.step (YldS.yld (y_move rfl)) rfl ?_
            refine QJ.step (YldS.yld (y_bin rfl rfl rfl)) rfl ?_
            refine QJ.done ?_
            refine PJ.next ?_
            refine WJ.cond (t := (r44 != r42.1)) rfl (fun hb47 => ?_) (fun hb47 => ?_)
            · replace hm := ifT hm hb47
              refine WJ.seq ?_
              refine WJ.quiet ?_
              refine QJ.step (YldS.yld (y_assign rfl)) rfl ?_
              refine QJ.done ?_
              refine PJ.next ?_
              refine WJ.ret ?_
              refine PJ.then_ret ?_
              obtain rfl := Option.some.inj hm
              refine PJ.sel (L' := []) [] ⟨List.nodup_nil, rfl⟩ ?_
              exact PJ.retn (vs := [.bool false]) Try.results6 ⟨rfl, trivial⟩ ⟨rfl, rfl⟩
            · replace hm := ifF hm hb47
              refine WJ.skip ?_
              refine PJ.next ?_
              refine WJ.seq ?_
              refine WJ.reg ?_
              refine SJ.q (YldS.yld (y_move rfl)) rfl ?_
              obtain ⟨r48, h49, hm⟩ := bindS hm
              refine SJ.call Try.call15 rfl (fun w hw => ok_w_toSparePartS h49 w _ (hr3.st hw)) rfl ?_
              rintro v50 _ ⟨_, rfl, rfl⟩
              obtain ⟨r51, h52, hm⟩ := bindS hm
              refine SJ.call Try.call23 rfl (fun w hw => ok_i_OrderList h52 w _ (hw.row_rd (k := 0) rfl)) rfl ?_
              rintro _ _ ⟨v53, rfl, rfl⟩
              refine SJ.q (YldS.yld (y_move rfl)) rfl ?_
              refine SJ.q (YldS.yld (y_extract rfl rfl)) rfl ?_
              refine SJ.q (YldS.yld (y_extract rfl rfl)) rfl ?_
              refine SJ.q (YldS.yld (y_assign rfl)) rfl ?_
              refine SJ.q (YldS.yld (y_assign rfl)) rfl ?_
              refine SJ.nil ?_
              refine PJ.next ?_
              refine WJ.seq ?_
              refine WJ.seq ?_
              refine WJ.quiet ?_
              refine QJ.step (YldS.yld (y_move rfl)) rfl ?_
              refine QJ.step (YldS.yld (y_move rfl)) rfl ?_
              obtain ⟨r54, h55, hm⟩ := bindS hm
              refine QJ.step (y_call Try.call24 rfl (RetG.quiet fun w hw => ok_w_eqInt64S h55 w _ (hw.row_rd (k := 0) rfl) _ (hw.row_rd (k := 5) rfl))) rfl ?_
              refine QJ.step (YldS.yld (y_not rfl)) rfl ?_
              refine QJ.step (YldS.yld (y_move rfl)) rfl ?_
              obtain ⟨t56, h57, hm⟩ := bindS hm
              refine QJ.cut 4 [(7, v18), (10, .int .i64 r42.1), (87, .bool t56)] ?_ ?_
              · rcases Bool.eq_false_or_eq_true (!r54) with hb58 | hb58
                · obtain rfl := orT h57 hb58
                  refine QJ.off rfl rfl (cB hb58) rfl rfl ?_
                  refine QJ.off rfl rfl (cB hb58) rfl rfl ?_
                  refine QJ.off rfl rfl (cB hb58) rfl rfl ?_
                  refine QJ.step (YldS.yld (y_pick_t (cB hb58) rfl)) rfl ?_
                  exact QJ.cut_end ⟨rfl, rfl, rfl, trivial⟩
                · replace h57 := orF h57 hb58
                  refine QJ.on rfl rfl (cB hb58) (YldS.yld (y_move rfl)) rfl ?_
                  refine QJ.on rfl rfl (cB hb58) (YldS.yld (y_move rfl)) rfl ?_
                  refine QJ.on rfl rfl (cB hb58) (YldS.yld (y_bin rfl rfl rfl)) rfl ?_
                  refine QJ.step (YldS.yld (y_pick_f (cB hb58) rfl)) rfl ?_
                  obtain rfl := Option.some.inj h57
                  exact QJ.cut_end ⟨rfl, rfl, rfl, trivial⟩
              refine QJ.done ?_
              refine PJ.next ?_
              refine WJ.cond (t := t56) rfl (fun hb59 => ?_) (fun hb59 => ?_)
              · replace hm := ifT hm hb59
                refine WJ.seq ?_
                refine WJ.quiet ?_
                refine QJ.step (YldS.yld (y_assign rfl)) rfl ?_
                refine QJ.done ?_
                refine PJ.next ?_
                refine WJ.ret ?_
                refine PJ.then_ret ?_
                obtain rfl := Option.some.inj hm
                refine PJ.sel (L' := []) [] ⟨List.nodup_nil, rfl⟩ ?_
                exact PJ.retn (vs := [.bool false]) Try.results6 ⟨rfl, trivial⟩ ⟨rfl, rfl⟩
              · replace hm := ifF hm hb59
                refine WJ.skip ?_
                refine PJ.next ?_
                refine WJ.seq ?_
                refine WJ.quiet ?_
                refine QJ.step (YldS.yld (y_assign rfl)) rfl ?_
                refine QJ.done ?_
                refine PJ.next ?_
                refine WJ.seq ?_
                refine WJ.quiet ?_
                refine QJ.step (YldS.yld (y_move rfl)) rfl ?_
                refine QJ.step (YldS.yld (y_move rfl)) rfl ?_
                obtain ⟨r60, h61, hm⟩ := bindS hm
                refine QJ.step (y_call Try.call27 rfl (RetG.quiet fun w hw => ok_w_heldInt64S h61 w _ (hw.row_rd (k := 2) rfl))) rfl ?_
                refine QJ.step (YldS.yld (y_assign rfl)) rfl ?_
                refine QJ.done ?_
                refine PJ.next ?_
                refine WJ.seq ?_
                refine WJ.seq ?_
                refine WJ.quiet ?_
                refine QJ.step (YldS.yld (y_move rfl)) rfl ?_
                refine QJ.step (YldS.yld (y_bin rfl rfl rfl)) rfl ?_
                refine QJ.done ?_
                refine PJ.next ?_
                refine WJ.cond (t := decide (r60 < 0)) rfl (fun hb62 => ?_) (fun hb62 => ?_)
                · replace hm := ifT hm hb62
                  refine WJ.seq ?_
                  refine WJ.quiet ?_
                  refine QJ.step (YldS.yld (y_assign rfl)) rfl ?_
                  refine QJ.done ?_
                  refine PJ.next ?_
                  refine WJ.ret ?_
                  refine PJ.then_ret ?_
                  obtain rfl := Option.some.inj hm
                  refine PJ.sel (L' := []) [] ⟨List.nodup_nil, rfl⟩ ?_
                  exact PJ.retn (vs := [.bool false]) Try.results6 ⟨rfl, trivial⟩ ⟨rfl, rfl⟩
                · replace hm := ifF hm hb62
                  refine WJ.skip ?_
                  refine PJ.next ?_
                  refine WJ.seq ?_
                  refine WJ.seq ?_
                  refine WJ.quiet ?_
                  refine QJ.step (YldS.yld (y_move rfl)) rfl ?_
                  refine QJ.step (YldS.yld (y_move rfl)) rfl ?_
                  refine QJ.step (YldS.yld (y_bin rfl rfl rfl)) rfl ?_
                  refine QJ.done ?_
                  refine PJ.next ?_
                  refine WJ.cond (t := (r60 != r42.1)) rfl (fun hb63 => ?_) (fun hb63 => ?_)
                  · replace hm := ifT hm hb63
                    refine WJ.seq ?_
                    refine WJ.quiet ?_
                    refine QJ.step (YldS.yld (y_assign rfl)) rfl ?_
                    refine QJ.done ?_
                    refine PJ.next ?_
                    refine WJ.ret ?_
                    refine PJ.then_ret ?_
                    obtain rfl := Option.some.inj hm
                    refine PJ.sel (L' := []) [] ⟨List.nodup_nil, rfl⟩ ?_
                    exact PJ.retn (vs := [.bool false]) Try.results6 ⟨rfl, trivial⟩ ⟨rfl, rfl⟩
                  · replace hm := ifF hm hb63
                    refine WJ.skip ?_
                    refine PJ.next ?_
                    refine WJ.seq ?_
                    refine WJ.quiet ?_
                    refine QJ.step (YldS.yld (y_assign rfl)) rfl ?_
                    refine QJ.done ?_
                    refine PJ.next ?_
                    refine WJ.ret ?_
                    obtain rfl := Option.some.inj hm
                    refine PJ.sel (L' := []) [] ⟨List.nodup_nil, rfl⟩ ?_
                    exact PJ.retn (vs := [.bool true]) Try.results6 ⟨rfl, trivial⟩ ⟨rfl, rfl⟩

end Go.Proofs.Ytffaepmojpanoaa
