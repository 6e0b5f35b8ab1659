/-
  The walks: a call hands back what its plain function computes, where that has a value. No other conditions.
-/
import Derived.Test.YtdnnnakjhehfkaaDoorFnExactPartTextM
import Derived.Test.YtdnnnakjhehfkaaDoorChecked
import Derived.Test.YtdnnnakjhehfkaaDoorRows
import Derived.Test.YtdnnnakjhehfkaaDoorFnExactPartTextS
namespace Go.Proofs.YtdnnnakjhehfkaaDoor
open Go.RowKit Go.Proofs
set_option linter.unusedVariables false
set_option linter.unusedSimpArgs false

def tabNm : String := (Rows.fnExactPartTextRow.laid.map (fun x => x.1)).getD 2 default

theorem follows : Tryd.prog.follows .mixedOrders = true := by kernel_rfl

def SparePart.enc (x : SparePart) : List Value := [str x.name, .int .i64 x.stock, .int .i64 x.target, .int .i64 x.days, .int .i64 x.instead]
def fSparePart : FRp SparePart := ⟨5, SparePart.enc, fun _ => rfl, by decide, fun x u hu => by
  simp only [SparePart.enc, List.mem_cons, List.not_mem_nil, or_false] at hu
  rcases hu with rfl | rfl | rfl | rfl | rfl <;> rfl⟩

theorem fld48_0 : FieldOk Tryd.prog 48 0 0 9 0 := ⟨_, _, Tryd.runUnderlying48, rfl, rfl, rfl, Tryd.sizeOf9⟩
set_option maxRecDepth 100000 in
theorem el46 : ElemOk Tryd.prog 46 5 (fSparePart.enc (SparePart.mk [] 0 0 0 0)) := ⟨_, _, Tryd.type46, rfl, rfl, rfl, by decide⟩
theorem fld46_0 : FieldOk Tryd.prog 46 0 0 9 0 := ⟨_, _, Tryd.runUnderlying46, rfl, rfl, rfl, Tryd.sizeOf9⟩
theorem fld48_1 : FieldOk Tryd.prog 48 1 1 2 0 := ⟨_, _, Tryd.runUnderlying48, rfl, rfl, rfl, Tryd.sizeOf2⟩
theorem fld46_1 : FieldOk Tryd.prog 46 1 1 2 0 := ⟨_, _, Tryd.runUnderlying46, rfl, rfl, rfl, Tryd.sizeOf2⟩
theorem fld48_2 : FieldOk Tryd.prog 48 2 2 2 0 := ⟨_, _, Tryd.runUnderlying48, rfl, rfl, rfl, Tryd.sizeOf2⟩
theorem fld46_2 : FieldOk Tryd.prog 46 2 2 2 0 := ⟨_, _, Tryd.runUnderlying46, rfl, rfl, rfl, Tryd.sizeOf2⟩
theorem fld48_3 : FieldOk Tryd.prog 48 3 3 2 0 := ⟨_, _, Tryd.runUnderlying48, rfl, rfl, rfl, Tryd.sizeOf2⟩
theorem fld46_3 : FieldOk Tryd.prog 46 3 3 2 0 := ⟨_, _, Tryd.runUnderlying46, rfl, rfl, rfl, Tryd.sizeOf2⟩
theorem fld48_4 : FieldOk Tryd.prog 48 4 4 2 0 := ⟨_, _, Tryd.runUnderlying48, rfl, rfl, rfl, Tryd.sizeOf2⟩
theorem fld46_4 : FieldOk Tryd.prog 46 4 4 2 0 := ⟨_, _, Tryd.runUnderlying46, rfl, rfl, rfl, Tryd.sizeOf2⟩
set_option maxRecDepth 100000 in
theorem el5 : ElemOk Tryd.prog 5 1 (fByte.enc 0) := ⟨_, _, Tryd.type5, rfl, rfl, rfl, by decide⟩
theorem open48 : Opens Tryd.prog 48 fSparePart.rp wfSparePart := fun {H enc w sp held fuel cs x} h => by
  obtain ⟨hl, n, hf⟩ := opens_fields Tryd.underlying48 h
  have hl : cs.length = 5 := by rw [hl]; kernel_rfl
  obtain ⟨y0, hy0⟩ := hf _ (List.mem_of_getElem? (i := 0) rfl)
  obtain ⟨z0, hz0, hw0⟩ := (opens_str Tryd.underlying9) hy0
  obtain ⟨y1, hy1⟩ := hf _ (List.mem_of_getElem? (i := 1) rfl)
  obtain ⟨z1, hz1, hw1⟩ := (opens_i64 Tryd.underlying2) hy1
  obtain ⟨y2, hy2⟩ := hf _ (List.mem_of_getElem? (i := 2) rfl)
  obtain ⟨z2, hz2, hw2⟩ := (opens_i64 Tryd.underlying2) hy2
  obtain ⟨y3, hy3⟩ := hf _ (List.mem_of_getElem? (i := 3) rfl)
  obtain ⟨z3, hz3, hw3⟩ := (opens_i64 Tryd.underlying2) hy3
  obtain ⟨y4, hy4⟩ := hf _ (List.mem_of_getElem? (i := 4) rfl)
  obtain ⟨z4, hz4, hw4⟩ := (opens_i64 Tryd.underlying2) hy4
  match cs, hl with
  | [c0, c1, c2, c3, c4], _ =>
  have e0 : [c0] = fStr.enc z0 := hz0
  have e1 : [c1] = fI64.enc z1 := hz1
  have e2 : [c2] = fI64.enc z2 := hz2
  have e3 : [c3] = fI64.enc z3 := hz3
  have e4 : [c4] = fI64.enc z4 := hz4
  refine ⟨⟨z0, z1, z2, z3, z4⟩, ?_, ⟨hw0, hw1, hw2, hw3, hw4⟩⟩
  show [c0, c1, c2, c3, c4] = SparePart.enc _
  simp only [fStr, List.cons.injEq, and_true] at e0
  simp only [fI64, List.cons.injEq, and_true] at e1
  simp only [fI64, List.cons.injEq, and_true] at e2
  simp only [fI64, List.cons.injEq, and_true] at e3
  simp only [fI64, List.cons.injEq, and_true] at e4
  rw [e0, e1, e2, e3, e4]
  rfl


set_option maxRecDepth 100000 in
set_option maxHeartbeats 1000000 in
theorem ok_w_szSparePart {a1 : SparePart} {left2 : Int} {r : Int} (hm : w_szSparePart a1 left2 = some r) (w : World)  :
    Calls Tryd.prog 27 #[.agg (SparePart.enc a1).toArray, .int .i64 left2] w (Ret (cx w) (.int .i64 r)) := by
  unfold w_szSparePart at hm
  refine Calls.enter [.agg (SparePart.enc a1).toArray, .int .i64 left2] Tryd.func27 rfl Tryd.ntmps27 rfl ?_
  refine WJ.seq ?_
  refine WJ.reg ?_
  refine SJ.box (cs := [str a1.name, .int .i64 a1.stock, .int .i64 a1.target, .int .i64 a1.days, .int .i64 a1.instead]) rfl rfl rfl fun g3 => ?_
  refine SJ.q (YldS.yld (y_assign rfl)) rfl ?_
  refine SJ.nil ?_
  refine PJ.next ?_
  refine WJ.seq ?_
  refine WJ.quiet ?_
  refine QJ.step (YldS.yld (y_move rfl)) rfl ?_
  refine QJ.step (YldS.yld (y_fldB (o := 0) fld48_0 rfl)) rfl ?_
  refine QJ.step (YldS.yld (y_loadB (k := 0) (off := 0) (v := str a1.name) rfl Tryd.isAgg9 rfl rfl)) rfl ?_
  refine QJ.step (YldS.yld (y_lenStr Tryd.runUnderlying9 rfl)) rfl ?_
  refine QJ.step (YldS.yld (y_bin rfl rfl rfl)) rfl ?_
  refine QJ.step (YldS.yld (y_assign rfl)) rfl ?_
  refine QJ.done ?_
  refine PJ.next ?_
  refine WJ.seq ?_
  refine WJ.seq ?_
  refine WJ.quiet ?_
  refine QJ.step (YldS.yld (y_move rfl)) rfl ?_
  refine QJ.step (YldS.yld (y_bin rfl rfl rfl)) rfl ?_
  refine QJ.done ?_
  refine PJ.next ?_
  refine WJ.cond (t := decide ((w64 (left2 - (List.length a1.name : Int))) < 0)) rfl (fun hb4 => ?_) (fun hb4 => ?_)
  · replace hm := ifT hm hb4
    refine WJ.seq ?_
    refine WJ.quiet ?_
    refine QJ.step (YldS.yld (y_assign rfl)) rfl ?_
    refine QJ.done ?_
    refine PJ.next ?_
    refine WJ.ret ?_
    refine PJ.then_ret ?_
    obtain rfl := Option.some.inj hm
    refine PJ.sel (L' := []) [] ⟨List.nodup_nil, rfl⟩ ?_
    exact PJ.retn (vs := [.int .i64 (-1)]) Tryd.results27 ⟨rfl, trivial⟩ ⟨rfl, rfl⟩
  · replace hm := ifF hm hb4
    refine WJ.skip ?_
    refine PJ.next ?_
    refine WJ.seq ?_
    refine WJ.quiet ?_
    refine QJ.step (YldS.yld (y_move rfl)) rfl ?_
    refine QJ.step (YldS.yld (y_assign rfl)) rfl ?_
    refine QJ.done ?_
    refine PJ.next ?_
    refine WJ.ret ?_
    obtain rfl := Option.some.inj hm
    refine PJ.sel (L' := []) [] ⟨List.nodup_nil, rfl⟩ ?_
    exact PJ.retn (vs := [.int .i64 (w64 (left2 - (List.length a1.name : Int)))]) Tryd.results27 ⟨rfl, trivial⟩ ⟨rfl, rfl⟩

set_option maxRecDepth 100000 in
set_option maxHeartbeats 1000000 in
theorem ok_w_szSparePartS {N : Nat} {a1 : List SparePart} {left4 : Int} {r : Int} (hm : w_szSparePartS N a1 left4 = some r) (w : World) (v2 : Value) (hr3 : RdS w (cx w).Fz v2 fSparePart.rp a1) :
    Calls Tryd.prog 5 #[v2, .int .i64 left4] w (Ret (cx w) (.int .i64 r)) := by
  unfold w_szSparePartS at hm
  refine Calls.enter [v2, .int .i64 left4] Tryd.func5 rfl Tryd.ntmps5 rfl ?_
  refine WJ.seq ?_
  refine WJ.quiet ?_
  refine QJ.step (YldS.yld (y_assign rfl)) rfl ?_
  refine QJ.done ?_
  refine PJ.next ?_
  refine WJ.seq ?_
  refine WJ.quiet ?_
  refine QJ.step (YldS.yld (y_move rfl)) rfl ?_
  refine QJ.step (YldS.yld (y_move rfl)) rfl ?_
  refine QJ.step (YldS.yld (y_lenS Tryd.runUnderlying22 hr3 rfl)) rfl ?_
  refine QJ.step (YldS.yld (y_bin rfl rfl rfl)) rfl ?_
  refine QJ.step (YldS.yld (y_assign rfl)) rfl ?_
  refine QJ.done ?_
  refine PJ.next ?_
  refine WJ.seq ?_
  refine WJ.seq ?_
  refine WJ.quiet ?_
  refine QJ.step (YldS.yld (y_move rfl)) rfl ?_
  refine QJ.step (YldS.yld (y_bin rfl rfl rfl)) rfl ?_
  refine QJ.done ?_
  refine PJ.next ?_
  refine WJ.cond (t := decide ((w64 (left4 - (List.length a1 : Int))) < 0)) rfl (fun hb5 => ?_) (fun hb5 => ?_)
  · replace hm := ifT hm hb5
    refine WJ.seq ?_
    refine WJ.quiet ?_
    refine QJ.step (YldS.yld (y_assign rfl)) rfl ?_
    refine QJ.done ?_
    refine PJ.next ?_
    refine WJ.ret ?_
    refine PJ.then_ret ?_
    obtain rfl := Option.some.inj hm
    refine PJ.sel (L' := []) [] ⟨List.nodup_nil, rfl⟩ ?_
    exact PJ.retn (vs := [.int .i64 (-1)]) Tryd.results5 ⟨rfl, trivial⟩ ⟨rfl, rfl⟩
  · replace hm := ifF hm hb5
    refine WJ.skip ?_
    refine PJ.next ?_
    obtain ⟨kj7, hk8, hm⟩ := withK_open hm
    refine WJ.join (X := Int) (fun (x : Int) => kj7 x = some r) (fun (x : Int) => [(1, .int .i64 x)]) (fun (x : Int) => []) ?_ ?_
    · clear hk8
      refine WJ.seq ?_
      refine WJ.quiet ?_
      refine QJ.step (YldS.yld (y_assign rfl)) rfl ?_
      refine QJ.done ?_
      refine PJ.next ?_
      refine WJ.block ?_
      refine WJ.sel (L' := (fun (x : Int × Int) => []) (w64 (left4 - (List.length a1 : Int)), 0)) [] ⟨List.nodup_nil, rfl⟩ ?_
      refine WJ.sub (m' := (fun (x : Int × Int) => [(0, v2), (1, .int .i64 x.1), (5, .int .i64 x.2)]) (w64 (left4 - (List.length a1 : Int)), 0)) ⟨rfl, rfl, rfl, trivial⟩ ?_
      refine WJ.loop (X := Int × Int) (fun N (x : Int × Int) => w_szSparePartS_l1 kj7 a1 N x.1 x.2 = some r) (fun (x : Int × Int) => [(0, v2), (1, .int .i64 x.1), (5, .int .i64 x.2)]) (fun (x : Int × Int) => []) ?_ N (w64 (left4 - (List.length a1 : Int)), 0) hm
      · rintro N ⟨left9, i10⟩ hI
        have hm := hI; clear hI
        cases N with
        | zero => cases hm
        | succ N =>
        unfold w_szSparePartS_l1 at hm
        refine WJ.seq ?_
        refine WJ.seq ?_
        refine WJ.quiet ?_
        refine QJ.step (YldS.yld (y_move rfl)) rfl ?_
        refine QJ.step (YldS.yld (y_move rfl)) rfl ?_
        refine QJ.step (YldS.yld (y_lenS Tryd.runUnderlying22 hr3 rfl)) rfl ?_
        refine QJ.step (YldS.yld (y_bin rfl rfl rfl)) rfl ?_
        refine QJ.done ?_
        refine PJ.next ?_
        refine WJ.cond (t := decide (i10 < (List.length a1 : Int))) rfl (fun hb11 => ?_) (fun hb11 => ?_)
        · replace hm := ifT hm hb11
          refine WJ.skip ?_
          refine PJ.next ?_
          refine WJ.seq ?_
          refine WJ.block ?_
          refine WJ.seq ?_
          refine WJ.quiet ?_
          refine QJ.step (YldS.yld (y_move rfl)) rfl ?_
          refine QJ.step (YldS.yld (y_move rfl)) rfl ?_
          obtain ⟨e12, h13, hm⟩ := bindS hm
          obtain ⟨ad14, _, rfl, ha15, hy16⟩ := hr3.elem h13
          refine QJ.step (YldS.yld (hy16 Tryd.runUnderlying22 Tryd.sizeOf48 rfl rfl)) rfl ?_
          refine QJ.step (YldS.yld (y_loadN Tryd.isAgg48 Tryd.sizeOf48 rfl ha15 St.frozenC rfl)) rfl ?_
          refine QJ.step (YldS.yld (y_move rfl)) rfl ?_
          obtain ⟨r17, h18, hm⟩ := bindS hm
          refine QJ.step (y_call Tryd.call27 rfl (RetG.quiet fun w hw => ok_w_szSparePart h18 w )) rfl ?_
          refine QJ.step (YldS.yld (y_assign rfl)) rfl ?_
          refine QJ.done ?_
          refine PJ.next ?_
          refine WJ.seq ?_
          refine WJ.quiet ?_
          refine QJ.step (YldS.yld (y_move rfl)) rfl ?_
          refine QJ.step (YldS.yld (y_bin rfl rfl rfl)) rfl ?_
          refine QJ.done ?_
          refine PJ.next ?_
          refine WJ.cond (t := decide (r17 < 0)) rfl (fun hb19 => ?_) (fun hb19 => ?_)
          · replace hm := ifT hm hb19
            refine WJ.seq ?_
            refine WJ.quiet ?_
            refine QJ.step (YldS.yld (y_assign rfl)) rfl ?_
            refine QJ.done ?_
            refine PJ.next ?_
            refine WJ.ret ?_
            refine PJ.block_ret (PJ.then_ret (PJ.then_ret (PJ.block_ret (PJ.then_ret ?_))))
            obtain rfl := Option.some.inj hm
            refine PJ.sel (L' := []) [] ⟨List.nodup_nil, rfl⟩ ?_
            exact PJ.retn (vs := [.int .i64 (-1)]) Tryd.results5 ⟨rfl, trivial⟩ ⟨rfl, rfl⟩
          · replace hm := ifF hm hb19
            refine WJ.skip ?_
            refine PJ.block_normal (PJ.next ?_)
            refine WJ.quiet ?_
            refine QJ.step (YldS.yld (y_move rfl)) rfl ?_
            refine QJ.step (YldS.yld (y_bin rfl rfl rfl)) rfl ?_
            refine QJ.step (YldS.yld (y_assign rfl)) rfl ?_
            refine QJ.done ?_
            exact PJ.round (r17, w64 (i10 + 1)) [] hm ⟨rfl, rfl, rfl, trivial⟩ ⟨List.nodup_nil, rfl⟩
        · replace hm := ifF hm hb11
          refine WJ.exit ?_
          refine PJ.then_exit (PJ.then_exit (PJ.block_exit ?_))
          exact PJ.joined left9 [] hm ⟨rfl, trivial⟩ ⟨List.nodup_nil, rfl⟩
    · rintro left6 hm
      subst hk8
      refine WJ.seq ?_
      refine WJ.quiet ?_
      refine QJ.step (YldS.yld (y_move rfl)) rfl ?_
      refine QJ.step (YldS.yld (y_assign rfl)) rfl ?_
      refine QJ.done ?_
      refine PJ.next ?_
      refine WJ.ret ?_
      obtain rfl := Option.some.inj hm
      refine PJ.sel (L' := []) [] ⟨List.nodup_nil, rfl⟩ ?_
      exact PJ.retn (vs := [.int .i64 left6]) Tryd.results5 ⟨rfl, trivial⟩ ⟨rfl, rfl⟩

set_option maxRecDepth 100000 in
set_option maxHeartbeats 1000000 in
theorem ok_w_toSparePart {a1 : SparePart} {r : SparePart} (hm : w_toSparePart a1 = some r) (w : World)  :
    Calls Tryd.prog 31 #[.agg (SparePart.enc a1).toArray] w (Ret (cx w) (.agg (SparePart.enc r).toArray)) := by
  unfold w_toSparePart at hm
  refine Calls.enter [.agg (SparePart.enc a1).toArray] Tryd.func31 rfl Tryd.ntmps31 rfl ?_
  refine WJ.seq ?_
  refine WJ.reg ?_
  refine SJ.box (cs := [str a1.name, .int .i64 a1.stock, .int .i64 a1.target, .int .i64 a1.days, .int .i64 a1.instead]) rfl rfl rfl fun g2 => ?_
  refine SJ.alloc (cs := [str [], .int .i64 0, .int .i64 0, .int .i64 0, .int .i64 0]) Tryd.zeroValue46 rfl rfl fun g3 => ?_
  refine SJ.nil ?_
  refine PJ.next ?_
  refine WJ.seq ?_
  refine WJ.reg ?_
  refine SJ.alloc (cs := [str [], .int .i64 0, .int .i64 0, .int .i64 0, .int .i64 0]) Tryd.zeroValue46 rfl rfl fun g4 => ?_
  refine SJ.nil ?_
  refine PJ.next ?_
  refine WJ.seq ?_
  refine WJ.reg ?_
  refine SJ.q (YldS.yld (y_fldB (o := 0) fld48_0 rfl)) rfl ?_
  refine SJ.q (YldS.yld (y_loadB (k := 2) (off := 0) (v := str a1.name) rfl Tryd.isAgg9 rfl rfl)) rfl ?_
  refine SJ.q (YldS.yld (y_fldB (o := 0) fld46_0 rfl)) rfl ?_
  refine SJ.storeL (k := 0) (off := 0) (us := [str a1.name]) rfl rfl rfl rfl Tryd.sizeOf9 rfl rfl ?_
  refine SJ.nil ?_
  refine PJ.next ?_
  refine WJ.seq ?_
  refine WJ.reg ?_
  refine SJ.q (YldS.yld (y_fldB (o := 0) fld48_1 rfl)) rfl ?_
  refine SJ.q (YldS.yld (y_loadB (k := 2) (off := 1) (v := .int .i64 a1.stock) rfl Tryd.isAgg2 rfl rfl)) rfl ?_
  refine SJ.q (YldS.yld (y_fldB (o := 0) fld46_1 rfl)) rfl ?_
  refine SJ.storeL (k := 0) (off := 1) (us := [.int .i64 a1.stock]) rfl rfl rfl rfl Tryd.sizeOf2 rfl rfl ?_
  refine SJ.nil ?_
  refine PJ.next ?_
  refine WJ.seq ?_
  refine WJ.reg ?_
  refine SJ.q (YldS.yld (y_fldB (o := 0) fld48_2 rfl)) rfl ?_
  refine SJ.q (YldS.yld (y_loadB (k := 2) (off := 2) (v := .int .i64 a1.target) rfl Tryd.isAgg2 rfl rfl)) rfl ?_
  refine SJ.q (YldS.yld (y_fldB (o := 0) fld46_2 rfl)) rfl ?_
  refine SJ.storeL (k := 0) (off := 2) (us := [.int .i64 a1.target]) rfl rfl rfl rfl Tryd.sizeOf2 rfl rfl ?_
  refine SJ.nil ?_
  refine PJ.next ?_
  refine WJ.seq ?_
  refine WJ.reg ?_
  refine SJ.q (YldS.yld (y_fldB (o := 0) fld48_3 rfl)) rfl ?_
  refine SJ.q (YldS.yld (y_loadB (k := 2) (off := 3) (v := .int .i64 a1.days) rfl Tryd.isAgg2 rfl rfl)) rfl ?_
  refine SJ.q (YldS.yld (y_fldB (o := 0) fld46_3 rfl)) rfl ?_
  refine SJ.storeL (k := 0) (off := 3) (us := [.int .i64 a1.days]) rfl rfl rfl rfl Tryd.sizeOf2 rfl rfl ?_
  refine SJ.nil ?_
  refine PJ.next ?_
  refine WJ.seq ?_
  refine WJ.reg ?_
  refine SJ.q (YldS.yld (y_fldB (o := 0) fld48_4 rfl)) rfl ?_
  refine SJ.q (YldS.yld (y_loadB (k := 2) (off := 4) (v := .int .i64 a1.instead) rfl Tryd.isAgg2 rfl rfl)) rfl ?_
  refine SJ.q (YldS.yld (y_fldB (o := 0) fld46_4 rfl)) rfl ?_
  refine SJ.storeL (k := 0) (off := 4) (us := [.int .i64 a1.instead]) rfl rfl rfl rfl Tryd.sizeOf2 rfl rfl ?_
  refine SJ.nil ?_
  refine PJ.next ?_
  refine WJ.seq ?_
  refine WJ.reg ?_
  refine SJ.q (YldS.yld (y_loadBN (k := 0) (off := 0) (us := [str a1.name, .int .i64 a1.stock, .int .i64 a1.target, .int .i64 a1.days, .int .i64 a1.instead]) rfl Tryd.isAgg46 Tryd.sizeOf46 rfl rfl)) rfl ?_
  refine SJ.storeL (k := 1) (off := 0) (us := [str a1.name, .int .i64 a1.stock, .int .i64 a1.target, .int .i64 a1.days, .int .i64 a1.instead]) rfl rfl rfl rfl Tryd.sizeOf46 rfl rfl ?_
  refine SJ.nil ?_
  refine PJ.next ?_
  refine WJ.ret ?_
  obtain rfl := Option.some.inj hm
  exact PJ.retn_sel (vs := [.agg #[str a1.name, .int .i64 a1.stock, .int .i64 a1.target, .int .i64 a1.days, .int .i64 a1.instead]]) Tryd.results31 ⟨⟨1, g3, 46, [str a1.name, .int .i64 a1.stock, .int .i64 a1.target, .int .i64 a1.days, .int .i64 a1.instead], rfl, rfl, .inl ⟨Tryd.isAgg46, Tryd.sizeOf46, rfl⟩⟩, trivial⟩ [] ⟨List.nodup_nil, rfl⟩ ⟨rfl, rfl⟩

set_option maxRecDepth 100000 in
set_option maxHeartbeats 1000000 in
theorem ok_w_toSparePartS {N : Nat} {a1 : List SparePart} {r : (List SparePart)} (hm : w_toSparePartS N a1 = some r) (w : World) (v2 : Value) (hr3 : RdS w (cx w).Fz v2 fSparePart.rp a1) :
    Calls Tryd.prog 7 #[v2] w (RetG (cx w) fun u L => ∃ (u1 : Value), (u = u1 ∧ L = [row u1 46 fSparePart r])) := by
  unfold w_toSparePartS at hm
  refine Calls.enter [v2] Tryd.func7 rfl Tryd.ntmps7 rfl ?_
  refine WJ.seq ?_
  refine WJ.quiet ?_
  refine QJ.step (YldS.yld (y_assign rfl)) rfl ?_
  refine QJ.done ?_
  refine PJ.next ?_
  refine WJ.seq ?_
  refine WJ.reg ?_
  refine SJ.q (YldS.yld (y_move rfl)) rfl ?_
  refine SJ.q (YldS.yld (y_lenS Tryd.runUnderlying22 hr3 rfl)) rfl ?_
  obtain ⟨l4, h5, hm⟩ := bindS hm
  refine SJ.makeSlice (R := fSparePart) (z := (SparePart.mk [] 0 0 0 0)) h5 Tryd.underlying25 el46 rfl rfl rfl fun v6 => ?_
  refine SJ.q (YldS.yld (y_assign rfl)) rfl ?_
  refine SJ.nil ?_
  refine PJ.next ?_
  obtain ⟨kj8, hk9, hm⟩ := withK_open hm
  refine WJ.join (X := (List SparePart)) (fun (x : (List SparePart)) => kj8 x = some r) (fun (x : (List SparePart)) => [(3, v6)]) (fun (x : (List SparePart)) => [row v6 46 fSparePart x]) ?_ ?_
  · clear hk9
    refine WJ.seq ?_
    refine WJ.quiet ?_
    refine QJ.step (YldS.yld (y_assign rfl)) rfl ?_
    refine QJ.done ?_
    refine PJ.next ?_
    refine WJ.block ?_
    refine WJ.sel (L' := (fun (x : (List SparePart) × Int) => [row v6 46 fSparePart x.1]) (l4, 0)) [0] ⟨by decide, rfl⟩ ?_
    refine WJ.sub (m' := (fun (x : (List SparePart) × Int) => [(0, v2), (3, v6), (4, .int .i64 x.2)]) (l4, 0)) ⟨rfl, rfl, rfl, trivial⟩ ?_
    refine WJ.loop (X := (List SparePart) × Int) (fun N (x : (List SparePart) × Int) => w_toSparePartS_l1 kj8 a1 N x.1 x.2 = some r) (fun (x : (List SparePart) × Int) => [(0, v2), (3, v6), (4, .int .i64 x.2)]) (fun (x : (List SparePart) × Int) => [row v6 46 fSparePart x.1]) ?_ N (l4, 0) hm
    · rintro N ⟨l10, i11⟩ hI
      have hm := hI; clear hI
      cases N with
      | zero => cases hm
      | succ N =>
      unfold w_toSparePartS_l1 at hm
      refine WJ.seq ?_
      refine WJ.seq ?_
      refine WJ.quiet ?_
      refine QJ.step (YldS.yld (y_move rfl)) rfl ?_
      refine QJ.step (YldS.yld (y_move rfl)) rfl ?_
      refine QJ.step (YldS.yld (y_lenS Tryd.runUnderlying22 hr3 rfl)) rfl ?_
      refine QJ.step (YldS.yld (y_bin rfl rfl rfl)) rfl ?_
      refine QJ.done ?_
      refine PJ.next ?_
      refine WJ.cond (t := decide (i11 < (List.length a1 : Int))) rfl (fun hb12 => ?_) (fun hb12 => ?_)
      · replace hm := ifT hm hb12
        refine WJ.skip ?_
        refine PJ.next ?_
        refine WJ.seq ?_
        refine WJ.block ?_
        refine WJ.reg ?_
        refine SJ.q (YldS.yld (y_move rfl)) rfl ?_
        refine SJ.q (YldS.yld (y_move rfl)) rfl ?_
        refine SJ.q (YldS.yld (y_move rfl)) rfl ?_
        refine SJ.q (YldS.yld (y_move rfl)) rfl ?_
        obtain ⟨e13, h14, hm⟩ := bindS hm
        obtain ⟨ad15, _, rfl, ha16, hy17⟩ := hr3.elem h14
        refine SJ.q (YldS.yld (hy17 Tryd.runUnderlying22 Tryd.sizeOf48 rfl rfl)) rfl ?_
        refine SJ.q (YldS.yld (y_loadN Tryd.isAgg48 Tryd.sizeOf48 rfl ha16 St.frozenC rfl)) rfl ?_
        obtain ⟨r18, h19, hm⟩ := bindS hm
        refine SJ.q (y_call Tryd.call31 rfl (RetG.quiet fun w hw => ok_w_toSparePart h19 w )) rfl ?_
        obtain ⟨e20, h21, hm⟩ := bindS hm
        refine SJ.q (YldS.yld (y_ixRow (k := 0) (R := fSparePart) rfl Tryd.runUnderlying25 Tryd.sizeOf46 rfl rfl h21)) rfl ?_
        refine SJ.storeRL (k := 0) (i := (Int.toNat i11)) (off := 0) (us := [str r18.name, .int .i64 r18.stock, .int .i64 r18.target, .int .i64 r18.days, .int .i64 r18.instead]) (b := r18) rfl rfl (idx_get h21) rfl rfl Tryd.sizeOf46 rfl rfl rfl ?_
        refine SJ.nil ?_
        refine PJ.block_normal (PJ.next ?_)
        refine WJ.quiet ?_
        refine QJ.step (YldS.yld (y_move rfl)) rfl ?_
        refine QJ.step (YldS.yld (y_bin rfl rfl rfl)) rfl ?_
        refine QJ.step (YldS.yld (y_assign rfl)) rfl ?_
        refine QJ.done ?_
        exact PJ.round ((List.set l10 (Int.toNat i11) r18), w64 (i11 + 1)) [0] hm ⟨rfl, rfl, rfl, trivial⟩ ⟨by decide, rfl⟩
      · replace hm := ifF hm hb12
        refine WJ.exit ?_
        refine PJ.then_exit (PJ.then_exit (PJ.block_exit ?_))
        exact PJ.joined l10 [0] hm ⟨rfl, trivial⟩ ⟨by decide, rfl⟩
  · rintro l7 hm
    subst hk9
    refine WJ.seq ?_
    refine WJ.quiet ?_
    refine QJ.step (YldS.yld (y_move rfl)) rfl ?_
    refine QJ.step (YldS.yld (y_assign rfl)) rfl ?_
    refine QJ.done ?_
    refine PJ.next ?_
    refine WJ.ret ?_
    obtain rfl := Option.some.inj hm
    refine PJ.sel (L' := [row v6 46 fSparePart l7]) [0] ⟨by decide, rfl⟩ ?_
    exact PJ.retn (vs := [v6]) Tryd.results7 ⟨rfl, trivial⟩ ⟨_, rfl, rfl⟩

set_option maxRecDepth 100000 in
set_option maxHeartbeats 1000000 in
theorem ok_s_l01Small {c1 : UInt8} {r : Bool} (hm : s_l01Small c1 = some r) (w : World)  :
    Calls Tryd.prog 53 #[.int .u8 (UInt8.toNat c1 : Int)] w (Ret (cx w) (.bool r)) := by
  unfold s_l01Small at hm
  refine Calls.enter [.int .u8 (UInt8.toNat c1 : Int)] Tryd.func53 rfl Tryd.ntmps53 rfl ?_
  refine WJ.seq ?_
  refine WJ.quiet ?_
  refine QJ.step (YldS.yld (y_assign rfl)) rfl ?_
  refine QJ.done ?_
  refine PJ.next ?_
  refine WJ.seq ?_
  refine WJ.quiet ?_
  refine QJ.step (YldS.yld (y_move rfl)) rfl ?_
  refine QJ.step (YldS.yld (y_bin8 c1 (97 : UInt8) rfl rfl rfl)) rfl ?_
  refine QJ.step (YldS.yld (y_move rfl)) rfl ?_
  obtain ⟨t2, h3, hm⟩ := bindS hm
  refine QJ.cut 3 [(8, .bool t2)] ?_ ?_
  · rcases Bool.eq_false_or_eq_true (decide (c1 ≥ (97 : UInt8))) with hb4 | hb4
    · replace h3 := andT h3 hb4
      refine QJ.on rfl rfl (cB hb4) (YldS.yld (y_move rfl)) rfl ?_
      refine QJ.on rfl rfl (cB hb4) (YldS.yld (y_bin8 c1 (122 : UInt8) rfl rfl rfl)) rfl ?_
      refine QJ.step (YldS.yld (y_pick_t (cB hb4) rfl)) rfl ?_
      obtain rfl := Option.some.inj h3
      exact QJ.cut_end ⟨rfl, trivial⟩
    · obtain rfl := andF h3 hb4
      refine QJ.off rfl rfl (cB hb4) rfl rfl ?_
      refine QJ.off rfl rfl (cB hb4) rfl rfl ?_
      refine QJ.step (YldS.yld (y_pick_f (cB hb4) rfl)) rfl ?_
      exact QJ.cut_end ⟨rfl, trivial⟩
  refine QJ.step (YldS.yld (y_assign rfl)) rfl ?_
  refine QJ.done ?_
  refine PJ.next ?_
  refine WJ.ret ?_
  obtain rfl := Option.some.inj hm
  refine PJ.sel (L' := []) [] ⟨List.nodup_nil, rfl⟩ ?_
  exact PJ.retn (vs := [.bool t2]) Tryd.results53 ⟨rfl, trivial⟩ ⟨rfl, rfl⟩

set_option maxRecDepth 100000 in
set_option maxHeartbeats 1000000 in
theorem ok_s_l01Digit {c1 : UInt8} {r : Bool} (hm : s_l01Digit c1 = some r) (w : World)  :
    Calls Tryd.prog 54 #[.int .u8 (UInt8.toNat c1 : Int)] w (Ret (cx w) (.bool r)) := by
  unfold s_l01Digit at hm
  refine Calls.enter [.int .u8 (UInt8.toNat c1 : Int)] Tryd.func54 rfl Tryd.ntmps54 rfl ?_
  refine WJ.seq ?_
  refine WJ.quiet ?_
  refine QJ.step (YldS.yld (y_assign rfl)) rfl ?_
  refine QJ.done ?_
  refine PJ.next ?_
  refine WJ.seq ?_
  refine WJ.quiet ?_
  refine QJ.step (YldS.yld (y_move rfl)) rfl ?_
  refine QJ.step (YldS.yld (y_bin8 c1 (48 : UInt8) rfl rfl rfl)) rfl ?_
  refine QJ.step (YldS.yld (y_move rfl)) rfl ?_
  obtain ⟨t2, h3, hm⟩ := bindS hm
  refine QJ.cut 3 [(8, .bool t2)] ?_ ?_
  · rcases Bool.eq_false_or_eq_true (decide (c1 ≥ (48 : UInt8))) with hb4 | hb4
    · replace h3 := andT h3 hb4
      refine QJ.on rfl rfl (cB hb4) (YldS.yld (y_move rfl)) rfl ?_
      refine QJ.on rfl rfl (cB hb4) (YldS.yld (y_bin8 c1 (57 : UInt8) rfl rfl rfl)) rfl ?_
      refine QJ.step (YldS.yld (y_pick_t (cB hb4) rfl)) rfl ?_
      obtain rfl := Option.some.inj h3
      exact QJ.cut_end ⟨rfl, trivial⟩
    · obtain rfl := andF h3 hb4
      refine QJ.off rfl rfl (cB hb4) rfl rfl ?_
      refine QJ.off rfl rfl (cB hb4) rfl rfl ?_
      refine QJ.step (YldS.yld (y_pick_f (cB hb4) rfl)) rfl ?_
      exact QJ.cut_end ⟨rfl, trivial⟩
  refine QJ.step (YldS.yld (y_assign rfl)) rfl ?_
  refine QJ.done ?_
  refine PJ.next ?_
  refine WJ.ret ?_
  obtain rfl := Option.some.inj hm
  refine PJ.sel (L' := []) [] ⟨List.nodup_nil, rfl⟩ ?_
  exact PJ.retn (vs := [.bool t2]) Tryd.results54 ⟨rfl, trivial⟩ ⟨rfl, rfl⟩

set_option maxRecDepth 100000 in
set_option maxHeartbeats 1000000 in
theorem ok_s_IsName {N : Nat} {s1 : Str} {r : Bool} (hm : s_IsName N s1 = some r) (w : World)  :
    Calls Tryd.prog 46 #[str s1] w (Ret (cx w) (.bool r)) := by
  unfold s_IsName at hm
  refine Calls.enter [str s1] Tryd.func46 rfl Tryd.ntmps46 rfl ?_
  refine WJ.seq ?_
  refine WJ.quiet ?_
  refine QJ.step (YldS.yld (y_assign rfl)) rfl ?_
  refine QJ.done ?_
  refine PJ.next ?_
  refine WJ.seq ?_
  refine WJ.seq ?_
  refine WJ.quiet ?_
  refine QJ.step (YldS.yld (y_move rfl)) rfl ?_
  refine QJ.step (YldS.yld (y_binS rfl rfl rfl)) rfl ?_
  refine QJ.step (YldS.yld (y_move rfl)) rfl ?_
  obtain ⟨t2, h3, hm⟩ := bindS hm
  refine QJ.cut 4 [(0, str s1), (10, .bool t2)] ?_ ?_
  · rcases Bool.eq_false_or_eq_true (s1 == []) with hb4 | hb4
    · obtain rfl := orT h3 hb4
      refine QJ.off rfl rfl (cB hb4) rfl rfl ?_
      refine QJ.off rfl rfl (cB hb4) rfl rfl ?_
      refine QJ.off rfl rfl (cB hb4) rfl rfl ?_
      refine QJ.step (YldS.yld (y_pick_t (cB hb4) rfl)) rfl ?_
      exact QJ.cut_end ⟨rfl, rfl, trivial⟩
    · replace h3 := orF h3 hb4
      refine QJ.on rfl rfl (cB hb4) (YldS.yld (y_move rfl)) rfl ?_
      refine QJ.on rfl rfl (cB hb4) (YldS.yld (y_lenStr Tryd.runUnderlying9 rfl)) rfl ?_
      refine QJ.on rfl rfl (cB hb4) (YldS.yld (y_bin rfl rfl rfl)) rfl ?_
      refine QJ.step (YldS.yld (y_pick_f (cB hb4) rfl)) rfl ?_
      obtain rfl := Option.some.inj h3
      exact QJ.cut_end ⟨rfl, rfl, trivial⟩
  refine QJ.step (YldS.yld (y_move rfl)) rfl ?_
  obtain ⟨t5, h6, hm⟩ := bindS hm
  refine QJ.cut 5 [(0, str s1), (16, .bool t5)] ?_ ?_
  · rcases Bool.eq_false_or_eq_true t2 with hb7 | hb7
    · obtain rfl := orT h6 hb7
      refine QJ.off rfl rfl (cB hb7) rfl rfl ?_
      refine QJ.off rfl rfl (cB hb7) rfl rfl ?_
      refine QJ.off rfl rfl (cB hb7) rfl rfl ?_
      refine QJ.off rfl rfl (cB hb7) rfl rfl ?_
      refine QJ.step (YldS.yld (y_pick_t (cB hb7) rfl)) rfl ?_
      exact QJ.cut_end ⟨rfl, rfl, trivial⟩
    · replace h6 := orF h6 hb7
      refine QJ.on rfl rfl (cB hb7) (YldS.yld (y_move rfl)) rfl ?_
      obtain ⟨c8, h9, h6⟩ := bindS h6
      refine QJ.on rfl rfl (cB hb7) (YldS.yld (y_idxStr Tryd.runUnderlying9 rfl rfl h9)) rfl ?_
      obtain ⟨r10, h11, h6⟩ := bindS h6
      refine QJ.on rfl rfl (cB hb7) (y_call Tryd.call53 rfl (RetG.quiet fun w hw => ok_s_l01Small h11 w )) rfl ?_
      refine QJ.on rfl rfl (cB hb7) (YldS.yld (y_not rfl)) rfl ?_
      refine QJ.step (YldS.yld (y_pick_f (cB hb7) rfl)) rfl ?_
      obtain rfl := Option.some.inj h6
      exact QJ.cut_end ⟨rfl, rfl, trivial⟩
  refine QJ.done ?_
  refine PJ.next ?_
  refine WJ.cond (t := t5) rfl (fun hb12 => ?_) (fun hb12 => ?_)
  · replace hm := ifT hm hb12
    refine WJ.seq ?_
    refine WJ.quiet ?_
    refine QJ.step (YldS.yld (y_assign rfl)) rfl ?_
    refine QJ.done ?_
    refine PJ.next ?_
    refine WJ.ret ?_
    refine PJ.then_ret ?_
    obtain rfl := Option.some.inj hm
    refine PJ.sel (L' := []) [] ⟨List.nodup_nil, rfl⟩ ?_
    exact PJ.retn (vs := [.bool false]) Tryd.results46 ⟨rfl, trivial⟩ ⟨rfl, rfl⟩
  · replace hm := ifF hm hb12
    refine WJ.skip ?_
    refine PJ.next ?_
    obtain ⟨kj13, hk14, hm⟩ := withK_open hm
    refine WJ.join (X := Unit) (fun (_ : Unit) => kj13  = some r) (fun (_ : Unit) => []) (fun (_ : Unit) => []) ?_ ?_
    · clear hk14
      refine WJ.seq ?_
      refine WJ.quiet ?_
      refine QJ.step (YldS.yld (y_assign rfl)) rfl ?_
      refine QJ.done ?_
      refine PJ.next ?_
      refine WJ.block ?_
      refine WJ.sel (L' := (fun (x : Int) => []) 0) [] ⟨List.nodup_nil, rfl⟩ ?_
      refine WJ.sub (m' := (fun (x : Int) => [(0, str s1), (3, .int .i64 x)]) 0) ⟨rfl, rfl, trivial⟩ ?_
      refine WJ.loop (X := Int) (fun N (x : Int) => s_IsName_l1 kj13 s1 N x = some r) (fun (x : Int) => [(0, str s1), (3, .int .i64 x)]) (fun (x : Int) => []) ?_ N 0 hm
      · rintro N i15 hI
        have hm := hI; clear hI
        cases N with
        | zero => cases hm
        | succ N =>
        unfold s_IsName_l1 at hm
        refine WJ.seq ?_
        refine WJ.seq ?_
        refine WJ.quiet ?_
        refine QJ.step (YldS.yld (y_move rfl)) rfl ?_
        refine QJ.step (YldS.yld (y_move rfl)) rfl ?_
        refine QJ.step (YldS.yld (y_lenStr Tryd.runUnderlying9 rfl)) rfl ?_
        refine QJ.step (YldS.yld (y_bin rfl rfl rfl)) rfl ?_
        refine QJ.done ?_
        refine PJ.next ?_
        refine WJ.cond (t := decide (i15 < (List.length s1 : Int))) rfl (fun hb16 => ?_) (fun hb16 => ?_)
        · replace hm := ifT hm hb16
          refine WJ.skip ?_
          refine PJ.next ?_
          refine WJ.seq ?_
          refine WJ.block ?_
          refine WJ.seq ?_
          refine WJ.quiet ?_
          refine QJ.step (YldS.yld (y_move rfl)) rfl ?_
          refine QJ.step (YldS.yld (y_move rfl)) rfl ?_
          obtain ⟨c17, h18, hm⟩ := bindS hm
          refine QJ.step (YldS.yld (y_idxStr Tryd.runUnderlying9 rfl rfl h18)) rfl ?_
          obtain ⟨r19, h20, hm⟩ := bindS hm
          refine QJ.step (y_call Tryd.call53 rfl (RetG.quiet fun w hw => ok_s_l01Small h20 w )) rfl ?_
          refine QJ.step (YldS.yld (y_not rfl)) rfl ?_
          refine QJ.step (YldS.yld (y_move rfl)) rfl ?_
          obtain ⟨t21, h22, hm⟩ := bindS hm
          refine QJ.cut 6 [(0, str s1), (3, .int .i64 i15), (34, .bool t21)] ?_ ?_
          · rcases Bool.eq_false_or_eq_true (!r19) with hb23 | hb23
            · replace h22 := andT h22 hb23
              refine QJ.on rfl rfl (cB hb23) (YldS.yld (y_move rfl)) rfl ?_
              refine QJ.on rfl rfl (cB hb23) (YldS.yld (y_move rfl)) rfl ?_
              obtain ⟨c24, h25, h22⟩ := bindS h22
              refine QJ.on rfl rfl (cB hb23) (YldS.yld (y_idxStr Tryd.runUnderlying9 rfl rfl h25)) rfl ?_
              obtain ⟨r26, h27, h22⟩ := bindS h22
              refine QJ.on rfl rfl (cB hb23) (y_call Tryd.call54 rfl (RetG.quiet fun w hw => ok_s_l01Digit h27 w )) rfl ?_
              refine QJ.on rfl rfl (cB hb23) (YldS.yld (y_not rfl)) rfl ?_
              refine QJ.step (YldS.yld (y_pick_t (cB hb23) rfl)) rfl ?_
              obtain rfl := Option.some.inj h22
              exact QJ.cut_end ⟨rfl, rfl, rfl, trivial⟩
            · obtain rfl := andF h22 hb23
              refine QJ.off rfl rfl (cB hb23) rfl rfl ?_
              refine QJ.off rfl rfl (cB hb23) rfl rfl ?_
              refine QJ.off rfl rfl (cB hb23) rfl rfl ?_
              refine QJ.off rfl rfl (cB hb23) rfl rfl ?_
              refine QJ.off rfl rfl (cB hb23) rfl rfl ?_
              refine QJ.step (YldS.yld (y_pick_f (cB hb23) rfl)) rfl ?_
              exact QJ.cut_end ⟨rfl, rfl, rfl, trivial⟩
          refine QJ.step (YldS.yld (y_move rfl)) rfl ?_
          obtain ⟨t28, h29, hm⟩ := bindS hm
          refine QJ.cut 5 [(0, str s1), (3, .int .i64 i15), (40, .bool t28)] ?_ ?_
          · rcases Bool.eq_false_or_eq_true t21 with hb30 | hb30
            · replace h29 := andT h29 hb30
              refine QJ.on rfl rfl (cB hb30) (YldS.yld (y_move rfl)) rfl ?_
              refine QJ.on rfl rfl (cB hb30) (YldS.yld (y_move rfl)) rfl ?_
              obtain ⟨c31, h32, h29⟩ := bindS h29
              refine QJ.on rfl rfl (cB hb30) (YldS.yld (y_idxStr Tryd.runUnderlying9 rfl rfl h32)) rfl ?_
              refine QJ.on rfl rfl (cB hb30) (YldS.yld (y_bin8 c31 (45 : UInt8) rfl rfl rfl)) rfl ?_
              refine QJ.step (YldS.yld (y_pick_t (cB hb30) rfl)) rfl ?_
              obtain rfl := Option.some.inj h29
              exact QJ.cut_end ⟨rfl, rfl, rfl, trivial⟩
            · obtain rfl := andF h29 hb30
              refine QJ.off rfl rfl (cB hb30) rfl rfl ?_
              refine QJ.off rfl rfl (cB hb30) rfl rfl ?_
              refine QJ.off rfl rfl (cB hb30) rfl rfl ?_
              refine QJ.off rfl rfl (cB hb30) rfl rfl ?_
              refine QJ.step (YldS.yld (y_pick_f (cB hb30) rfl)) rfl ?_
              exact QJ.cut_end ⟨rfl, rfl, rfl, trivial⟩
          refine QJ.done ?_
          refine PJ.next ?_
          refine WJ.cond (t := t28) rfl (fun hb33 => ?_) (fun hb33 => ?_)
          · replace hm := ifT hm hb33
            refine WJ.seq ?_
            refine WJ.quiet ?_
            refine QJ.step (YldS.yld (y_assign rfl)) rfl ?_
            refine QJ.done ?_
            refine PJ.next ?_
            refine WJ.ret ?_
            refine PJ.block_ret (PJ.then_ret (PJ.then_ret (PJ.block_ret (PJ.then_ret ?_))))
            obtain rfl := Option.some.inj hm
            refine PJ.sel (L' := []) [] ⟨List.nodup_nil, rfl⟩ ?_
            exact PJ.retn (vs := [.bool false]) Tryd.results46 ⟨rfl, trivial⟩ ⟨rfl, rfl⟩
          · replace hm := ifF hm hb33
            refine WJ.skip ?_
            refine PJ.block_normal (PJ.next ?_)
            refine WJ.quiet ?_
            refine QJ.step (YldS.yld (y_move rfl)) rfl ?_
            refine QJ.step (YldS.yld (y_bin rfl rfl rfl)) rfl ?_
            refine QJ.step (YldS.yld (y_assign rfl)) rfl ?_
            refine QJ.done ?_
            exact PJ.round (w64 (i15 + 1)) [] hm ⟨rfl, rfl, trivial⟩ ⟨List.nodup_nil, rfl⟩
        · replace hm := ifF hm hb16
          refine WJ.exit ?_
          refine PJ.then_exit (PJ.then_exit (PJ.block_exit ?_))
          exact PJ.joined () [] hm trivial ⟨List.nodup_nil, rfl⟩
    · rintro _ hm
      subst hk14
      refine WJ.seq ?_
      refine WJ.quiet ?_
      refine QJ.step (YldS.yld (y_assign rfl)) rfl ?_
      refine QJ.done ?_
      refine PJ.next ?_
      refine WJ.ret ?_
      obtain rfl := Option.some.inj hm
      refine PJ.sel (L' := []) [] ⟨List.nodup_nil, rfl⟩ ?_
      exact PJ.retn (vs := [.bool true]) Tryd.results46 ⟨rfl, trivial⟩ ⟨rfl, rfl⟩

set_option maxRecDepth 100000 in
set_option maxHeartbeats 1000000 in
theorem ok_s_l00In {n1 : Int} {low2 : Int} {high3 : Int} {r : Bool} (hm : s_l00In n1 low2 high3 = some r) (w : World)  :
    Calls Tryd.prog 29 #[.int .i64 n1, .int .i64 low2, .int .i64 high3] w (Ret (cx w) (.bool r)) := by
  unfold s_l00In at hm
  refine Calls.enter [.int .i64 n1, .int .i64 low2, .int .i64 high3] Tryd.func29 rfl Tryd.ntmps29 rfl ?_
  refine WJ.seq ?_
  refine WJ.quiet ?_
  refine QJ.step (YldS.yld (y_assign rfl)) rfl ?_
  refine QJ.done ?_
  refine PJ.next ?_
  refine WJ.seq ?_
  refine WJ.quiet ?_
  refine QJ.step (YldS.yld (y_move rfl)) rfl ?_
  refine QJ.step (YldS.yld (y_move rfl)) rfl ?_
  refine QJ.step (YldS.yld (y_bin rfl rfl rfl)) rfl ?_
  refine QJ.step (YldS.yld (y_move rfl)) rfl ?_
  obtain ⟨t4, h5, hm⟩ := bindS hm
  refine QJ.cut 4 [(14, .bool t4)] ?_ ?_
  · rcases Bool.eq_false_or_eq_true (decide (n1 ≥ low2)) with hb6 | hb6
    · replace h5 := andT h5 hb6
      refine QJ.on rfl rfl (cB hb6) (YldS.yld (y_move rfl)) rfl ?_
      refine QJ.on rfl rfl (cB hb6) (YldS.yld (y_move rfl)) rfl ?_
      refine QJ.on rfl rfl (cB hb6) (YldS.yld (y_bin rfl rfl rfl)) rfl ?_
      refine QJ.step (YldS.yld (y_pick_t (cB hb6) rfl)) rfl ?_
      obtain rfl := Option.some.inj h5
      exact QJ.cut_end ⟨rfl, trivial⟩
    · obtain rfl := andF h5 hb6
      refine QJ.off rfl rfl (cB hb6) rfl rfl ?_
      refine QJ.off rfl rfl (cB hb6) rfl rfl ?_
      refine QJ.off rfl rfl (cB hb6) rfl rfl ?_
      refine QJ.step (YldS.yld (y_pick_f (cB hb6) rfl)) rfl ?_
      exact QJ.cut_end ⟨rfl, trivial⟩
  refine QJ.step (YldS.yld (y_assign rfl)) rfl ?_
  refine QJ.done ?_
  refine PJ.next ?_
  refine WJ.ret ?_
  obtain rfl := Option.some.inj hm
  refine PJ.sel (L' := []) [] ⟨List.nodup_nil, rfl⟩ ?_
  exact PJ.retn (vs := [.bool t4]) Tryd.results29 ⟨rfl, trivial⟩ ⟨rfl, rfl⟩

set_option maxRecDepth 100000 in
set_option maxHeartbeats 1000000 in
theorem ok_s_l24Many {n1 : Int} {r : Bool} (hm : s_l24Many n1 = some r) (w : World)  :
    Calls Tryd.prog 47 #[.int .i64 n1] w (Ret (cx w) (.bool r)) := by
  unfold s_l24Many at hm
  refine Calls.enter [.int .i64 n1] Tryd.func47 rfl Tryd.ntmps47 rfl ?_
  refine WJ.seq ?_
  refine WJ.quiet ?_
  refine QJ.step (YldS.yld (y_assign rfl)) rfl ?_
  refine QJ.done ?_
  refine PJ.next ?_
  refine WJ.seq ?_
  refine WJ.quiet ?_
  refine QJ.step (YldS.yld (y_move rfl)) rfl ?_
  obtain ⟨r2, h3, hm⟩ := bindS hm
  refine QJ.step (y_call Tryd.call29 rfl (RetG.quiet fun w hw => ok_s_l00In h3 w )) rfl ?_
  refine QJ.step (YldS.yld (y_assign rfl)) rfl ?_
  refine QJ.done ?_
  refine PJ.next ?_
  refine WJ.ret ?_
  obtain rfl := Option.some.inj hm
  refine PJ.sel (L' := []) [] ⟨List.nodup_nil, rfl⟩ ?_
  exact PJ.retn (vs := [.bool r2]) Tryd.results47 ⟨rfl, trivial⟩ ⟨rfl, rfl⟩

set_option maxRecDepth 100000 in
set_option maxHeartbeats 1000000 in
theorem ok_s_l24Ok {N : Nat} {list1 : List SparePart} {r : Bool} (hm : s_l24Ok N list1 = some r) (w : World) (v2 : Value) (hr3 : RdS w (cx w).Fz v2 fSparePart.rp list1) :
    Calls Tryd.prog 28 #[v2] w (Ret (cx w) (.bool r)) := by
  unfold s_l24Ok at hm
  refine Calls.enter [v2] Tryd.func28 rfl Tryd.ntmps28 rfl ?_
  refine WJ.seq ?_
  refine WJ.quiet ?_
  refine QJ.step (YldS.yld (y_assign rfl)) rfl ?_
  refine QJ.done ?_
  refine PJ.next ?_
  refine WJ.seq ?_
  refine WJ.quiet ?_
  refine QJ.step (YldS.yld (y_move rfl)) rfl ?_
  refine QJ.step (YldS.yld (y_lenS Tryd.runUnderlying25 hr3 rfl)) rfl ?_
  refine QJ.step (YldS.yld (y_assign rfl)) rfl ?_
  refine QJ.done ?_
  refine PJ.next ?_
  obtain ⟨kj4, hk5, hm⟩ := withK_open hm
  refine WJ.join (X := Unit) (fun (_ : Unit) => kj4  = some r) (fun (_ : Unit) => [(3, .int .i64 (List.length list1 : Int))]) (fun (_ : Unit) => []) ?_ ?_
  · clear hk5
    refine WJ.seq ?_
    refine WJ.quiet ?_
    refine QJ.step (YldS.yld (y_assign rfl)) rfl ?_
    refine QJ.done ?_
    refine PJ.next ?_
    refine WJ.block ?_
    refine WJ.sel (L' := (fun (x : Int) => []) 0) [] ⟨List.nodup_nil, rfl⟩ ?_
    refine WJ.sub (m' := (fun (x : Int) => [(0, v2), (3, .int .i64 (List.length list1 : Int)), (4, .int .i64 x)]) 0) ⟨rfl, rfl, rfl, trivial⟩ ?_
    refine WJ.loop (X := Int) (fun N (x : Int) => s_l24Ok_l1 kj4 list1 N x = some r) (fun (x : Int) => [(0, v2), (3, .int .i64 (List.length list1 : Int)), (4, .int .i64 x)]) (fun (x : Int) => []) ?_ N 0 hm
    · rintro N i6 hI
      have hm := hI; clear hI
      cases N with
      | zero => cases hm
      | succ N =>
      unfold s_l24Ok_l1 at hm
      refine WJ.seq ?_
      refine WJ.seq ?_
      refine WJ.quiet ?_
      refine QJ.step (YldS.yld (y_move rfl)) rfl ?_
      refine QJ.step (YldS.yld (y_move rfl)) rfl ?_
      refine QJ.step (YldS.yld (y_lenS Tryd.runUnderlying25 hr3 rfl)) rfl ?_
      refine QJ.step (YldS.yld (y_bin rfl rfl rfl)) rfl ?_
      refine QJ.done ?_
      refine PJ.next ?_
      refine WJ.cond (t := decide (i6 < (List.length list1 : Int))) rfl (fun hb7 => ?_) (fun hb7 => ?_)
      · replace hm := ifT hm hb7
        refine WJ.skip ?_
        refine PJ.next ?_
        obtain ⟨kj8, hk9, hm⟩ := withK_open hm
        refine WJ.join (X := Unit) (fun (_ : Unit) => kj8  = some r) (fun (_ : Unit) => [(0, v2), (3, .int .i64 (List.length list1 : Int)), (4, .int .i64 i6)]) (fun (_ : Unit) => []) ?_ ?_
        · clear hk9
          refine WJ.block ?_
          refine WJ.seq ?_
          refine WJ.quiet ?_
          refine QJ.step (YldS.yld (y_move rfl)) rfl ?_
          refine QJ.step (YldS.yld (y_move rfl)) rfl ?_
          obtain ⟨e10, h11, hm⟩ := bindS hm
          obtain ⟨ad12, _, rfl, ha13, hy14⟩ := hr3.elem h11
          refine QJ.step (YldS.yld (hy14 Tryd.runUnderlying25 Tryd.sizeOf46 rfl rfl)) rfl ?_
          refine QJ.step (YldS.yld (y_assign rfl)) rfl ?_
          refine QJ.done ?_
          refine PJ.next ?_
          refine WJ.seq ?_
          refine WJ.seq ?_
          refine WJ.quiet ?_
          refine QJ.step (YldS.yld (y_move rfl)) rfl ?_
          refine QJ.step (YldS.yld (y_nil rfl)) rfl ?_
          refine QJ.step (YldS.yld (y_fld (ad := ad12) fld46_0 rfl)) rfl ?_
          refine QJ.step (YldS.yld (y_load1 (v := str e10.name) Tryd.isAgg9 (ha13.sub 0 1) St.frozenC rfl)) rfl ?_
          obtain ⟨r15, h16, hm⟩ := bindS hm
          refine QJ.step (y_call Tryd.call46 rfl (RetG.quiet fun w hw => ok_s_IsName h16 w )) rfl ?_
          refine QJ.step (YldS.yld (y_not rfl)) rfl ?_
          refine QJ.step (YldS.yld (y_move rfl)) rfl ?_
          obtain ⟨t17, h18, hm⟩ := bindS hm
          refine QJ.cut 7 [(0, v2), (3, .int .i64 (List.length list1 : Int)), (4, .int .i64 i6), (5, .pointer (some ad12)), (33, .bool t17)] ?_ ?_
          · rcases Bool.eq_false_or_eq_true (!r15) with hb19 | hb19
            · obtain rfl := orT h18 hb19
              refine QJ.off rfl rfl (cB hb19) rfl rfl ?_
              refine QJ.off rfl rfl (cB hb19) rfl rfl ?_
              refine QJ.off rfl rfl (cB hb19) rfl rfl ?_
              refine QJ.off rfl rfl (cB hb19) rfl rfl ?_
              refine QJ.off rfl rfl (cB hb19) rfl rfl ?_
              refine QJ.off rfl rfl (cB hb19) rfl rfl ?_
              refine QJ.step (YldS.yld (y_pick_t (cB hb19) rfl)) rfl ?_
              exact QJ.cut_end ⟨rfl, rfl, rfl, rfl, rfl, trivial⟩
            · replace h18 := orF h18 hb19
              refine QJ.on rfl rfl (cB hb19) (YldS.yld (y_move rfl)) rfl ?_
              refine QJ.on rfl rfl (cB hb19) (YldS.yld (y_nil rfl)) rfl ?_
              refine QJ.on rfl rfl (cB hb19) (YldS.yld (y_fld (ad := ad12) fld46_1 rfl)) rfl ?_
              refine QJ.on rfl rfl (cB hb19) (YldS.yld (y_load1 (v := .int .i64 e10.stock) Tryd.isAgg2 (ha13.sub 1 1) St.frozenC rfl)) rfl ?_
              obtain ⟨r20, h21, h18⟩ := bindS h18
              refine QJ.on rfl rfl (cB hb19) (y_call Tryd.call47 rfl (RetG.quiet fun w hw => ok_s_l24Many h21 w )) rfl ?_
              refine QJ.on rfl rfl (cB hb19) (YldS.yld (y_not rfl)) rfl ?_
              refine QJ.step (YldS.yld (y_pick_f (cB hb19) rfl)) rfl ?_
              obtain rfl := Option.some.inj h18
              exact QJ.cut_end ⟨rfl, rfl, rfl, rfl, rfl, trivial⟩
          refine QJ.step (YldS.yld (y_move rfl)) rfl ?_
          obtain ⟨t22, h23, hm⟩ := bindS hm
          refine QJ.cut 7 [(0, v2), (3, .int .i64 (List.length list1 : Int)), (4, .int .i64 i6), (5, .pointer (some ad12)), (41, .bool t22)] ?_ ?_
          · rcases Bool.eq_false_or_eq_true t17 with hb24 | hb24
            · obtain rfl := orT h23 hb24
              refine QJ.off rfl rfl (cB hb24) rfl rfl ?_
              refine QJ.off rfl rfl (cB hb24) rfl rfl ?_
              refine QJ.off rfl rfl (cB hb24) rfl rfl ?_
              refine QJ.off rfl rfl (cB hb24) rfl rfl ?_
              refine QJ.off rfl rfl (cB hb24) rfl rfl ?_
              refine QJ.off rfl rfl (cB hb24) rfl rfl ?_
              refine QJ.step (YldS.yld (y_pick_t (cB hb24) rfl)) rfl ?_
              exact QJ.cut_end ⟨rfl, rfl, rfl, rfl, rfl, trivial⟩
            · replace h23 := orF h23 hb24
              refine QJ.on rfl rfl (cB hb24) (YldS.yld (y_move rfl)) rfl ?_
              refine QJ.on rfl rfl (cB hb24) (YldS.yld (y_nil rfl)) rfl ?_
              refine QJ.on rfl rfl (cB hb24) (YldS.yld (y_fld (ad := ad12) fld46_2 rfl)) rfl ?_
              refine QJ.on rfl rfl (cB hb24) (YldS.yld (y_load1 (v := .int .i64 e10.target) Tryd.isAgg2 (ha13.sub 2 1) St.frozenC rfl)) rfl ?_
              obtain ⟨r25, h26, h23⟩ := bindS h23
              refine QJ.on rfl rfl (cB hb24) (y_call Tryd.call47 rfl (RetG.quiet fun w hw => ok_s_l24Many h26 w )) rfl ?_
              refine QJ.on rfl rfl (cB hb24) (YldS.yld (y_not rfl)) rfl ?_
              refine QJ.step (YldS.yld (y_pick_f (cB hb24) rfl)) rfl ?_
              obtain rfl := Option.some.inj h23
              exact QJ.cut_end ⟨rfl, rfl, rfl, rfl, rfl, trivial⟩
          refine QJ.step (YldS.yld (y_move rfl)) rfl ?_
          obtain ⟨t27, h28, hm⟩ := bindS hm
          refine QJ.cut 7 [(0, v2), (3, .int .i64 (List.length list1 : Int)), (4, .int .i64 i6), (5, .pointer (some ad12)), (49, .bool t27)] ?_ ?_
          · rcases Bool.eq_false_or_eq_true t22 with hb29 | hb29
            · obtain rfl := orT h28 hb29
              refine QJ.off rfl rfl (cB hb29) rfl rfl ?_
              refine QJ.off rfl rfl (cB hb29) rfl rfl ?_
              refine QJ.off rfl rfl (cB hb29) rfl rfl ?_
              refine QJ.off rfl rfl (cB hb29) rfl rfl ?_
              refine QJ.off rfl rfl (cB hb29) rfl rfl ?_
              refine QJ.off rfl rfl (cB hb29) rfl rfl ?_
              refine QJ.step (YldS.yld (y_pick_t (cB hb29) rfl)) rfl ?_
              exact QJ.cut_end ⟨rfl, rfl, rfl, rfl, rfl, trivial⟩
            · replace h28 := orF h28 hb29
              refine QJ.on rfl rfl (cB hb29) (YldS.yld (y_move rfl)) rfl ?_
              refine QJ.on rfl rfl (cB hb29) (YldS.yld (y_nil rfl)) rfl ?_
              refine QJ.on rfl rfl (cB hb29) (YldS.yld (y_fld (ad := ad12) fld46_3 rfl)) rfl ?_
              refine QJ.on rfl rfl (cB hb29) (YldS.yld (y_load1 (v := .int .i64 e10.days) Tryd.isAgg2 (ha13.sub 3 1) St.frozenC rfl)) rfl ?_
              obtain ⟨r30, h31, h28⟩ := bindS h28
              refine QJ.on rfl rfl (cB hb29) (y_call Tryd.call29 rfl (RetG.quiet fun w hw => ok_s_l00In h31 w )) rfl ?_
              refine QJ.on rfl rfl (cB hb29) (YldS.yld (y_not rfl)) rfl ?_
              refine QJ.step (YldS.yld (y_pick_f (cB hb29) rfl)) rfl ?_
              obtain rfl := Option.some.inj h28
              exact QJ.cut_end ⟨rfl, rfl, rfl, rfl, rfl, trivial⟩
          refine QJ.step (YldS.yld (y_move rfl)) rfl ?_
          obtain ⟨t32, h33, hm⟩ := bindS hm
          refine QJ.cut 9 [(0, v2), (3, .int .i64 (List.length list1 : Int)), (4, .int .i64 i6), (5, .pointer (some ad12)), (59, .bool t32)] ?_ ?_
          · rcases Bool.eq_false_or_eq_true t27 with hb34 | hb34
            · obtain rfl := orT h33 hb34
              refine QJ.off rfl rfl (cB hb34) rfl rfl ?_
              refine QJ.off rfl rfl (cB hb34) rfl rfl ?_
              refine QJ.off rfl rfl (cB hb34) rfl rfl ?_
              refine QJ.off rfl rfl (cB hb34) rfl rfl ?_
              refine QJ.off rfl rfl (cB hb34) rfl rfl ?_
              refine QJ.off rfl rfl (cB hb34) rfl rfl ?_
              refine QJ.off rfl rfl (cB hb34) rfl rfl ?_
              refine QJ.off rfl rfl (cB hb34) rfl rfl ?_
              refine QJ.step (YldS.yld (y_pick_t (cB hb34) rfl)) rfl ?_
              exact QJ.cut_end ⟨rfl, rfl, rfl, rfl, rfl, trivial⟩
            · replace h33 := orF h33 hb34
              refine QJ.on rfl rfl (cB hb34) (YldS.yld (y_move rfl)) rfl ?_
              refine QJ.on rfl rfl (cB hb34) (YldS.yld (y_nil rfl)) rfl ?_
              refine QJ.on rfl rfl (cB hb34) (YldS.yld (y_fld (ad := ad12) fld46_4 rfl)) rfl ?_
              refine QJ.on rfl rfl (cB hb34) (YldS.yld (y_load1 (v := .int .i64 e10.instead) Tryd.isAgg2 (ha13.sub 4 1) St.frozenC rfl)) rfl ?_
              refine QJ.on rfl rfl (cB hb34) (YldS.yld (y_move rfl)) rfl ?_
              refine QJ.on rfl rfl (cB hb34) (YldS.yld (y_bin rfl rfl rfl)) rfl ?_
              obtain ⟨r35, h36, h33⟩ := bindS h33
              refine QJ.on rfl rfl (cB hb34) (y_call Tryd.call29 rfl (RetG.quiet fun w hw => ok_s_l00In h36 w )) rfl ?_
              refine QJ.on rfl rfl (cB hb34) (YldS.yld (y_not rfl)) rfl ?_
              refine QJ.step (YldS.yld (y_pick_f (cB hb34) rfl)) rfl ?_
              obtain rfl := Option.some.inj h33
              exact QJ.cut_end ⟨rfl, rfl, rfl, rfl, rfl, trivial⟩
          refine QJ.done ?_
          refine PJ.next ?_
          refine WJ.cond (t := t32) rfl (fun hb37 => ?_) (fun hb37 => ?_)
          · replace hm := ifT hm hb37
            refine WJ.seq ?_
            refine WJ.quiet ?_
            refine QJ.step (YldS.yld (y_assign rfl)) rfl ?_
            refine QJ.done ?_
            refine PJ.next ?_
            refine WJ.ret ?_
            refine PJ.then_ret (PJ.block_ret (PJ.then_ret (PJ.then_ret (PJ.block_ret (PJ.then_ret ?_)))))
            obtain rfl := Option.some.inj hm
            refine PJ.sel (L' := []) [] ⟨List.nodup_nil, rfl⟩ ?_
            exact PJ.retn (vs := [.bool false]) Tryd.results28 ⟨rfl, trivial⟩ ⟨rfl, rfl⟩
          · replace hm := ifF hm hb37
            refine WJ.skip ?_
            refine PJ.next ?_
            obtain ⟨kj38, hk39, hm⟩ := withK_open hm
            refine WJ.join (X := Unit) (fun (_ : Unit) => kj38  = some r) (fun (_ : Unit) => [(0, v2), (3, .int .i64 (List.length list1 : Int)), (4, .int .i64 i6), (5, .pointer (some ad12))]) (fun (_ : Unit) => []) ?_ ?_
            · clear hk39
              refine WJ.seq ?_
              refine WJ.quiet ?_
              refine QJ.step (YldS.yld (y_assign rfl)) rfl ?_
              refine QJ.done ?_
              refine PJ.next ?_
              refine WJ.block ?_
              refine WJ.sel (L' := (fun (x : Int) => []) 0) [] ⟨List.nodup_nil, rfl⟩ ?_
              refine WJ.sub (m' := (fun (x : Int) => [(0, v2), (3, .int .i64 (List.length list1 : Int)), (4, .int .i64 i6), (5, .pointer (some ad12)), (6, .int .i64 x)]) 0) ⟨rfl, rfl, rfl, rfl, rfl, trivial⟩ ?_
              refine WJ.loop (X := Int) (fun N (x : Int) => s_l24Ok_l2 kj38 list1 i6 e10 N x = some r) (fun (x : Int) => [(0, v2), (3, .int .i64 (List.length list1 : Int)), (4, .int .i64 i6), (5, .pointer (some ad12)), (6, .int .i64 x)]) (fun (x : Int) => []) ?_ N 0 hm
              · rintro N k40 hI
                have hm := hI; clear hI
                cases N with
                | zero => cases hm
                | succ N =>
                unfold s_l24Ok_l2 at hm
                refine WJ.seq ?_
                refine WJ.seq ?_
                refine WJ.quiet ?_
                refine QJ.step (YldS.yld (y_move rfl)) rfl ?_
                refine QJ.step (YldS.yld (y_move rfl)) rfl ?_
                refine QJ.step (YldS.yld (y_bin rfl rfl rfl)) rfl ?_
                refine QJ.done ?_
                refine PJ.next ?_
                refine WJ.cond (t := decide (k40 < i6)) rfl (fun hb41 => ?_) (fun hb41 => ?_)
                · replace hm := ifT hm hb41
                  refine WJ.skip ?_
                  refine PJ.next ?_
                  refine WJ.seq ?_
                  refine WJ.block ?_
                  refine WJ.seq ?_
                  refine WJ.quiet_draw follows (by kernel_rfl) ?_
                  refine QJ.step (YldS.yld (y_move rfl)) rfl ?_
                  refine QJ.step (YldS.yld (y_move rfl)) rfl ?_
                  obtain ⟨e42, h43, hm⟩ := bindS hm
                  obtain ⟨ad44, _, rfl, ha45, hy46⟩ := hr3.elem h43
                  refine QJ.step (YldS.yld (hy46 Tryd.runUnderlying25 Tryd.sizeOf46 rfl rfl)) rfl ?_
                  refine QJ.step (YldS.yld (y_fld (ad := ad44) fld46_0 rfl)) rfl ?_
                  refine QJ.step (YldS.yld (y_load1 (v := str e42.name) Tryd.isAgg9 (ha45.sub 0 1) St.frozenC rfl)) rfl ?_
                  refine QJ.step (YldS.yld (y_move rfl)) rfl ?_
                  refine QJ.step (YldS.yld (y_nil rfl)) rfl ?_
                  refine QJ.step (YldS.yld (y_fld (ad := ad12) fld46_0 rfl)) rfl ?_
                  refine QJ.step (YldS.yld (y_load1 (v := str e10.name) Tryd.isAgg9 (ha13.sub 0 1) St.frozenC rfl)) rfl ?_
                  refine QJ.step (YldS.yld (y_binS rfl rfl rfl)) rfl ?_
                  refine QJ.done ?_
                  refine PJ.next ?_
                  refine WJ.cond (t := (e42.name == e10.name)) rfl (fun hb47 => ?_) (fun hb47 => ?_)
                  · replace hm := ifT hm hb47
                    refine WJ.seq ?_
                    refine WJ.quiet ?_
                    refine QJ.step (YldS.yld (y_assign rfl)) rfl ?_
                    refine QJ.done ?_
                    refine PJ.next ?_
                    refine WJ.ret ?_
                    refine PJ.block_ret (PJ.then_ret (PJ.then_ret (PJ.block_ret (PJ.then_ret (PJ.block_ret (PJ.then_ret (PJ.then_ret (PJ.block_ret (PJ.then_ret ?_)))))))))
                    obtain rfl := Option.some.inj hm
                    refine PJ.sel (L' := []) [] ⟨List.nodup_nil, rfl⟩ ?_
                    exact PJ.retn (vs := [.bool false]) Tryd.results28 ⟨rfl, trivial⟩ ⟨rfl, rfl⟩
                  · replace hm := ifF hm hb47
                    refine WJ.skip ?_
                    refine PJ.block_normal (PJ.next ?_)
                    refine WJ.quiet ?_
                    refine QJ.step (YldS.yld (y_move rfl)) rfl ?_
                    refine QJ.step (YldS.yld (y_bin rfl rfl rfl)) rfl ?_
                    refine QJ.step (YldS.yld (y_assign rfl)) rfl ?_
                    refine QJ.done ?_
                    exact PJ.round (w64 (k40 + 1)) [] hm ⟨rfl, rfl, rfl, rfl, rfl, trivial⟩ ⟨List.nodup_nil, rfl⟩
                · replace hm := ifF hm hb41
                  refine WJ.exit ?_
                  refine PJ.then_exit (PJ.then_exit (PJ.block_exit ?_))
                  exact PJ.joined () [] hm ⟨rfl, rfl, rfl, rfl, trivial⟩ ⟨List.nodup_nil, rfl⟩
            · rintro _ hm
              subst hk39
              refine WJ.seq ?_
              refine WJ.quiet ?_
              refine QJ.step (YldS.yld (y_move rfl)) rfl ?_
              refine QJ.step (YldS.yld (y_nil rfl)) rfl ?_
              refine QJ.step (YldS.yld (y_fld (ad := ad12) fld46_4 rfl)) rfl ?_
              refine QJ.step (YldS.yld (y_load1 (v := .int .i64 e10.instead) Tryd.isAgg2 (ha13.sub 4 1) St.frozenC rfl)) rfl ?_
              refine QJ.step (YldS.yld (y_assign rfl)) rfl ?_
              refine QJ.done ?_
              refine PJ.next ?_
              refine WJ.seq ?_
              refine WJ.quiet ?_
              refine QJ.step (YldS.yld (y_assign rfl)) rfl ?_
              refine QJ.done ?_
              refine PJ.next ?_
              refine WJ.block ?_
              refine WJ.sel (L' := (fun (x : Int × Int) => []) (e10.instead, 0)) [] ⟨List.nodup_nil, rfl⟩ ?_
              refine WJ.sub (m' := (fun (x : Int × Int) => [(0, v2), (3, .int .i64 (List.length list1 : Int)), (4, .int .i64 i6), (7, .int .i64 x.1), (8, .int .i64 x.2)]) (e10.instead, 0)) ⟨rfl, rfl, rfl, rfl, rfl, trivial⟩ ?_
              refine WJ.loop (X := Int × Int) (fun N (x : Int × Int) => s_l24Ok_l3 kj8 list1 N x.1 x.2 = some r) (fun (x : Int × Int) => [(0, v2), (3, .int .i64 (List.length list1 : Int)), (4, .int .i64 i6), (7, .int .i64 x.1), (8, .int .i64 x.2)]) (fun (x : Int × Int) => []) ?_ N (e10.instead, 0) hm
              · rintro N ⟨at48, steps49⟩ hI
                have hm := hI; clear hI
                cases N with
                | zero => cases hm
                | succ N =>
                unfold s_l24Ok_l3 at hm
                refine WJ.seq ?_
                refine WJ.seq ?_
                refine WJ.quiet ?_
                refine QJ.step (YldS.yld (y_move rfl)) rfl ?_
                refine QJ.step (YldS.yld (y_bin rfl rfl rfl)) rfl ?_
                refine QJ.done ?_
                refine PJ.next ?_
                refine WJ.cond (t := decide (at48 ≥ 0)) rfl (fun hb50 => ?_) (fun hb50 => ?_)
                · replace hm := ifT hm hb50
                  refine WJ.skip ?_
                  refine PJ.next ?_
                  refine WJ.seq ?_
                  refine WJ.block ?_
                  refine WJ.seq ?_
                  refine WJ.seq ?_
                  refine WJ.quiet ?_
                  refine QJ.step (YldS.yld (y_move rfl)) rfl ?_
                  refine QJ.step (YldS.yld (y_move rfl)) rfl ?_
                  refine QJ.step (YldS.yld (y_bin rfl rfl rfl)) rfl ?_
                  refine QJ.step (YldS.yld (y_move rfl)) rfl ?_
                  obtain ⟨t51, h52, hm⟩ := bindS hm
                  refine QJ.cut 6 [(0, v2), (3, .int .i64 (List.length list1 : Int)), (4, .int .i64 i6), (7, .int .i64 at48), (8, .int .i64 steps49), (92, .bool t51)] ?_ ?_
                  · rcases Bool.eq_false_or_eq_true (decide (steps49 > (List.length list1 : Int))) with hb53 | hb53
                    · obtain rfl := orT h52 hb53
                      refine QJ.off rfl rfl (cB hb53) rfl rfl ?_
                      refine QJ.off rfl rfl (cB hb53) rfl rfl ?_
                      refine QJ.off rfl rfl (cB hb53) rfl rfl ?_
                      refine QJ.off rfl rfl (cB hb53) rfl rfl ?_
                      refine QJ.off rfl rfl (cB hb53) rfl rfl ?_
                      refine QJ.step (YldS.yld (y_pick_t (cB hb53) rfl)) rfl ?_
                      exact QJ.cut_end ⟨rfl, rfl, rfl, rfl, rfl, rfl, trivial⟩
                    · replace h52 := orF h52 hb53
                      refine QJ.on rfl rfl (cB hb53) (YldS.yld (y_move rfl)) rfl ?_
                      refine QJ.on rfl rfl (cB hb53) (YldS.yld (y_move rfl)) rfl ?_
                      refine QJ.on rfl rfl (cB hb53) (YldS.yld (y_bin rfl rfl rfl)) rfl ?_
                      obtain ⟨r54, h55, h52⟩ := bindS h52
                      refine QJ.on rfl rfl (cB hb53) (y_call Tryd.call29 rfl (RetG.quiet fun w hw => ok_s_l00In h55 w )) rfl ?_
                      refine QJ.on rfl rfl (cB hb53) (YldS.yld (y_not rfl)) rfl ?_
                      refine QJ.step (YldS.yld (y_pick_f (cB hb53) rfl)) rfl ?_
                      obtain rfl := Option.some.inj h52
                      exact QJ.cut_end ⟨rfl, rfl, rfl, rfl, rfl, rfl, trivial⟩
                  refine QJ.done ?_
                  refine PJ.next ?_
                  refine WJ.cond (t := t51) rfl (fun hb56 => ?_) (fun hb56 => ?_)
                  · replace hm := ifT hm hb56
                    refine WJ.seq ?_
                    refine WJ.quiet ?_
                    refine QJ.step (YldS.yld (y_assign rfl)) rfl ?_
                    refine QJ.done ?_
                    refine PJ.next ?_
                    refine WJ.ret ?_
                    refine PJ.then_ret (PJ.block_ret (PJ.then_ret (PJ.then_ret (PJ.block_ret (PJ.block_ret (PJ.then_ret (PJ.then_ret (PJ.block_ret (PJ.then_ret ?_)))))))))
                    obtain rfl := Option.some.inj hm
                    refine PJ.sel (L' := []) [] ⟨List.nodup_nil, rfl⟩ ?_
                    exact PJ.retn (vs := [.bool false]) Tryd.results28 ⟨rfl, trivial⟩ ⟨rfl, rfl⟩
                  · replace hm := ifF hm hb56
                    refine WJ.skip ?_
                    refine PJ.next ?_
                    refine WJ.quiet ?_
                    refine QJ.step (YldS.yld (y_move rfl)) rfl ?_
                    refine QJ.step (YldS.yld (y_move rfl)) rfl ?_
                    obtain ⟨e57, h58, hm⟩ := bindS hm
                    obtain ⟨ad59, _, rfl, ha60, hy61⟩ := hr3.elem h58
                    refine QJ.step (YldS.yld (hy61 Tryd.runUnderlying25 Tryd.sizeOf46 rfl rfl)) rfl ?_
                    refine QJ.step (YldS.yld (y_fld (ad := ad59) fld46_4 rfl)) rfl ?_
                    refine QJ.step (YldS.yld (y_load1 (v := .int .i64 e57.instead) Tryd.isAgg2 (ha60.sub 4 1) St.frozenC rfl)) rfl ?_
                    refine QJ.step (YldS.yld (y_assign rfl)) rfl ?_
                    refine QJ.done ?_
                    refine PJ.block_normal (PJ.next ?_)
                    refine WJ.quiet ?_
                    refine QJ.step (YldS.yld (y_move rfl)) rfl ?_
                    refine QJ.step (YldS.yld (y_bin rfl rfl rfl)) rfl ?_
                    refine QJ.step (YldS.yld (y_assign rfl)) rfl ?_
                    refine QJ.done ?_
                    exact PJ.round (e57.instead, w64 (steps49 + 1)) [] hm ⟨rfl, rfl, rfl, rfl, rfl, trivial⟩ ⟨List.nodup_nil, rfl⟩
                · replace hm := ifF hm hb50
                  refine WJ.exit ?_
                  refine PJ.then_exit (PJ.then_exit (PJ.block_exit (PJ.block_normal ?_)))
                  exact PJ.joined () [] hm ⟨rfl, rfl, rfl, trivial⟩ ⟨List.nodup_nil, rfl⟩
        · rintro _ hm
          subst hk9
          refine WJ.quiet ?_
          refine QJ.step (YldS.yld (y_move rfl)) rfl ?_
          refine QJ.step (YldS.yld (y_bin rfl rfl rfl)) rfl ?_
          refine QJ.step (YldS.yld (y_assign rfl)) rfl ?_
          refine QJ.done ?_
          exact PJ.round (w64 (i6 + 1)) [] hm ⟨rfl, rfl, rfl, trivial⟩ ⟨List.nodup_nil, rfl⟩
      · replace hm := ifF hm hb7
        refine WJ.exit ?_
        refine PJ.then_exit (PJ.then_exit (PJ.block_exit ?_))
        exact PJ.joined () [] hm ⟨rfl, trivial⟩ ⟨List.nodup_nil, rfl⟩
  · rintro _ hm
    subst hk5
    refine WJ.seq ?_
    refine WJ.quiet ?_
    refine QJ.step (YldS.yld (y_move rfl)) rfl ?_
    refine QJ.step (YldS.yld (y_bin rfl rfl rfl)) rfl ?_
    refine QJ.step (YldS.yld (y_assign rfl)) rfl ?_
    refine QJ.done ?_
    refine PJ.next ?_
    refine WJ.ret ?_
    obtain rfl := Option.some.inj hm
    refine PJ.sel (L' := []) [] ⟨List.nodup_nil, rfl⟩ ?_
    exact PJ.retn (vs := [.bool (decide ((List.length list1 : Int) ≤ 40))]) Tryd.results28 ⟨rfl, trivial⟩ ⟨rfl, rfl⟩

set_option maxRecDepth 100000 in
set_option maxHeartbeats 1000000 in
theorem ok_s_l01Dec {N : Nat} {n1 : Int} {r : Str} (hm : s_l01Dec N n1 = some r) (w : World)  :
    Calls Tryd.prog 30 #[.int .i64 n1] w (Ret (cx w) (str r)) := by
  unfold s_l01Dec at hm
  refine Calls.enter [.int .i64 n1] Tryd.func30 rfl Tryd.ntmps30 rfl ?_
  refine WJ.seq ?_
  refine WJ.quiet ?_
  refine QJ.step (YldS.yld (y_assign rfl)) rfl ?_
  refine QJ.done ?_
  refine PJ.next ?_
  refine WJ.seq ?_
  refine WJ.reg ?_
  refine SJ.buildSlice (R := fByte) (os := []) [] Tryd.runUnderlying29 Tryd.sizeOf5 Tryd.zeroValue5 rfl rfl rfl rfl rfl rfl fun v2 => ?_
  refine SJ.q (YldS.yld (y_assign rfl)) rfl ?_
  refine SJ.nil ?_
  refine PJ.next ?_
  obtain ⟨kj5, hk6, hm⟩ := withK_open hm
  refine WJ.join (X := (List UInt8) × Value) (fun (x : (List UInt8) × Value) => kj5 x.1 = some r) (fun (x : (List UInt8) × Value) => [(0, .int .i64 n1), (3, x.2)]) (fun (x : (List UInt8) × Value) => [row x.2 5 fByte x.1]) ?_ ?_
  · clear hk6
    refine WJ.seq ?_
    refine WJ.quiet ?_
    refine QJ.step (YldS.yld (y_move rfl)) rfl ?_
    refine QJ.step (YldS.yld (y_assign rfl)) rfl ?_
    refine QJ.done ?_
    refine PJ.next ?_
    refine WJ.block ?_
    refine WJ.sel (L' := (fun (x : (List UInt8) × Value × Int) => [row x.2.1 5 fByte x.1]) ([], v2, n1)) [0] ⟨by decide, rfl⟩ ?_
    refine WJ.sub (m' := (fun (x : (List UInt8) × Value × Int) => [(0, .int .i64 n1), (3, x.2.1), (4, .int .i64 x.2.2)]) ([], v2, n1)) ⟨rfl, rfl, rfl, trivial⟩ ?_
    refine WJ.loop (X := (List UInt8) × Value × Int) (fun N (x : (List UInt8) × Value × Int) => s_l01Dec_l1 kj5 N x.1 x.2.2 = some r) (fun (x : (List UInt8) × Value × Int) => [(0, .int .i64 n1), (3, x.2.1), (4, .int .i64 x.2.2)]) (fun (x : (List UInt8) × Value × Int) => [row x.2.1 5 fByte x.1]) ?_ N ([], v2, n1) hm
    · rintro N ⟨l7, v8, k9⟩ hI
      have hm := hI; clear hI
      cases N with
      | zero => cases hm
      | succ N =>
      unfold s_l01Dec_l1 at hm
      refine WJ.seq ?_
      refine WJ.seq ?_
      refine WJ.quiet ?_
      refine QJ.step (YldS.yld (y_move rfl)) rfl ?_
      refine QJ.step (YldS.yld (y_bin rfl rfl rfl)) rfl ?_
      refine QJ.done ?_
      refine PJ.next ?_
      refine WJ.cond (t := (k9 != 0)) rfl (fun hb10 => ?_) (fun hb10 => ?_)
      · replace hm := ifT hm hb10
        refine WJ.skip ?_
        refine PJ.next ?_
        refine WJ.seq ?_
        refine WJ.block ?_
        refine WJ.seq ?_
        refine WJ.quiet ?_
        refine QJ.step (YldS.yld (y_move rfl)) rfl ?_
        refine QJ.step (YldS.yld (y_rem rfl rfl (by decide))) rfl ?_
        refine QJ.step (YldS.yld (y_assign rfl)) rfl ?_
        refine QJ.done ?_
        refine PJ.next ?_
        obtain ⟨kj12, hk13, hm⟩ := withK_open hm
        refine WJ.join (X := Int) (fun (x : Int) => kj12 x = some r) (fun (x : Int) => [(0, .int .i64 n1), (3, v8), (4, .int .i64 k9), (5, .int .i64 x)]) (fun (x : Int) => [row v8 5 fByte l7]) ?_ ?_
        · clear hk13
          refine WJ.seq ?_
          refine WJ.quiet ?_
          refine QJ.step (YldS.yld (y_move rfl)) rfl ?_
          refine QJ.step (YldS.yld (y_bin rfl rfl rfl)) rfl ?_
          refine QJ.done ?_
          refine PJ.next ?_
          refine WJ.cond (t := decide ((Int.tmod k9 10) < 0)) rfl (fun hb14 => ?_) (fun hb14 => ?_)
          · replace hm := ifT hm hb14
            refine WJ.quiet ?_
            refine QJ.step (YldS.yld (y_move rfl)) rfl ?_
            refine QJ.step (YldS.yld (y_neg rfl)) rfl ?_
            refine QJ.step (YldS.yld (y_assign rfl)) rfl ?_
            refine QJ.done ?_
            exact PJ.joined (w64 (0 - (Int.tmod k9 10))) [0] hm ⟨rfl, rfl, rfl, rfl, trivial⟩ ⟨by decide, rfl⟩
          · replace hm := ifF hm hb14
            refine WJ.skip ?_
            exact PJ.joined (Int.tmod k9 10) [0] hm ⟨rfl, rfl, rfl, rfl, trivial⟩ ⟨by decide, rfl⟩
        · rintro d11 hm
          subst hk13
          refine WJ.reg ?_
          refine SJ.q (YldS.yld (y_move rfl)) rfl ?_
          refine SJ.q (YldS.yld (y_bin rfl rfl rfl)) rfl ?_
          refine SJ.q (YldS.yld (y_convTo8 Tryd.runUnderlying2 Tryd.runUnderlying5 rfl)) rfl ?_
          refine SJ.buildSlice (R := fByte) (os := [.tmp 20]) [UInt8.ofInt (w64 (48 + d11))] Tryd.runUnderlying29 Tryd.sizeOf5 Tryd.zeroValue5 rfl rfl rfl rfl rfl rfl fun v15 => ?_
          refine SJ.q (YldS.yld (y_move rfl)) rfl ?_
          obtain ⟨l16, h17, hm⟩ := bindS hm
          refine SJ.append (k := 0) (R := fByte) h17 rfl Tryd.underlying29 el5 rfl rfl rfl (fun w hw => (hw.row_rd (k := 1) rfl)) rfl fun v18 => ?_
          refine SJ.q (YldS.yld (y_assign rfl)) rfl ?_
          refine SJ.nil ?_
          refine PJ.block_normal (PJ.next ?_)
          refine WJ.quiet ?_
          refine QJ.step (YldS.yld (y_move rfl)) rfl ?_
          refine QJ.step (YldS.yld (y_quo rfl rfl (by decide))) rfl ?_
          refine QJ.step (YldS.yld (y_assign rfl)) rfl ?_
          refine QJ.done ?_
          exact PJ.round (l16, v18, w64 (Int.tdiv k9 10)) [0] hm ⟨rfl, rfl, rfl, trivial⟩ ⟨by decide, rfl⟩
      · replace hm := ifF hm hb10
        refine WJ.exit ?_
        refine PJ.then_exit (PJ.then_exit (PJ.block_exit ?_))
        exact PJ.joined (l7, v8) [0] hm ⟨rfl, rfl, trivial⟩ ⟨by decide, rfl⟩
  · rintro ⟨l3, v4⟩ hm
    subst hk6
    refine WJ.seq ?_
    refine WJ.seq ?_
    refine WJ.quiet ?_
    refine QJ.step (YldS.yld (y_move rfl)) rfl ?_
    refine QJ.step (YldS.yld (y_lenRow (k := 0) rfl Tryd.runUnderlying29 rfl)) rfl ?_
    refine QJ.step (YldS.yld (y_bin rfl rfl rfl)) rfl ?_
    refine QJ.done ?_
    refine PJ.next ?_
    refine WJ.cond (t := ((List.length l3 : Int) == 0)) rfl (fun hb19 => ?_) (fun hb19 => ?_)
    · replace hm := ifT hm hb19
      refine WJ.seq ?_
      refine WJ.quiet ?_
      refine QJ.step (YldS.yld (y_assign rfl)) rfl ?_
      refine QJ.done ?_
      refine PJ.next ?_
      refine WJ.ret ?_
      refine PJ.then_ret ?_
      obtain rfl := Option.some.inj hm
      refine PJ.sel (L' := []) [] ⟨List.nodup_nil, rfl⟩ ?_
      exact PJ.retn (vs := [str [48]]) Tryd.results30 ⟨rfl, trivial⟩ ⟨rfl, rfl⟩
    · replace hm := ifF hm hb19
      refine WJ.skip ?_
      refine PJ.next ?_
      refine WJ.seq ?_
      refine WJ.seq ?_
      refine WJ.quiet ?_
      refine QJ.step (YldS.yld (y_move rfl)) rfl ?_
      refine QJ.step (YldS.yld (y_bin rfl rfl rfl)) rfl ?_
      refine QJ.done ?_
      refine PJ.next ?_
      refine WJ.cond (t := decide (n1 < 0)) rfl (fun hb20 => ?_) (fun hb20 => ?_)
      · replace hm := ifT hm hb20
        refine WJ.seq ?_
        refine WJ.quiet ?_
        refine QJ.step (YldS.yld (y_move rfl)) rfl ?_
        refine QJ.step (YldS.yld (y_b2s Tryd.underlying29 Tryd.underlying9 Tryd.underlying5 (fun w hw => ⟨_, (hw.row_rd (k := 0) rfl)⟩) rfl)) rfl ?_
        obtain ⟨s21, h22, hm⟩ := bindS hm
        refine QJ.step (YldS.yld (y_cat h22 rfl rfl)) rfl ?_
        refine QJ.step (YldS.yld (y_assign rfl)) rfl ?_
        refine QJ.done ?_
        refine PJ.next ?_
        refine WJ.ret ?_
        refine PJ.then_ret ?_
        obtain rfl := Option.some.inj hm
        refine PJ.sel (L' := []) [] ⟨List.nodup_nil, rfl⟩ ?_
        exact PJ.retn (vs := [str s21]) Tryd.results30 ⟨rfl, trivial⟩ ⟨rfl, rfl⟩
      · replace hm := ifF hm hb20
        refine WJ.skip ?_
        refine PJ.next ?_
        refine WJ.seq ?_
        refine WJ.quiet ?_
        refine QJ.step (YldS.yld (y_move rfl)) rfl ?_
        refine QJ.step (YldS.yld (y_b2s Tryd.underlying29 Tryd.underlying9 Tryd.underlying5 (fun w hw => ⟨_, (hw.row_rd (k := 0) rfl)⟩) rfl)) rfl ?_
        refine QJ.step (YldS.yld (y_assign rfl)) rfl ?_
        refine QJ.done ?_
        refine PJ.next ?_
        refine WJ.ret ?_
        obtain rfl := Option.some.inj hm
        refine PJ.sel (L' := []) [] ⟨List.nodup_nil, rfl⟩ ?_
        exact PJ.retn (vs := [str l3]) Tryd.results30 ⟨rfl, trivial⟩ ⟨rfl, rfl⟩

set_option maxRecDepth 100000 in
set_option maxHeartbeats 1000000 in
theorem ok_s_PartText {N : Nat} {list1 : List SparePart} {k4 : Int} {r : Str} (hm : s_PartText N list1 k4 = some r) (w : World) (v2 : Value) (hr3 : RdS w (cx w).Fz v2 fSparePart.rp list1) :
    Calls Tryd.prog 6 #[v2, .int .i64 k4] w (Ret (cx w) (str r)) := by
  unfold s_PartText at hm
  refine Calls.enter [v2, .int .i64 k4] Tryd.func6 rfl Tryd.ntmps6 rfl ?_
  refine WJ.seq ?_
  refine WJ.quiet ?_
  refine QJ.step (YldS.yld (y_assign rfl)) rfl ?_
  refine QJ.done ?_
  refine PJ.next ?_
  refine WJ.seq ?_
  refine WJ.seq ?_
  refine WJ.quiet ?_
  refine QJ.step (YldS.yld (y_move rfl)) rfl ?_
  obtain ⟨r5, h6, hm⟩ := bindS hm
  refine QJ.step (y_call Tryd.call28 rfl (RetG.quiet fun w hw => ok_s_l24Ok h6 w _ (hr3.st hw))) rfl ?_
  refine QJ.step (YldS.yld (y_not rfl)) rfl ?_
  refine QJ.step (YldS.yld (y_move rfl)) rfl ?_
  obtain ⟨t7, h8, hm⟩ := bindS hm
  refine QJ.cut 7 [(0, v2), (1, .int .i64 k4), (17, .bool t7)] ?_ ?_
  · rcases Bool.eq_false_or_eq_true (!r5) with hb9 | hb9
    · obtain rfl := orT h8 hb9
      refine QJ.off rfl rfl (cB hb9) rfl rfl ?_
      refine QJ.off rfl rfl (cB hb9) rfl rfl ?_
      refine QJ.off rfl rfl (cB hb9) rfl rfl ?_
      refine QJ.off rfl rfl (cB hb9) rfl rfl ?_
      refine QJ.off rfl rfl (cB hb9) rfl rfl ?_
      refine QJ.off rfl rfl (cB hb9) rfl rfl ?_
      refine QJ.step (YldS.yld (y_pick_t (cB hb9) rfl)) rfl ?_
      exact QJ.cut_end ⟨rfl, rfl, rfl, trivial⟩
    · replace h8 := orF h8 hb9
      refine QJ.on rfl rfl (cB hb9) (YldS.yld (y_move rfl)) rfl ?_
      refine QJ.on rfl rfl (cB hb9) (YldS.yld (y_move rfl)) rfl ?_
      refine QJ.on rfl rfl (cB hb9) (YldS.yld (y_lenS Tryd.runUnderlying25 hr3 rfl)) rfl ?_
      refine QJ.on rfl rfl (cB hb9) (YldS.yld (y_bin rfl rfl rfl)) rfl ?_
      obtain ⟨r10, h11, h8⟩ := bindS h8
      refine QJ.on rfl rfl (cB hb9) (y_call Tryd.call29 rfl (RetG.quiet fun w hw => ok_s_l00In h11 w )) rfl ?_
      refine QJ.on rfl rfl (cB hb9) (YldS.yld (y_not rfl)) rfl ?_
      refine QJ.step (YldS.yld (y_pick_f (cB hb9) rfl)) rfl ?_
      obtain rfl := Option.some.inj h8
      exact QJ.cut_end ⟨rfl, rfl, rfl, trivial⟩
  refine QJ.done ?_
  refine PJ.next ?_
  refine WJ.cond (t := t7) rfl (fun hb12 => ?_) (fun hb12 => ?_)
  · replace hm := ifT hm hb12
    refine WJ.seq ?_
    refine WJ.quiet ?_
    refine QJ.step (YldS.yld (y_assign rfl)) rfl ?_
    refine QJ.done ?_
    refine PJ.next ?_
    refine WJ.ret ?_
    refine PJ.then_ret ?_
    obtain rfl := Option.some.inj hm
    refine PJ.sel (L' := []) [] ⟨List.nodup_nil, rfl⟩ ?_
    exact PJ.retn (vs := [str []]) Tryd.results6 ⟨rfl, trivial⟩ ⟨rfl, rfl⟩
  · replace hm := ifF hm hb12
    refine WJ.skip ?_
    refine PJ.next ?_
    refine WJ.seq ?_
    refine WJ.quiet ?_
    refine QJ.step (YldS.yld (y_move rfl)) rfl ?_
    refine QJ.step (YldS.yld (y_move rfl)) rfl ?_
    obtain ⟨e13, h14, hm⟩ := bindS hm
    obtain ⟨ad15, _, rfl, ha16, hy17⟩ := hr3.elem h14
    refine QJ.step (YldS.yld (hy17 Tryd.runUnderlying25 Tryd.sizeOf46 rfl rfl)) rfl ?_
    refine QJ.step (YldS.yld (y_assign rfl)) rfl ?_
    refine QJ.done ?_
    refine PJ.next ?_
    refine WJ.seq ?_
    refine WJ.quiet_draw follows (by kernel_rfl) ?_
    refine QJ.step (YldS.yld (y_move rfl)) rfl ?_
    refine QJ.step (YldS.yld (y_nil rfl)) rfl ?_
    refine QJ.step (YldS.yld (y_fld (ad := ad15) fld46_0 rfl)) rfl ?_
    refine QJ.step (YldS.yld (y_load1 (v := str e13.name) Tryd.isAgg9 (ha16.sub 0 1) St.frozenC rfl)) rfl ?_
    obtain ⟨s18, h19, hm⟩ := bindS hm
    refine QJ.step (YldS.yld (y_cat h19 rfl rfl)) rfl ?_
    refine QJ.step (YldS.yld (y_move rfl)) rfl ?_
    refine QJ.step (YldS.yld (y_nil rfl)) rfl ?_
    refine QJ.step (YldS.yld (y_fld (ad := ad15) fld46_1 rfl)) rfl ?_
    refine QJ.step (YldS.yld (y_load1 (v := .int .i64 e13.stock) Tryd.isAgg2 (ha16.sub 1 1) St.frozenC rfl)) rfl ?_
    obtain ⟨r20, h21, hm⟩ := bindS hm
    refine QJ.step (y_call Tryd.call30 rfl (RetG.quiet fun w hw => ok_s_l01Dec h21 w )) rfl ?_
    obtain ⟨s22, h23, hm⟩ := bindS hm
    refine QJ.step (YldS.yld (y_cat h23 rfl rfl)) rfl ?_
    obtain ⟨s24, h25, hm⟩ := bindS hm
    refine QJ.step (YldS.yld (y_cat h25 rfl rfl)) rfl ?_
    refine QJ.step (YldS.yld (y_move rfl)) rfl ?_
    refine QJ.step (YldS.yld (y_nil rfl)) rfl ?_
    refine QJ.step (YldS.yld (y_fld (ad := ad15) fld46_2 rfl)) rfl ?_
    refine QJ.step (YldS.yld (y_load1 (v := .int .i64 e13.target) Tryd.isAgg2 (ha16.sub 2 1) St.frozenC rfl)) rfl ?_
    obtain ⟨r26, h27, hm⟩ := bindS hm
    refine QJ.step (y_call Tryd.call30 rfl (RetG.quiet fun w hw => ok_s_l01Dec h27 w )) rfl ?_
    obtain ⟨s28, h29, hm⟩ := bindS hm
    refine QJ.step (YldS.yld (y_cat h29 rfl rfl)) rfl ?_
    obtain ⟨s30, h31, hm⟩ := bindS hm
    refine QJ.step (YldS.yld (y_cat h31 rfl rfl)) rfl ?_
    refine QJ.step (YldS.yld (y_move rfl)) rfl ?_
    refine QJ.step (YldS.yld (y_nil rfl)) rfl ?_
    refine QJ.step (YldS.yld (y_fld (ad := ad15) fld46_3 rfl)) rfl ?_
    refine QJ.step (YldS.yld (y_load1 (v := .int .i64 e13.days) Tryd.isAgg2 (ha16.sub 3 1) St.frozenC rfl)) rfl ?_
    obtain ⟨r32, h33, hm⟩ := bindS hm
    refine QJ.step (y_call Tryd.call30 rfl (RetG.quiet fun w hw => ok_s_l01Dec h33 w )) rfl ?_
    obtain ⟨s34, h35, hm⟩ := bindS hm
    refine QJ.step (YldS.yld (y_cat h35 rfl rfl)) rfl ?_
    obtain ⟨s36, h37, hm⟩ := bindS hm
    refine QJ.step (YldS.yld (y_cat h37 rfl rfl)) rfl ?_
    refine QJ.step (YldS.yld (y_assign rfl)) rfl ?_
    refine QJ.done ?_
    refine PJ.next ?_
    obtain ⟨kj39, hk40, hm⟩ := withK_open hm
    refine WJ.join (X := Str) (fun (x : Str) => kj39 x = some r) (fun (x : Str) => [(6, str x)]) (fun (x : Str) => []) ?_ ?_
    · clear hk40
      refine WJ.seq ?_
      refine WJ.quiet ?_
      refine QJ.step (YldS.yld (y_move rfl)) rfl ?_
      refine QJ.step (YldS.yld (y_nil rfl)) rfl ?_
      refine QJ.step (YldS.yld (y_fld (ad := ad15) fld46_4 rfl)) rfl ?_
      refine QJ.step (YldS.yld (y_load1 (v := .int .i64 e13.instead) Tryd.isAgg2 (ha16.sub 4 1) St.frozenC rfl)) rfl ?_
      refine QJ.step (YldS.yld (y_bin rfl rfl rfl)) rfl ?_
      refine QJ.done ?_
      refine PJ.next ?_
      refine WJ.cond (t := decide (e13.instead ≥ 0)) rfl (fun hb41 => ?_) (fun hb41 => ?_)
      · replace hm := ifT hm hb41
        refine WJ.quiet ?_
        refine QJ.step (YldS.yld (y_move rfl)) rfl ?_
        refine QJ.step (YldS.yld (y_move rfl)) rfl ?_
        refine QJ.step (YldS.yld (y_move rfl)) rfl ?_
        refine QJ.step (YldS.yld (y_nil rfl)) rfl ?_
        refine QJ.step (YldS.yld (y_fld (ad := ad15) fld46_4 rfl)) rfl ?_
        refine QJ.step (YldS.yld (y_load1 (v := .int .i64 e13.instead) Tryd.isAgg2 (ha16.sub 4 1) St.frozenC rfl)) rfl ?_
        obtain ⟨e42, h43, hm⟩ := bindS hm
        obtain ⟨ad44, _, rfl, ha45, hy46⟩ := hr3.elem h43
        refine QJ.step (YldS.yld (hy46 Tryd.runUnderlying25 Tryd.sizeOf46 rfl rfl)) rfl ?_
        refine QJ.step (YldS.yld (y_fld (ad := ad44) fld46_0 rfl)) rfl ?_
        refine QJ.step (YldS.yld (y_load1 (v := str e42.name) Tryd.isAgg9 (ha45.sub 0 1) St.frozenC rfl)) rfl ?_
        obtain ⟨s47, h48, hm⟩ := bindS hm
        refine QJ.step (YldS.yld (y_cat h48 rfl rfl)) rfl ?_
        obtain ⟨s49, h50, hm⟩ := bindS hm
        refine QJ.step (YldS.yld (y_cat h50 rfl rfl)) rfl ?_
        refine QJ.step (YldS.yld (y_assign rfl)) rfl ?_
        refine QJ.done ?_
        exact PJ.joined s49 [] hm ⟨rfl, trivial⟩ ⟨List.nodup_nil, rfl⟩
      · replace hm := ifF hm hb41
        refine WJ.skip ?_
        exact PJ.joined s36 [] hm ⟨rfl, trivial⟩ ⟨List.nodup_nil, rfl⟩
    · rintro out38 hm
      subst hk40
      refine WJ.seq ?_
      refine WJ.quiet ?_
      refine QJ.step (YldS.yld (y_move rfl)) rfl ?_
      refine QJ.step (YldS.yld (y_assign rfl)) rfl ?_
      refine QJ.done ?_
      refine PJ.next ?_
      refine WJ.ret ?_
      obtain rfl := Option.some.inj hm
      refine PJ.sel (L' := []) [] ⟨List.nodup_nil, rfl⟩ ?_
      exact PJ.retn (vs := [str out38]) Tryd.results6 ⟨rfl, trivial⟩ ⟨rfl, rfl⟩

set_option maxRecDepth 100000 in
set_option maxHeartbeats 1000000 in
theorem ok_i_isDigit {b1 : UInt8} {r : Bool} (hm : i_isDigit b1 = some r) (w : World)  :
    Calls Tryd.prog 52 #[.int .u8 (UInt8.toNat b1 : Int)] w (Ret (cx w) (.bool r)) := by
  unfold i_isDigit at hm
  refine Calls.enter [.int .u8 (UInt8.toNat b1 : Int)] Tryd.func52 rfl Tryd.ntmps52 rfl ?_
  refine WJ.seq ?_
  refine WJ.quiet ?_
  refine QJ.step (YldS.yld (y_assign rfl)) rfl ?_
  refine QJ.done ?_
  refine PJ.next ?_
  refine WJ.seq ?_
  refine WJ.quiet ?_
  refine QJ.step (YldS.yld (y_move rfl)) rfl ?_
  refine QJ.step (YldS.yld (y_bin8 b1 (48 : UInt8) rfl rfl rfl)) rfl ?_
  refine QJ.step (YldS.yld (y_move rfl)) rfl ?_
  obtain ⟨t2, h3, hm⟩ := bindS hm
  refine QJ.cut 3 [(8, .bool t2)] ?_ ?_
  · rcases Bool.eq_false_or_eq_true (decide (b1 ≥ (48 : UInt8))) with hb4 | hb4
    · replace h3 := andT h3 hb4
      refine QJ.on rfl rfl (cB hb4) (YldS.yld (y_move rfl)) rfl ?_
      refine QJ.on rfl rfl (cB hb4) (YldS.yld (y_bin8 b1 (57 : UInt8) rfl rfl rfl)) rfl ?_
      refine QJ.step (YldS.yld (y_pick_t (cB hb4) rfl)) rfl ?_
      obtain rfl := Option.some.inj h3
      exact QJ.cut_end ⟨rfl, trivial⟩
    · obtain rfl := andF h3 hb4
      refine QJ.off rfl rfl (cB hb4) rfl rfl ?_
      refine QJ.off rfl rfl (cB hb4) rfl rfl ?_
      refine QJ.step (YldS.yld (y_pick_f (cB hb4) rfl)) rfl ?_
      exact QJ.cut_end ⟨rfl, trivial⟩
  refine QJ.step (YldS.yld (y_assign rfl)) rfl ?_
  refine QJ.done ?_
  refine PJ.next ?_
  refine WJ.ret ?_
  obtain rfl := Option.some.inj hm
  refine PJ.sel (L' := []) [] ⟨List.nodup_nil, rfl⟩ ?_
  exact PJ.retn (vs := [.bool t2]) Tryd.results52 ⟨rfl, trivial⟩ ⟨rfl, rfl⟩

set_option maxRecDepth 100000 in
set_option maxHeartbeats 1000000 in
theorem ok_i_IsName {N : Nat} {s1 : Str} {r : Bool} (hm : i_IsName N s1 = some r) (w : World)  :
    Calls Tryd.prog 45 #[str s1] w (Ret (cx w) (.bool r)) := by
  unfold i_IsName at hm
  refine Calls.enter [str s1] Tryd.func45 rfl Tryd.ntmps45 rfl ?_
  refine WJ.seq ?_
  refine WJ.quiet ?_
  refine QJ.step (YldS.yld (y_assign rfl)) rfl ?_
  refine QJ.done ?_
  refine PJ.next ?_
  refine WJ.seq ?_
  refine WJ.seq ?_
  refine WJ.quiet ?_
  refine QJ.step (YldS.yld (y_move rfl)) rfl ?_
  refine QJ.step (YldS.yld (y_lenStr Tryd.runUnderlying9 rfl)) rfl ?_
  refine QJ.step (YldS.yld (y_bin rfl rfl rfl)) rfl ?_
  refine QJ.step (YldS.yld (y_move rfl)) rfl ?_
  obtain ⟨t2, h3, hm⟩ := bindS hm
  refine QJ.cut 4 [(0, str s1), (12, .bool t2)] ?_ ?_
  · rcases Bool.eq_false_or_eq_true ((List.length s1 : Int) == 0) with hb4 | hb4
    · obtain rfl := orT h3 hb4
      refine QJ.off rfl rfl (cB hb4) rfl rfl ?_
      refine QJ.off rfl rfl (cB hb4) rfl rfl ?_
      refine QJ.off rfl rfl (cB hb4) rfl rfl ?_
      refine QJ.step (YldS.yld (y_pick_t (cB hb4) rfl)) rfl ?_
      exact QJ.cut_end ⟨rfl, rfl, trivial⟩
    · replace h3 := orF h3 hb4
      refine QJ.on rfl rfl (cB hb4) (YldS.yld (y_move rfl)) rfl ?_
      refine QJ.on rfl rfl (cB hb4) (YldS.yld (y_lenStr Tryd.runUnderlying9 rfl)) rfl ?_
      refine QJ.on rfl rfl (cB hb4) (YldS.yld (y_bin rfl rfl rfl)) rfl ?_
      refine QJ.step (YldS.yld (y_pick_f (cB hb4) rfl)) rfl ?_
      obtain rfl := Option.some.inj h3
      exact QJ.cut_end ⟨rfl, rfl, trivial⟩
  refine QJ.done ?_
  refine PJ.next ?_
  refine WJ.cond (t := t2) rfl (fun hb5 => ?_) (fun hb5 => ?_)
  · replace hm := ifT hm hb5
    refine WJ.seq ?_
    refine WJ.quiet ?_
    refine QJ.step (YldS.yld (y_assign rfl)) rfl ?_
    refine QJ.done ?_
    refine PJ.next ?_
    refine WJ.ret ?_
    refine PJ.then_ret ?_
    obtain rfl := Option.some.inj hm
    refine PJ.sel (L' := []) [] ⟨List.nodup_nil, rfl⟩ ?_
    exact PJ.retn (vs := [.bool false]) Tryd.results45 ⟨rfl, trivial⟩ ⟨rfl, rfl⟩
  · replace hm := ifF hm hb5
    refine WJ.skip ?_
    refine PJ.next ?_
    obtain ⟨kj6, hk7, hm⟩ := withK_open hm
    refine WJ.join (X := Unit) (fun (_ : Unit) => kj6  = some r) (fun (_ : Unit) => []) (fun (_ : Unit) => []) ?_ ?_
    · clear hk7
      refine WJ.seq ?_
      refine WJ.quiet ?_
      refine QJ.step (YldS.yld (y_move rfl)) rfl ?_
      refine QJ.step (YldS.yld (y_lenStr Tryd.runUnderlying9 rfl)) rfl ?_
      refine QJ.step (YldS.yld (y_move rfl)) rfl ?_
      refine QJ.done ?_
      refine PJ.next ?_
      refine WJ.block ?_
      refine WJ.sel (L' := (fun (x : Int) => []) 0) [] ⟨List.nodup_nil, rfl⟩ ?_
      refine WJ.sub (m' := (fun (x : Int) => [(0, str s1), (14, .int .i64 (List.length s1 : Int)), (15, .int .i64 x)]) 0) ⟨rfl, rfl, rfl, trivial⟩ ?_
      refine WJ.loop (X := Int) (fun N (x : Int) => i_IsName_l1 kj6 s1 N x = some r) (fun (x : Int) => [(0, str s1), (14, .int .i64 (List.length s1 : Int)), (15, .int .i64 x)]) (fun (x : Int) => []) ?_ N 0 hm
      · rintro N x8 hI
        have hm := hI; clear hI
        cases N with
        | zero => cases hm
        | succ N =>
        unfold i_IsName_l1 at hm
        refine WJ.seq ?_
        refine WJ.quiet ?_
        refine QJ.step (YldS.yld (y_bin rfl rfl rfl)) rfl ?_
        refine QJ.done ?_
        refine PJ.next ?_
        refine WJ.seq ?_
        refine WJ.cond (t := decide (x8 < (List.length s1 : Int))) rfl (fun hb9 => ?_) (fun hb9 => ?_)
        · replace hm := ifT hm hb9
          refine WJ.skip ?_
          refine PJ.next ?_
          refine WJ.seq ?_
          refine WJ.block ?_
          refine WJ.seq ?_
          refine WJ.quiet ?_
          refine QJ.step (YldS.yld (y_move rfl)) rfl ?_
          refine QJ.step (YldS.yld (y_assign rfl)) rfl ?_
          refine QJ.done ?_
          refine PJ.next ?_
          refine WJ.seq ?_
          refine WJ.quiet ?_
          refine QJ.step (YldS.yld (y_move rfl)) rfl ?_
          refine QJ.step (YldS.yld (y_move rfl)) rfl ?_
          obtain ⟨c10, h11, hm⟩ := bindS hm
          refine QJ.step (YldS.yld (y_idxStr Tryd.runUnderlying9 rfl rfl h11)) rfl ?_
          refine QJ.step (YldS.yld (y_bin8 c10 (97 : UInt8) rfl rfl rfl)) rfl ?_
          refine QJ.step (YldS.yld (y_move rfl)) rfl ?_
          obtain ⟨t12, h13, hm⟩ := bindS hm
          refine QJ.cut 5 [(0, str s1), (3, .int .i64 x8), (14, .int .i64 (List.length s1 : Int)), (15, .int .i64 x8), (27, .bool t12)] ?_ ?_
          · rcases Bool.eq_false_or_eq_true (decide (c10 ≥ (97 : UInt8))) with hb14 | hb14
            · replace h13 := andT h13 hb14
              refine QJ.on rfl rfl (cB hb14) (YldS.yld (y_move rfl)) rfl ?_
              refine QJ.on rfl rfl (cB hb14) (YldS.yld (y_move rfl)) rfl ?_
              obtain ⟨c15, h16, h13⟩ := bindS h13
              refine QJ.on rfl rfl (cB hb14) (YldS.yld (y_idxStr Tryd.runUnderlying9 rfl rfl h16)) rfl ?_
              refine QJ.on rfl rfl (cB hb14) (YldS.yld (y_bin8 c15 (122 : UInt8) rfl rfl rfl)) rfl ?_
              refine QJ.step (YldS.yld (y_pick_t (cB hb14) rfl)) rfl ?_
              obtain rfl := Option.some.inj h13
              exact QJ.cut_end ⟨rfl, rfl, rfl, rfl, rfl, trivial⟩
            · obtain rfl := andF h13 hb14
              refine QJ.off rfl rfl (cB hb14) rfl rfl ?_
              refine QJ.off rfl rfl (cB hb14) rfl rfl ?_
              refine QJ.off rfl rfl (cB hb14) rfl rfl ?_
              refine QJ.off rfl rfl (cB hb14) rfl rfl ?_
              refine QJ.step (YldS.yld (y_pick_f (cB hb14) rfl)) rfl ?_
              exact QJ.cut_end ⟨rfl, rfl, rfl, rfl, rfl, trivial⟩
          refine QJ.step (YldS.yld (y_assign rfl)) rfl ?_
          refine QJ.done ?_
          refine PJ.next ?_
          refine WJ.seq ?_
          refine WJ.quiet ?_
          refine QJ.step (YldS.yld (y_move rfl)) rfl ?_
          refine QJ.step (YldS.yld (y_not rfl)) rfl ?_
          refine QJ.step (YldS.yld (y_move rfl)) rfl ?_
          obtain ⟨t17, h18, hm⟩ := bindS hm
          refine QJ.cut 16 [(0, str s1), (14, .int .i64 (List.length s1 : Int)), (15, .int .i64 x8), (46, .bool t17)] ?_ ?_
          · rcases Bool.eq_false_or_eq_true (!t12) with hb19 | hb19
            · replace h18 := andT h18 hb19
              refine QJ.on rfl rfl (cB hb19) (YldS.yld (y_move rfl)) rfl ?_
              refine QJ.on rfl rfl (cB hb19) (YldS.yld (y_bin rfl rfl rfl)) rfl ?_
              refine QJ.on rfl rfl (cB hb19) (YldS.yld (y_move rfl)) rfl ?_
              obtain ⟨t20, h21, h18⟩ := bindS h18
              refine QJ.cut 12 [(0, str s1), (14, .int .i64 (List.length s1 : Int)), (15, .int .i64 x8), (30, .bool (!t12)), (31, .int .i64 x8), (32, .bool (x8 == 0)), (33, .bool (x8 == 0)), (45, .bool t20)] ?_ ?_
              · rcases Bool.eq_false_or_eq_true (x8 == 0) with hb22 | hb22
                · obtain rfl := orT h21 hb22
                  refine QJ.off rfl rfl (cB hb22) rfl rfl ?_
                  refine QJ.off rfl rfl (cB hb22) rfl rfl ?_
                  refine QJ.off rfl rfl (cB hb22) rfl rfl ?_
                  refine QJ.off rfl rfl (cB hb22) rfl rfl ?_
                  refine QJ.off rfl rfl (cB hb22) rfl rfl ?_
                  refine QJ.off_undef rfl rfl rfl rfl ?_
                  refine QJ.off_undef rfl rfl rfl rfl ?_
                  refine QJ.off_undef rfl rfl rfl rfl ?_
                  refine QJ.off_undef rfl rfl rfl rfl ?_
                  refine QJ.off_undef rfl rfl rfl rfl ?_
                  refine QJ.off rfl rfl (cB hb22) rfl rfl ?_
                  refine QJ.on rfl rfl (cB hb19) (YldS.yld (y_pick_t (cB hb22) rfl)) rfl ?_
                  exact QJ.cut_end ⟨rfl, rfl, rfl, rfl, rfl, rfl, rfl, rfl, trivial⟩
                · replace h21 := orF h21 hb22
                  refine QJ.on rfl rfl (cB hb22) (YldS.yld (y_move rfl)) rfl ?_
                  refine QJ.on rfl rfl (cB hb22) (YldS.yld (y_move rfl)) rfl ?_
                  obtain ⟨c23, h24, h21⟩ := bindS h21
                  refine QJ.on rfl rfl (cB hb22) (YldS.yld (y_idxStr Tryd.runUnderlying9 rfl rfl h24)) rfl ?_
                  refine QJ.on rfl rfl (cB hb22) (YldS.yld (y_bin8 c23 (45 : UInt8) rfl rfl rfl)) rfl ?_
                  refine QJ.on rfl rfl (cB hb22) (YldS.yld (y_move rfl)) rfl ?_
                  obtain ⟨t25, h26, h21⟩ := bindS h21
                  refine QJ.cut 6 [(0, str s1), (14, .int .i64 (List.length s1 : Int)), (15, .int .i64 x8), (30, .bool (!t12)), (31, .int .i64 x8), (32, .bool (x8 == 0)), (33, .bool (x8 == 0)), (34, str s1), (35, .int .i64 x8), (36, .int .u8 (UInt8.toNat c23 : Int)), (37, .bool (c23 != (45 : UInt8))), (38, .bool (c23 != (45 : UInt8))), (44, .bool t25)] ?_ ?_
                  · rcases Bool.eq_false_or_eq_true (c23 != (45 : UInt8)) with hb27 | hb27
                    · replace h26 := andT h26 hb27
                      refine QJ.on rfl rfl (cB hb27) (YldS.yld (y_move rfl)) rfl ?_
                      refine QJ.on rfl rfl (cB hb27) (YldS.yld (y_move rfl)) rfl ?_
                      obtain ⟨c28, h29, h26⟩ := bindS h26
                      refine QJ.on rfl rfl (cB hb27) (YldS.yld (y_idxStr Tryd.runUnderlying9 rfl rfl h29)) rfl ?_
                      obtain ⟨r30, h31, h26⟩ := bindS h26
                      refine QJ.on rfl rfl (cB hb27) (y_call Tryd.call52 rfl (RetG.quiet fun w hw => ok_i_isDigit h31 w )) rfl ?_
                      refine QJ.on rfl rfl (cB hb27) (YldS.yld (y_not rfl)) rfl ?_
                      refine QJ.on rfl rfl (cB hb22) (YldS.yld (y_pick_t (cB hb27) rfl)) rfl ?_
                      obtain rfl := Option.some.inj h26
                      exact QJ.cut_end ⟨rfl, rfl, rfl, rfl, rfl, rfl, rfl, rfl, rfl, rfl, rfl, rfl, rfl, trivial⟩
                    · obtain rfl := andF h26 hb27
                      refine QJ.off rfl rfl (cB hb27) rfl rfl ?_
                      refine QJ.off rfl rfl (cB hb27) rfl rfl ?_
                      refine QJ.off rfl rfl (cB hb27) rfl rfl ?_
                      refine QJ.off rfl rfl (cB hb27) rfl rfl ?_
                      refine QJ.off rfl rfl (cB hb27) rfl rfl ?_
                      refine QJ.on rfl rfl (cB hb22) (YldS.yld (y_pick_f (cB hb27) rfl)) rfl ?_
                      exact QJ.cut_end ⟨rfl, rfl, rfl, rfl, rfl, rfl, rfl, rfl, rfl, rfl, rfl, rfl, rfl, trivial⟩
                  refine QJ.on rfl rfl (cB hb19) (YldS.yld (y_pick_f (cB hb22) rfl)) rfl ?_
                  obtain rfl := Option.some.inj h21
                  exact QJ.cut_end ⟨rfl, rfl, rfl, rfl, rfl, rfl, rfl, rfl, trivial⟩
              refine QJ.step (YldS.yld (y_pick_t (cB hb19) rfl)) rfl ?_
              obtain rfl := Option.some.inj h18
              exact QJ.cut_end ⟨rfl, rfl, rfl, rfl, trivial⟩
            · obtain rfl := andF h18 hb19
              refine QJ.off rfl rfl (cB hb19) rfl rfl ?_
              refine QJ.off rfl rfl (cB hb19) rfl rfl ?_
              refine QJ.off rfl rfl (cB hb19) rfl rfl ?_
              refine QJ.off_undef rfl rfl rfl rfl ?_
              refine QJ.off_undef rfl rfl rfl rfl ?_
              refine QJ.off_undef rfl rfl rfl rfl ?_
              refine QJ.off_undef rfl rfl rfl rfl ?_
              refine QJ.off_undef rfl rfl rfl rfl ?_
              refine QJ.off_undef rfl rfl rfl rfl ?_
              refine QJ.off_undef rfl rfl rfl rfl ?_
              refine QJ.off_undef rfl rfl rfl rfl ?_
              refine QJ.off_undef rfl rfl rfl rfl ?_
              refine QJ.off_undef rfl rfl rfl rfl ?_
              refine QJ.off_undef rfl rfl rfl rfl ?_
              refine QJ.off rfl rfl (cB hb19) rfl rfl ?_
              refine QJ.step (YldS.yld (y_pick_f (cB hb19) rfl)) rfl ?_
              exact QJ.cut_end ⟨rfl, rfl, rfl, rfl, trivial⟩
          refine QJ.done ?_
          refine PJ.next ?_
          refine WJ.cond (t := t17) rfl (fun hb32 => ?_) (fun hb32 => ?_)
          · replace hm := ifT hm hb32
            refine WJ.seq ?_
            refine WJ.quiet ?_
            refine QJ.step (YldS.yld (y_assign rfl)) rfl ?_
            refine QJ.done ?_
            refine PJ.next ?_
            refine WJ.ret ?_
            refine PJ.block_ret (PJ.then_ret (PJ.then_ret (PJ.block_ret (PJ.then_ret ?_))))
            obtain rfl := Option.some.inj hm
            refine PJ.sel (L' := []) [] ⟨List.nodup_nil, rfl⟩ ?_
            exact PJ.retn (vs := [.bool false]) Tryd.results45 ⟨rfl, trivial⟩ ⟨rfl, rfl⟩
          · replace hm := ifF hm hb32
            refine WJ.skip ?_
            refine PJ.block_normal (PJ.next ?_)
            refine WJ.quiet ?_
            refine QJ.step (YldS.yld (y_bin rfl rfl rfl)) rfl ?_
            refine QJ.step (YldS.yld (y_move rfl)) rfl ?_
            refine QJ.done ?_
            exact PJ.round (w64 (x8 + 1)) [] hm ⟨rfl, rfl, rfl, trivial⟩ ⟨List.nodup_nil, rfl⟩
        · replace hm := ifF hm hb9
          refine WJ.exit ?_
          refine PJ.then_exit (PJ.then_exit (PJ.block_exit ?_))
          exact PJ.joined () [] hm trivial ⟨List.nodup_nil, rfl⟩
    · rintro _ hm
      subst hk7
      refine WJ.seq ?_
      refine WJ.quiet ?_
      refine QJ.step (YldS.yld (y_assign rfl)) rfl ?_
      refine QJ.done ?_
      refine PJ.next ?_
      refine WJ.ret ?_
      obtain rfl := Option.some.inj hm
      refine PJ.sel (L' := []) [] ⟨List.nodup_nil, rfl⟩ ?_
      exact PJ.retn (vs := [.bool true]) Tryd.results45 ⟨rfl, trivial⟩ ⟨rfl, rfl⟩

set_option maxRecDepth 100000 in
set_option maxHeartbeats 1000000 in
theorem ok_i_between {n1 : Int} {low2 : Int} {high3 : Int} {r : Bool} (hm : i_between n1 low2 high3 = some r) (w : World)  :
    Calls Tryd.prog 32 #[.int .i64 n1, .int .i64 low2, .int .i64 high3] w (Ret (cx w) (.bool r)) := by
  unfold i_between at hm
  refine Calls.enter [.int .i64 n1, .int .i64 low2, .int .i64 high3] Tryd.func32 rfl Tryd.ntmps32 rfl ?_
  refine WJ.seq ?_
  refine WJ.quiet ?_
  refine QJ.step (YldS.yld (y_assign rfl)) rfl ?_
  refine QJ.done ?_
  refine PJ.next ?_
  refine WJ.seq ?_
  refine WJ.quiet ?_
  refine QJ.step (YldS.yld (y_move rfl)) rfl ?_
  refine QJ.step (YldS.yld (y_move rfl)) rfl ?_
  refine QJ.step (YldS.yld (y_bin rfl rfl rfl)) rfl ?_
  refine QJ.step (YldS.yld (y_move rfl)) rfl ?_
  obtain ⟨t4, h5, hm⟩ := bindS hm
  refine QJ.cut 4 [(14, .bool t4)] ?_ ?_
  · rcases Bool.eq_false_or_eq_true (decide (n1 ≥ low2)) with hb6 | hb6
    · replace h5 := andT h5 hb6
      refine QJ.on rfl rfl (cB hb6) (YldS.yld (y_move rfl)) rfl ?_
      refine QJ.on rfl rfl (cB hb6) (YldS.yld (y_move rfl)) rfl ?_
      refine QJ.on rfl rfl (cB hb6) (YldS.yld (y_bin rfl rfl rfl)) rfl ?_
      refine QJ.step (YldS.yld (y_pick_t (cB hb6) rfl)) rfl ?_
      obtain rfl := Option.some.inj h5
      exact QJ.cut_end ⟨rfl, trivial⟩
    · obtain rfl := andF h5 hb6
      refine QJ.off rfl rfl (cB hb6) rfl rfl ?_
      refine QJ.off rfl rfl (cB hb6) rfl rfl ?_
      refine QJ.off rfl rfl (cB hb6) rfl rfl ?_
      refine QJ.step (YldS.yld (y_pick_f (cB hb6) rfl)) rfl ?_
      exact QJ.cut_end ⟨rfl, trivial⟩
  refine QJ.step (YldS.yld (y_assign rfl)) rfl ?_
  refine QJ.done ?_
  refine PJ.next ?_
  refine WJ.ret ?_
  obtain rfl := Option.some.inj hm
  refine PJ.sel (L' := []) [] ⟨List.nodup_nil, rfl⟩ ?_
  exact PJ.retn (vs := [.bool t4]) Tryd.results32 ⟨rfl, trivial⟩ ⟨rfl, rfl⟩

set_option maxRecDepth 100000 in
set_option maxHeartbeats 1000000 in
theorem ok_i_ValidParts {N : Nat} {list1 : List SparePart} {r : Bool} (hm : i_ValidParts N list1 = some r) (w : World) (v2 : Value) (hr3 : RdS w (cx w).Fz v2 fSparePart.rp list1) :
    Calls Tryd.prog 25 #[v2] w (Ret (cx w) (.bool r)) := by
  unfold i_ValidParts at hm
  refine Calls.enter [v2] Tryd.func25 rfl Tryd.ntmps25 rfl ?_
  refine WJ.seq ?_
  refine WJ.quiet ?_
  refine QJ.step (YldS.yld (y_assign rfl)) rfl ?_
  refine QJ.done ?_
  refine PJ.next ?_
  refine WJ.seq ?_
  refine WJ.seq ?_
  refine WJ.quiet ?_
  refine QJ.step (YldS.yld (y_move rfl)) rfl ?_
  refine QJ.step (YldS.yld (y_lenS Tryd.runUnderlying25 hr3 rfl)) rfl ?_
  refine QJ.step (YldS.yld (y_bin rfl rfl rfl)) rfl ?_
  refine QJ.done ?_
  refine PJ.next ?_
  refine WJ.cond (t := decide ((List.length list1 : Int) > 40)) rfl (fun hb4 => ?_) (fun hb4 => ?_)
  · replace hm := ifT hm hb4
    refine WJ.seq ?_
    refine WJ.quiet ?_
    refine QJ.step (YldS.yld (y_assign rfl)) rfl ?_
    refine QJ.done ?_
    refine PJ.next ?_
    refine WJ.ret ?_
    refine PJ.then_ret ?_
    obtain rfl := Option.some.inj hm
    refine PJ.sel (L' := []) [] ⟨List.nodup_nil, rfl⟩ ?_
    exact PJ.retn (vs := [.bool false]) Tryd.results25 ⟨rfl, trivial⟩ ⟨rfl, rfl⟩
  · replace hm := ifF hm hb4
    refine WJ.skip ?_
    refine PJ.next ?_
    refine WJ.seq ?_
    refine WJ.reg ?_
    refine SJ.makeMap rfl fun g5 => ?_
    refine SJ.q (YldS.yld (y_assign rfl)) rfl ?_
    refine SJ.nil ?_
    refine PJ.next ?_
    obtain ⟨kj6, hk7, hm⟩ := withK_open hm
    refine WJ.join (X := Unit) (fun (_ : Unit) => kj6  = some r) (fun (_ : Unit) => [(0, v2)]) (fun (_ : Unit) => []) ?_ ?_
    · clear hk7
      refine WJ.seq ?_
      refine WJ.quiet ?_
      refine QJ.step (YldS.yld (y_move rfl)) rfl ?_
      refine QJ.step (YldS.yld (y_lenS Tryd.runUnderlying25 hr3 rfl)) rfl ?_
      refine QJ.step (YldS.yld (y_move rfl)) rfl ?_
      refine QJ.done ?_
      refine PJ.next ?_
      refine WJ.block ?_
      refine WJ.sel (L' := (fun (x : (List (Str × Bool)) × Int) => [mp g5 x.1]) ([], 0)) [0] ⟨by decide, rfl⟩ ?_
      refine WJ.sub (m' := (fun (x : (List (Str × Bool)) × Int) => [(0, v2), (3, .map (some g5)), (13, v2), (14, .int .i64 (List.length list1 : Int)), (15, .int .i64 x.2)]) ([], 0)) ⟨rfl, rfl, rfl, rfl, rfl, trivial⟩ ?_
      refine WJ.loop (X := (List (Str × Bool)) × Int) (fun N (x : (List (Str × Bool)) × Int) => i_ValidParts_l1 kj6 list1 N x.1 x.2 = some r) (fun (x : (List (Str × Bool)) × Int) => [(0, v2), (3, .map (some g5)), (13, v2), (14, .int .i64 (List.length list1 : Int)), (15, .int .i64 x.2)]) (fun (x : (List (Str × Bool)) × Int) => [mp g5 x.1]) ?_ N ([], 0) hm
      · rintro N ⟨mp8, x9⟩ hI
        have hm := hI; clear hI
        cases N with
        | zero => cases hm
        | succ N =>
        unfold i_ValidParts_l1 at hm
        refine WJ.seq ?_
        refine WJ.quiet ?_
        refine QJ.step (YldS.yld (y_bin rfl rfl rfl)) rfl ?_
        refine QJ.done ?_
        refine PJ.next ?_
        refine WJ.seq ?_
        refine WJ.cond (t := decide (x9 < (List.length list1 : Int))) rfl (fun hb10 => ?_) (fun hb10 => ?_)
        · replace hm := ifT hm hb10
          refine WJ.skip ?_
          refine PJ.next ?_
          refine WJ.seq ?_
          refine WJ.block ?_
          refine WJ.seq ?_
          refine WJ.reg ?_
          obtain ⟨e11, h12, hm⟩ := bindS hm
          obtain ⟨ad13, _, rfl, ha14, hy15⟩ := hr3.elem h12
          refine SJ.q (YldS.yld (hy15 Tryd.runUnderlying25 Tryd.sizeOf46 rfl rfl)) rfl ?_
          refine SJ.q (YldS.yld (y_loadN Tryd.isAgg46 Tryd.sizeOf46 rfl ha14 St.frozenC rfl)) rfl ?_
          refine SJ.alloc (cs := [str [], .int .i64 0, .int .i64 0, .int .i64 0, .int .i64 0]) Tryd.zeroValue46 rfl rfl fun g16 => ?_
          refine SJ.storeL (k := 0) (off := 0) (us := [str e11.name, .int .i64 e11.stock, .int .i64 e11.target, .int .i64 e11.days, .int .i64 e11.instead]) rfl rfl rfl rfl Tryd.sizeOf46 rfl rfl ?_
          refine SJ.nil ?_
          refine PJ.next ?_
          refine WJ.seq ?_
          refine WJ.seq ?_
          refine WJ.quiet ?_
          refine QJ.step (YldS.yld (y_fldB (o := 0) fld46_0 rfl)) rfl ?_
          refine QJ.step (YldS.yld (y_loadB (k := 0) (off := 0) (v := str e11.name) rfl Tryd.isAgg9 rfl rfl)) rfl ?_
          obtain ⟨r17, h18, hm⟩ := bindS hm
          refine QJ.step (y_call Tryd.call45 rfl (RetG.quiet fun w hw => ok_i_IsName h18 w )) rfl ?_
          refine QJ.step (YldS.yld (y_not rfl)) rfl ?_
          refine QJ.step (YldS.yld (y_move rfl)) rfl ?_
          obtain ⟨t19, h20, hm⟩ := bindS hm
          refine QJ.cut 5 [(0, v2), (3, .map (some g5)), (5, pt g16 0), (13, v2), (14, .int .i64 (List.length list1 : Int)), (15, .int .i64 x9), (28, .bool t19)] ?_ ?_
          · rcases Bool.eq_false_or_eq_true (!r17) with hb21 | hb21
            · obtain rfl := orT h20 hb21
              refine QJ.off rfl rfl (cB hb21) rfl rfl ?_
              refine QJ.off rfl rfl (cB hb21) rfl rfl ?_
              refine QJ.off rfl rfl (cB hb21) rfl rfl ?_
              refine QJ.off rfl rfl (cB hb21) rfl rfl ?_
              refine QJ.step (YldS.yld (y_pick_t (cB hb21) rfl)) rfl ?_
              exact QJ.cut_end ⟨rfl, rfl, rfl, rfl, rfl, rfl, rfl, trivial⟩
            · replace h20 := orF h20 hb21
              refine QJ.on rfl rfl (cB hb21) (YldS.yld (y_move rfl)) rfl ?_
              refine QJ.on rfl rfl (cB hb21) (YldS.yld (y_fldB (o := 0) fld46_0 rfl)) rfl ?_
              refine QJ.on rfl rfl (cB hb21) (YldS.yld (y_loadB (k := 0) (off := 0) (v := str e11.name) rfl Tryd.isAgg9 rfl rfl)) rfl ?_
              refine QJ.on rfl rfl (cB hb21) (YldS.yld (y_lookupSB (k := 1) rfl Tryd.underlying61 Tryd.underlying9 Tryd.zeroValue4 rfl rfl)) rfl ?_
              refine QJ.step (YldS.yld (y_pick_f (cB hb21) rfl)) rfl ?_
              obtain rfl := Option.some.inj h20
              exact QJ.cut_end ⟨rfl, rfl, rfl, rfl, rfl, rfl, rfl, trivial⟩
          refine QJ.step (YldS.yld (y_move rfl)) rfl ?_
          obtain ⟨t22, h23, hm⟩ := bindS hm
          refine QJ.cut 5 [(0, v2), (3, .map (some g5)), (5, pt g16 0), (13, v2), (14, .int .i64 (List.length list1 : Int)), (15, .int .i64 x9), (34, .bool t22)] ?_ ?_
          · rcases Bool.eq_false_or_eq_true t19 with hb24 | hb24
            · obtain rfl := orT h23 hb24
              refine QJ.off rfl rfl (cB hb24) rfl rfl ?_
              refine QJ.off rfl rfl (cB hb24) rfl rfl ?_
              refine QJ.off rfl rfl (cB hb24) rfl rfl ?_
              refine QJ.off rfl rfl (cB hb24) rfl rfl ?_
              refine QJ.step (YldS.yld (y_pick_t (cB hb24) rfl)) rfl ?_
              exact QJ.cut_end ⟨rfl, rfl, rfl, rfl, rfl, rfl, rfl, trivial⟩
            · replace h23 := orF h23 hb24
              refine QJ.on rfl rfl (cB hb24) (YldS.yld (y_fldB (o := 0) fld46_1 rfl)) rfl ?_
              refine QJ.on rfl rfl (cB hb24) (YldS.yld (y_loadB (k := 0) (off := 1) (v := .int .i64 e11.stock) rfl Tryd.isAgg2 rfl rfl)) rfl ?_
              obtain ⟨r25, h26, h23⟩ := bindS h23
              refine QJ.on rfl rfl (cB hb24) (y_call Tryd.call32 rfl (RetG.quiet fun w hw => ok_i_between h26 w )) rfl ?_
              refine QJ.on rfl rfl (cB hb24) (YldS.yld (y_not rfl)) rfl ?_
              refine QJ.step (YldS.yld (y_pick_f (cB hb24) rfl)) rfl ?_
              obtain rfl := Option.some.inj h23
              exact QJ.cut_end ⟨rfl, rfl, rfl, rfl, rfl, rfl, rfl, trivial⟩
          refine QJ.step (YldS.yld (y_move rfl)) rfl ?_
          obtain ⟨t27, h28, hm⟩ := bindS hm
          refine QJ.cut 5 [(0, v2), (3, .map (some g5)), (5, pt g16 0), (13, v2), (14, .int .i64 (List.length list1 : Int)), (15, .int .i64 x9), (40, .bool t27)] ?_ ?_
          · rcases Bool.eq_false_or_eq_true t22 with hb29 | hb29
            · obtain rfl := orT h28 hb29
              refine QJ.off rfl rfl (cB hb29) rfl rfl ?_
              refine QJ.off rfl rfl (cB hb29) rfl rfl ?_
              refine QJ.off rfl rfl (cB hb29) rfl rfl ?_
              refine QJ.off rfl rfl (cB hb29) rfl rfl ?_
              refine QJ.step (YldS.yld (y_pick_t (cB hb29) rfl)) rfl ?_
              exact QJ.cut_end ⟨rfl, rfl, rfl, rfl, rfl, rfl, rfl, trivial⟩
            · replace h28 := orF h28 hb29
              refine QJ.on rfl rfl (cB hb29) (YldS.yld (y_fldB (o := 0) fld46_2 rfl)) rfl ?_
              refine QJ.on rfl rfl (cB hb29) (YldS.yld (y_loadB (k := 0) (off := 2) (v := .int .i64 e11.target) rfl Tryd.isAgg2 rfl rfl)) rfl ?_
              obtain ⟨r30, h31, h28⟩ := bindS h28
              refine QJ.on rfl rfl (cB hb29) (y_call Tryd.call32 rfl (RetG.quiet fun w hw => ok_i_between h31 w )) rfl ?_
              refine QJ.on rfl rfl (cB hb29) (YldS.yld (y_not rfl)) rfl ?_
              refine QJ.step (YldS.yld (y_pick_f (cB hb29) rfl)) rfl ?_
              obtain rfl := Option.some.inj h28
              exact QJ.cut_end ⟨rfl, rfl, rfl, rfl, rfl, rfl, rfl, trivial⟩
          refine QJ.step (YldS.yld (y_move rfl)) rfl ?_
          obtain ⟨t32, h33, hm⟩ := bindS hm
          refine QJ.cut 5 [(0, v2), (3, .map (some g5)), (5, pt g16 0), (13, v2), (14, .int .i64 (List.length list1 : Int)), (15, .int .i64 x9), (46, .bool t32)] ?_ ?_
          · rcases Bool.eq_false_or_eq_true t27 with hb34 | hb34
            · obtain rfl := orT h33 hb34
              refine QJ.off rfl rfl (cB hb34) rfl rfl ?_
              refine QJ.off rfl rfl (cB hb34) rfl rfl ?_
              refine QJ.off rfl rfl (cB hb34) rfl rfl ?_
              refine QJ.off rfl rfl (cB hb34) rfl rfl ?_
              refine QJ.step (YldS.yld (y_pick_t (cB hb34) rfl)) rfl ?_
              exact QJ.cut_end ⟨rfl, rfl, rfl, rfl, rfl, rfl, rfl, trivial⟩
            · replace h33 := orF h33 hb34
              refine QJ.on rfl rfl (cB hb34) (YldS.yld (y_fldB (o := 0) fld46_3 rfl)) rfl ?_
              refine QJ.on rfl rfl (cB hb34) (YldS.yld (y_loadB (k := 0) (off := 3) (v := .int .i64 e11.days) rfl Tryd.isAgg2 rfl rfl)) rfl ?_
              obtain ⟨r35, h36, h33⟩ := bindS h33
              refine QJ.on rfl rfl (cB hb34) (y_call Tryd.call32 rfl (RetG.quiet fun w hw => ok_i_between h36 w )) rfl ?_
              refine QJ.on rfl rfl (cB hb34) (YldS.yld (y_not rfl)) rfl ?_
              refine QJ.step (YldS.yld (y_pick_f (cB hb34) rfl)) rfl ?_
              obtain rfl := Option.some.inj h33
              exact QJ.cut_end ⟨rfl, rfl, rfl, rfl, rfl, rfl, rfl, trivial⟩
          refine QJ.step (YldS.yld (y_move rfl)) rfl ?_
          obtain ⟨t37, h38, hm⟩ := bindS hm
          refine QJ.cut 8 [(0, v2), (3, .map (some g5)), (5, pt g16 0), (13, v2), (14, .int .i64 (List.length list1 : Int)), (15, .int .i64 x9), (55, .bool t37)] ?_ ?_
          · rcases Bool.eq_false_or_eq_true t32 with hb39 | hb39
            · obtain rfl := orT h38 hb39
              refine QJ.off rfl rfl (cB hb39) rfl rfl ?_
              refine QJ.off rfl rfl (cB hb39) rfl rfl ?_
              refine QJ.off rfl rfl (cB hb39) rfl rfl ?_
              refine QJ.off rfl rfl (cB hb39) rfl rfl ?_
              refine QJ.off rfl rfl (cB hb39) rfl rfl ?_
              refine QJ.off rfl rfl (cB hb39) rfl rfl ?_
              refine QJ.off rfl rfl (cB hb39) rfl rfl ?_
              refine QJ.step (YldS.yld (y_pick_t (cB hb39) rfl)) rfl ?_
              exact QJ.cut_end ⟨rfl, rfl, rfl, rfl, rfl, rfl, rfl, trivial⟩
            · replace h38 := orF h38 hb39
              refine QJ.on rfl rfl (cB hb39) (YldS.yld (y_fldB (o := 0) fld46_4 rfl)) rfl ?_
              refine QJ.on rfl rfl (cB hb39) (YldS.yld (y_loadB (k := 0) (off := 4) (v := .int .i64 e11.instead) rfl Tryd.isAgg2 rfl rfl)) rfl ?_
              refine QJ.on rfl rfl (cB hb39) (YldS.yld (y_move rfl)) rfl ?_
              refine QJ.on rfl rfl (cB hb39) (YldS.yld (y_lenS Tryd.runUnderlying25 hr3 rfl)) rfl ?_
              refine QJ.on rfl rfl (cB hb39) (YldS.yld (y_bin rfl rfl rfl)) rfl ?_
              obtain ⟨r40, h41, h38⟩ := bindS h38
              refine QJ.on rfl rfl (cB hb39) (y_call Tryd.call32 rfl (RetG.quiet fun w hw => ok_i_between h41 w )) rfl ?_
              refine QJ.on rfl rfl (cB hb39) (YldS.yld (y_not rfl)) rfl ?_
              refine QJ.step (YldS.yld (y_pick_f (cB hb39) rfl)) rfl ?_
              obtain rfl := Option.some.inj h38
              exact QJ.cut_end ⟨rfl, rfl, rfl, rfl, rfl, rfl, rfl, trivial⟩
          refine QJ.done ?_
          refine PJ.next ?_
          refine WJ.cond (t := t37) rfl (fun hb42 => ?_) (fun hb42 => ?_)
          · replace hm := ifT hm hb42
            refine WJ.seq ?_
            refine WJ.quiet ?_
            refine QJ.step (YldS.yld (y_assign rfl)) rfl ?_
            refine QJ.done ?_
            refine PJ.next ?_
            refine WJ.ret ?_
            refine PJ.then_ret (PJ.block_ret (PJ.then_ret (PJ.then_ret (PJ.block_ret (PJ.then_ret ?_)))))
            obtain rfl := Option.some.inj hm
            refine PJ.sel (L' := []) [] ⟨List.nodup_nil, rfl⟩ ?_
            exact PJ.retn (vs := [.bool false]) Tryd.results25 ⟨rfl, trivial⟩ ⟨rfl, rfl⟩
          · replace hm := ifF hm hb42
            refine WJ.skip ?_
            refine PJ.next ?_
            refine WJ.reg ?_
            refine SJ.q (YldS.yld (y_move rfl)) rfl ?_
            refine SJ.q (YldS.yld (y_fldB (o := 0) fld46_0 rfl)) rfl ?_
            refine SJ.q (YldS.yld (y_loadB (k := 0) (off := 0) (v := str e11.name) rfl Tryd.isAgg9 rfl rfl)) rfl ?_
            refine SJ.mapUpdateSB (k := 1) Tryd.underlying61 Tryd.underlying9 rfl rfl rfl rfl ?_
            refine SJ.nil ?_
            refine PJ.block_normal (PJ.next ?_)
            refine WJ.quiet ?_
            refine QJ.step (YldS.yld (y_bin rfl rfl rfl)) rfl ?_
            refine QJ.step (YldS.yld (y_move rfl)) rfl ?_
            refine QJ.done ?_
            exact PJ.round (mset mp8 e11.name true, w64 (x9 + 1)) [1] hm ⟨rfl, rfl, rfl, rfl, rfl, trivial⟩ ⟨by decide, rfl⟩
        · replace hm := ifF hm hb10
          refine WJ.exit ?_
          refine PJ.then_exit (PJ.then_exit (PJ.block_exit ?_))
          exact PJ.joined () [] hm ⟨rfl, trivial⟩ ⟨List.nodup_nil, rfl⟩
    · rintro _ hm
      subst hk7
      obtain ⟨kj43, hk44, hm⟩ := withK_open hm
      refine WJ.join (X := Unit) (fun (_ : Unit) => kj43  = some r) (fun (_ : Unit) => []) (fun (_ : Unit) => []) ?_ ?_
      · clear hk44
        refine WJ.seq ?_
        refine WJ.quiet ?_
        refine QJ.step (YldS.yld (y_move rfl)) rfl ?_
        refine QJ.step (YldS.yld (y_lenS Tryd.runUnderlying25 hr3 rfl)) rfl ?_
        refine QJ.step (YldS.yld (y_move rfl)) rfl ?_
        refine QJ.done ?_
        refine PJ.next ?_
        refine WJ.block ?_
        refine WJ.sel (L' := (fun (x : Int) => []) 0) [] ⟨List.nodup_nil, rfl⟩ ?_
        refine WJ.sub (m' := (fun (x : Int) => [(0, v2), (61, .int .i64 (List.length list1 : Int)), (62, .int .i64 x)]) 0) ⟨rfl, rfl, rfl, trivial⟩ ?_
        refine WJ.loop (X := Int) (fun N (x : Int) => i_ValidParts_l2 kj43 list1 N x = some r) (fun (x : Int) => [(0, v2), (61, .int .i64 (List.length list1 : Int)), (62, .int .i64 x)]) (fun (x : Int) => []) ?_ N 0 hm
        · rintro N x45 hI
          have hm := hI; clear hI
          cases N with
          | zero => cases hm
          | succ N =>
          unfold i_ValidParts_l2 at hm
          refine WJ.seq ?_
          refine WJ.quiet ?_
          refine QJ.step (YldS.yld (y_bin rfl rfl rfl)) rfl ?_
          refine QJ.done ?_
          refine PJ.next ?_
          refine WJ.seq ?_
          refine WJ.cond (t := decide (x45 < (List.length list1 : Int))) rfl (fun hb46 => ?_) (fun hb46 => ?_)
          · replace hm := ifT hm hb46
            refine WJ.skip ?_
            refine PJ.next ?_
            obtain ⟨kj47, hk48, hm⟩ := withK_open hm
            refine WJ.join (X := Unit) (fun (_ : Unit) => kj47  = some r) (fun (_ : Unit) => [(0, v2), (61, .int .i64 (List.length list1 : Int)), (62, .int .i64 x45)]) (fun (_ : Unit) => []) ?_ ?_
            · clear hk48
              refine WJ.block ?_
              refine WJ.seq ?_
              refine WJ.quiet ?_
              refine QJ.step (YldS.yld (y_move rfl)) rfl ?_
              refine QJ.step (YldS.yld (y_assign rfl)) rfl ?_
              refine QJ.done ?_
              refine PJ.next ?_
              refine WJ.seq ?_
              refine WJ.quiet ?_
              refine QJ.step (YldS.yld (y_move rfl)) rfl ?_
              refine QJ.step (YldS.yld (y_assign rfl)) rfl ?_
              refine QJ.step (YldS.yld (y_assign rfl)) rfl ?_
              refine QJ.done ?_
              refine PJ.next ?_
              refine WJ.block ?_
              refine WJ.sel (L' := (fun (x : Int × Int) => []) (x45, 0)) [] ⟨List.nodup_nil, rfl⟩ ?_
              refine WJ.sub (m' := (fun (x : Int × Int) => [(0, v2), (7, .int .i64 x.1), (8, .int .i64 x.2), (61, .int .i64 (List.length list1 : Int)), (62, .int .i64 x45)]) (x45, 0)) ⟨rfl, rfl, rfl, rfl, rfl, trivial⟩ ?_
              refine WJ.loop (X := Int × Int) (fun N (x : Int × Int) => i_ValidParts_l3 kj47 list1 N x.1 x.2 = some r) (fun (x : Int × Int) => [(0, v2), (7, .int .i64 x.1), (8, .int .i64 x.2), (61, .int .i64 (List.length list1 : Int)), (62, .int .i64 x45)]) (fun (x : Int × Int) => []) ?_ N (x45, 0) hm
              · rintro N ⟨at49, steps50⟩ hI
                have hm := hI; clear hI
                cases N with
                | zero => cases hm
                | succ N =>
                unfold i_ValidParts_l3 at hm
                refine WJ.seq ?_
                refine WJ.seq ?_
                refine WJ.quiet ?_
                refine QJ.step (YldS.yld (y_move rfl)) rfl ?_
                refine QJ.step (YldS.yld (y_bin rfl rfl rfl)) rfl ?_
                refine QJ.done ?_
                refine PJ.next ?_
                refine WJ.cond (t := decide (at49 ≥ 0)) rfl (fun hb51 => ?_) (fun hb51 => ?_)
                · replace hm := ifT hm hb51
                  refine WJ.skip ?_
                  refine PJ.next ?_
                  refine WJ.block ?_
                  refine WJ.seq ?_
                  refine WJ.quiet ?_
                  refine QJ.step (YldS.yld (y_move rfl)) rfl ?_
                  refine QJ.step (YldS.yld (y_move rfl)) rfl ?_
                  obtain ⟨e52, h53, hm⟩ := bindS hm
                  obtain ⟨ad54, _, rfl, ha55, hy56⟩ := hr3.elem h53
                  refine QJ.step (YldS.yld (hy56 Tryd.runUnderlying25 Tryd.sizeOf46 rfl rfl)) rfl ?_
                  refine QJ.step (YldS.yld (y_fld (ad := ad54) fld46_4 rfl)) rfl ?_
                  refine QJ.step (YldS.yld (y_load1 (v := .int .i64 e52.instead) Tryd.isAgg2 (ha55.sub 4 1) St.frozenC rfl)) rfl ?_
                  refine QJ.step (YldS.yld (y_assign rfl)) rfl ?_
                  refine QJ.done ?_
                  refine PJ.next ?_
                  refine WJ.seq ?_
                  refine WJ.quiet ?_
                  refine QJ.step (YldS.yld (y_move rfl)) rfl ?_
                  refine QJ.step (YldS.yld (y_bin rfl rfl rfl)) rfl ?_
                  refine QJ.step (YldS.yld (y_assign rfl)) rfl ?_
                  refine QJ.done ?_
                  refine PJ.next ?_
                  refine WJ.seq ?_
                  refine WJ.quiet ?_
                  refine QJ.step (YldS.yld (y_move rfl)) rfl ?_
                  refine QJ.step (YldS.yld (y_move rfl)) rfl ?_
                  refine QJ.step (YldS.yld (y_lenS Tryd.runUnderlying25 hr3 rfl)) rfl ?_
                  refine QJ.step (YldS.yld (y_bin rfl rfl rfl)) rfl ?_
                  refine QJ.done ?_
                  refine PJ.next ?_
                  refine WJ.cond (t := decide ((w64 (steps50 + 1)) > (List.length list1 : Int))) rfl (fun hb57 => ?_) (fun hb57 => ?_)
                  · replace hm := ifT hm hb57
                    refine WJ.seq ?_
                    refine WJ.quiet ?_
                    refine QJ.step (YldS.yld (y_assign rfl)) rfl ?_
                    refine QJ.done ?_
                    refine PJ.next ?_
                    refine WJ.ret ?_
                    refine PJ.block_ret (PJ.then_ret (PJ.block_ret (PJ.block_ret (PJ.then_ret (PJ.then_ret (PJ.block_ret (PJ.then_ret ?_)))))))
                    obtain rfl := Option.some.inj hm
                    refine PJ.sel (L' := []) [] ⟨List.nodup_nil, rfl⟩ ?_
                    exact PJ.retn (vs := [.bool false]) Tryd.results25 ⟨rfl, trivial⟩ ⟨rfl, rfl⟩
                  · replace hm := ifF hm hb57
                    refine WJ.skip ?_
                    refine PJ.block_normal ?_
                    exact PJ.round (e52.instead, w64 (steps50 + 1)) [] hm ⟨rfl, rfl, rfl, rfl, rfl, trivial⟩ ⟨List.nodup_nil, rfl⟩
                · replace hm := ifF hm hb51
                  refine WJ.exit ?_
                  refine PJ.then_exit (PJ.then_exit (PJ.block_exit (PJ.block_normal ?_)))
                  exact PJ.joined () [] hm ⟨rfl, rfl, rfl, trivial⟩ ⟨List.nodup_nil, rfl⟩
            · rintro _ hm
              subst hk48
              refine WJ.quiet ?_
              refine QJ.step (YldS.yld (y_bin rfl rfl rfl)) rfl ?_
              refine QJ.step (YldS.yld (y_move rfl)) rfl ?_
              refine QJ.done ?_
              exact PJ.round (w64 (x45 + 1)) [] hm ⟨rfl, rfl, rfl, trivial⟩ ⟨List.nodup_nil, rfl⟩
          · replace hm := ifF hm hb46
            refine WJ.exit ?_
            refine PJ.then_exit (PJ.then_exit (PJ.block_exit ?_))
            exact PJ.joined () [] hm trivial ⟨List.nodup_nil, rfl⟩
      · rintro _ hm
        subst hk44
        refine WJ.seq ?_
        refine WJ.quiet ?_
        refine QJ.step (YldS.yld (y_assign rfl)) rfl ?_
        refine QJ.done ?_
        refine PJ.next ?_
        refine WJ.ret ?_
        obtain rfl := Option.some.inj hm
        refine PJ.sel (L' := []) [] ⟨List.nodup_nil, rfl⟩ ?_
        exact PJ.retn (vs := [.bool true]) Tryd.results25 ⟨rfl, trivial⟩ ⟨rfl, rfl⟩

theorem ok_fmtI {a b : Int} {r : Str} (hm : fmtI a b = some r) (w : World) (hT : Tab Tryd.prog tabNm w (cx w).Fz) :
    Calls Tryd.prog 48 #[.int .i64 a, .int .i64 b] w (Ret (cx w) (str r)) :=
  fmtI_ok (fun n h0 h1 w h => Any.strconv_FormatInt_10 Tryd.laysM173 n h0 h1 w h) hm w hT

set_option maxRecDepth 100000 in
set_option maxHeartbeats 1000000 in
theorem ok_i_Decimal {n1 : Int} {r : Str} (hm : i_Decimal n1 = some r) (w : World) (hT : Tab Tryd.prog tabNm w (cx w).Fz) :
    Calls Tryd.prog 33 #[.int .i64 n1] w (Ret (cx w) (str r)) := by
  unfold i_Decimal at hm
  refine Calls.enter [.int .i64 n1] Tryd.func33 rfl Tryd.ntmps33 rfl ?_
  refine WJ.seq ?_
  refine WJ.quiet ?_
  refine QJ.step (YldS.yld (y_assign rfl)) rfl ?_
  refine QJ.done ?_
  refine PJ.next ?_
  refine WJ.seq ?_
  refine WJ.quiet ?_
  refine QJ.step (YldS.yld (y_move rfl)) rfl ?_
  obtain ⟨r2, h3, hm⟩ := bindS hm
  refine QJ.step (y_call Tryd.call48 rfl (RetG.quiet fun w hw => ok_fmtI h3 w (hT.st hw))) rfl ?_
  refine QJ.step (YldS.yld (y_assign rfl)) rfl ?_
  refine QJ.done ?_
  refine PJ.next ?_
  refine WJ.ret ?_
  obtain rfl := Option.some.inj hm
  refine PJ.sel (L' := []) [] ⟨List.nodup_nil, rfl⟩ ?_
  exact PJ.retn (vs := [str r2]) Tryd.results33 ⟨rfl, trivial⟩ ⟨rfl, rfl⟩

set_option maxRecDepth 100000 in
set_option maxHeartbeats 1000000 in
theorem ok_i_PartText {N : Nat} {list1 : List SparePart} {k4 : Int} {r : Str} (hm : i_PartText N list1 k4 = some r) (w : World) (hT : Tab Tryd.prog tabNm w (cx w).Fz) (v2 : Value) (hr3 : RdS w (cx w).Fz v2 fSparePart.rp list1) :
    Calls Tryd.prog 8 #[v2, .int .i64 k4] w (Ret (cx w) (str r)) := by
  unfold i_PartText at hm
  refine Calls.enter [v2, .int .i64 k4] Tryd.func8 rfl Tryd.ntmps8 rfl ?_
  refine WJ.seq ?_
  refine WJ.quiet ?_
  refine QJ.step (YldS.yld (y_assign rfl)) rfl ?_
  refine QJ.done ?_
  refine PJ.next ?_
  refine WJ.seq ?_
  refine WJ.seq ?_
  refine WJ.quiet ?_
  refine QJ.step (YldS.yld (y_move rfl)) rfl ?_
  obtain ⟨r5, h6, hm⟩ := bindS hm
  refine QJ.step (y_call Tryd.call25 rfl (RetG.quiet fun w hw => ok_i_ValidParts h6 w _ (hr3.st hw))) rfl ?_
  refine QJ.step (YldS.yld (y_not rfl)) rfl ?_
  refine QJ.step (YldS.yld (y_move rfl)) rfl ?_
  obtain ⟨t7, h8, hm⟩ := bindS hm
  refine QJ.cut 7 [(0, v2), (1, .int .i64 k4), (17, .bool t7)] ?_ ?_
  · rcases Bool.eq_false_or_eq_true (!r5) with hb9 | hb9
    · obtain rfl := orT h8 hb9
      refine QJ.off rfl rfl (cB hb9) rfl rfl ?_
      refine QJ.off rfl rfl (cB hb9) rfl rfl ?_
      refine QJ.off rfl rfl (cB hb9) rfl rfl ?_
      refine QJ.off rfl rfl (cB hb9) rfl rfl ?_
      refine QJ.off rfl rfl (cB hb9) rfl rfl ?_
      refine QJ.off rfl rfl (cB hb9) rfl rfl ?_
      refine QJ.step (YldS.yld (y_pick_t (cB hb9) rfl)) rfl ?_
      exact QJ.cut_end ⟨rfl, rfl, rfl, trivial⟩
    · replace h8 := orF h8 hb9
      refine QJ.on rfl rfl (cB hb9) (YldS.yld (y_move rfl)) rfl ?_
      refine QJ.on rfl rfl (cB hb9) (YldS.yld (y_move rfl)) rfl ?_
      refine QJ.on rfl rfl (cB hb9) (YldS.yld (y_lenS Tryd.runUnderlying25 hr3 rfl)) rfl ?_
      refine QJ.on rfl rfl (cB hb9) (YldS.yld (y_bin rfl rfl rfl)) rfl ?_
      obtain ⟨r10, h11, h8⟩ := bindS h8
      refine QJ.on rfl rfl (cB hb9) (y_call Tryd.call32 rfl (RetG.quiet fun w hw => ok_i_between h11 w )) rfl ?_
      refine QJ.on rfl rfl (cB hb9) (YldS.yld (y_not rfl)) rfl ?_
      refine QJ.step (YldS.yld (y_pick_f (cB hb9) rfl)) rfl ?_
      obtain rfl := Option.some.inj h8
      exact QJ.cut_end ⟨rfl, rfl, rfl, trivial⟩
  refine QJ.done ?_
  refine PJ.next ?_
  refine WJ.cond (t := t7) rfl (fun hb12 => ?_) (fun hb12 => ?_)
  · replace hm := ifT hm hb12
    refine WJ.seq ?_
    refine WJ.quiet ?_
    refine QJ.step (YldS.yld (y_assign rfl)) rfl ?_
    refine QJ.done ?_
    refine PJ.next ?_
    refine WJ.ret ?_
    refine PJ.then_ret ?_
    obtain rfl := Option.some.inj hm
    refine PJ.sel (L' := []) [] ⟨List.nodup_nil, rfl⟩ ?_
    exact PJ.retn (vs := [str []]) Tryd.results8 ⟨rfl, trivial⟩ ⟨rfl, rfl⟩
  · replace hm := ifF hm hb12
    refine WJ.skip ?_
    refine PJ.next ?_
    refine WJ.seq ?_
    refine WJ.reg ?_
    refine SJ.q (YldS.yld (y_move rfl)) rfl ?_
    refine SJ.q (YldS.yld (y_move rfl)) rfl ?_
    obtain ⟨e13, h14, hm⟩ := bindS hm
    obtain ⟨ad15, _, rfl, ha16, hy17⟩ := hr3.elem h14
    refine SJ.q (YldS.yld (hy17 Tryd.runUnderlying25 Tryd.sizeOf46 rfl rfl)) rfl ?_
    refine SJ.q (YldS.yld (y_loadN Tryd.isAgg46 Tryd.sizeOf46 rfl ha16 St.frozenC rfl)) rfl ?_
    refine SJ.alloc (cs := [str [], .int .i64 0, .int .i64 0, .int .i64 0, .int .i64 0]) Tryd.zeroValue46 rfl rfl fun g18 => ?_
    refine SJ.storeL (k := 0) (off := 0) (us := [str e13.name, .int .i64 e13.stock, .int .i64 e13.target, .int .i64 e13.days, .int .i64 e13.instead]) rfl rfl rfl rfl Tryd.sizeOf46 rfl rfl ?_
    refine SJ.nil ?_
    refine PJ.next ?_
    refine WJ.seq ?_
    refine WJ.quiet_draw follows (by kernel_rfl) ?_
    refine QJ.step (YldS.yld (y_fldB (o := 0) fld46_0 rfl)) rfl ?_
    refine QJ.step (YldS.yld (y_loadB (k := 0) (off := 0) (v := str e13.name) rfl Tryd.isAgg9 rfl rfl)) rfl ?_
    obtain ⟨s19, h20, hm⟩ := bindS hm
    refine QJ.step (YldS.yld (y_cat h20 rfl rfl)) rfl ?_
    refine QJ.step (YldS.yld (y_fldB (o := 0) fld46_1 rfl)) rfl ?_
    refine QJ.step (YldS.yld (y_loadB (k := 0) (off := 1) (v := .int .i64 e13.stock) rfl Tryd.isAgg2 rfl rfl)) rfl ?_
    obtain ⟨r21, h22, hm⟩ := bindS hm
    refine QJ.step (y_call Tryd.call33 rfl (RetG.quiet fun w hw => ok_i_Decimal h22 w (hT.st hw))) rfl ?_
    obtain ⟨s23, h24, hm⟩ := bindS hm
    refine QJ.step (YldS.yld (y_cat h24 rfl rfl)) rfl ?_
    obtain ⟨s25, h26, hm⟩ := bindS hm
    refine QJ.step (YldS.yld (y_cat h26 rfl rfl)) rfl ?_
    refine QJ.step (YldS.yld (y_fldB (o := 0) fld46_2 rfl)) rfl ?_
    refine QJ.step (YldS.yld (y_loadB (k := 0) (off := 2) (v := .int .i64 e13.target) rfl Tryd.isAgg2 rfl rfl)) rfl ?_
    obtain ⟨r27, h28, hm⟩ := bindS hm
    refine QJ.step (y_call Tryd.call33 rfl (RetG.quiet fun w hw => ok_i_Decimal h28 w (hT.st hw))) rfl ?_
    obtain ⟨s29, h30, hm⟩ := bindS hm
    refine QJ.step (YldS.yld (y_cat h30 rfl rfl)) rfl ?_
    obtain ⟨s31, h32, hm⟩ := bindS hm
    refine QJ.step (YldS.yld (y_cat h32 rfl rfl)) rfl ?_
    refine QJ.step (YldS.yld (y_fldB (o := 0) fld46_3 rfl)) rfl ?_
    refine QJ.step (YldS.yld (y_loadB (k := 0) (off := 3) (v := .int .i64 e13.days) rfl Tryd.isAgg2 rfl rfl)) rfl ?_
    obtain ⟨r33, h34, hm⟩ := bindS hm
    refine QJ.step (y_call Tryd.call33 rfl (RetG.quiet fun w hw => ok_i_Decimal h34 w (hT.st hw))) rfl ?_
    obtain ⟨s35, h36, hm⟩ := bindS hm
    refine QJ.step (YldS.yld (y_cat h36 rfl rfl)) rfl ?_
    obtain ⟨s37, h38, hm⟩ := bindS hm
    refine QJ.step (YldS.yld (y_cat h38 rfl rfl)) rfl ?_
    refine QJ.step (YldS.yld (y_assign rfl)) rfl ?_
    refine QJ.done ?_
    refine PJ.next ?_
    obtain ⟨kj40, hk41, hm⟩ := withK_open hm
    refine WJ.join (X := Str) (fun (x : Str) => kj40 x = some r) (fun (x : Str) => [(6, str x)]) (fun (x : Str) => []) ?_ ?_
    · clear hk41
      refine WJ.seq ?_
      refine WJ.quiet ?_
      refine QJ.step (YldS.yld (y_fldB (o := 0) fld46_4 rfl)) rfl ?_
      refine QJ.step (YldS.yld (y_loadB (k := 0) (off := 4) (v := .int .i64 e13.instead) rfl Tryd.isAgg2 rfl rfl)) rfl ?_
      refine QJ.step (YldS.yld (y_bin rfl rfl rfl)) rfl ?_
      refine QJ.done ?_
      refine PJ.next ?_
      refine WJ.cond (t := decide (e13.instead ≥ 0)) rfl (fun hb42 => ?_) (fun hb42 => ?_)
      · replace hm := ifT hm hb42
        refine WJ.quiet ?_
        refine QJ.step (YldS.yld (y_move rfl)) rfl ?_
        refine QJ.step (YldS.yld (y_move rfl)) rfl ?_
        refine QJ.step (YldS.yld (y_fldB (o := 0) fld46_4 rfl)) rfl ?_
        refine QJ.step (YldS.yld (y_loadB (k := 0) (off := 4) (v := .int .i64 e13.instead) rfl Tryd.isAgg2 rfl rfl)) rfl ?_
        obtain ⟨e43, h44, hm⟩ := bindS hm
        obtain ⟨ad45, _, rfl, ha46, hy47⟩ := hr3.elem h44
        refine QJ.step (YldS.yld (hy47 Tryd.runUnderlying25 Tryd.sizeOf46 rfl rfl)) rfl ?_
        refine QJ.step (YldS.yld (y_fld (ad := ad45) fld46_0 rfl)) rfl ?_
        refine QJ.step (YldS.yld (y_load1 (v := str e43.name) Tryd.isAgg9 (ha46.sub 0 1) St.frozenC rfl)) rfl ?_
        obtain ⟨s48, h49, hm⟩ := bindS hm
        refine QJ.step (YldS.yld (y_cat h49 rfl rfl)) rfl ?_
        obtain ⟨s50, h51, hm⟩ := bindS hm
        refine QJ.step (YldS.yld (y_cat h51 rfl rfl)) rfl ?_
        refine QJ.step (YldS.yld (y_assign rfl)) rfl ?_
        refine QJ.done ?_
        exact PJ.joined s50 [] hm ⟨rfl, trivial⟩ ⟨List.nodup_nil, rfl⟩
      · replace hm := ifF hm hb42
        refine WJ.skip ?_
        exact PJ.joined s37 [] hm ⟨rfl, trivial⟩ ⟨List.nodup_nil, rfl⟩
    · rintro out39 hm
      subst hk41
      refine WJ.seq ?_
      refine WJ.quiet ?_
      refine QJ.step (YldS.yld (y_move rfl)) rfl ?_
      refine QJ.step (YldS.yld (y_assign rfl)) rfl ?_
      refine QJ.done ?_
      refine PJ.next ?_
      refine WJ.ret ?_
      obtain rfl := Option.some.inj hm
      refine PJ.sel (L' := []) [] ⟨List.nodup_nil, rfl⟩ ?_
      exact PJ.retn (vs := [str out39]) Tryd.results8 ⟨rfl, trivial⟩ ⟨rfl, rfl⟩

set_option maxRecDepth 100000 in
set_option maxHeartbeats 1000000 in
theorem ok_w_eqSparePart {a1 : SparePart} {b2 : SparePart} {r : Bool} (hm : w_eqSparePart a1 b2 = some r) (w : World)  :
    Calls Tryd.prog 34 #[.agg (SparePart.enc a1).toArray, .agg (SparePart.enc b2).toArray] w (Ret (cx w) (.bool r)) := by
  unfold w_eqSparePart at hm
  refine Calls.enter [.agg (SparePart.enc a1).toArray, .agg (SparePart.enc b2).toArray] Tryd.func34 rfl Tryd.ntmps34 rfl ?_
  refine WJ.seq ?_
  refine WJ.reg ?_
  refine SJ.box (cs := [str a1.name, .int .i64 a1.stock, .int .i64 a1.target, .int .i64 a1.days, .int .i64 a1.instead]) rfl rfl rfl fun g3 => ?_
  refine SJ.box (cs := [str b2.name, .int .i64 b2.stock, .int .i64 b2.target, .int .i64 b2.days, .int .i64 b2.instead]) rfl rfl rfl fun g4 => ?_
  refine SJ.q (YldS.yld (y_assign rfl)) rfl ?_
  refine SJ.nil ?_
  refine PJ.next ?_
  refine WJ.seq ?_
  refine WJ.seq ?_
  refine WJ.quiet ?_
  refine QJ.step (YldS.yld (y_fldB (o := 0) fld46_0 rfl)) rfl ?_
  refine QJ.step (YldS.yld (y_loadB (k := 1) (off := 0) (v := str a1.name) rfl Tryd.isAgg9 rfl rfl)) rfl ?_
  refine QJ.step (YldS.yld (y_fldB (o := 0) fld46_0 rfl)) rfl ?_
  refine QJ.step (YldS.yld (y_loadB (k := 0) (off := 0) (v := str b2.name) rfl Tryd.isAgg9 rfl rfl)) rfl ?_
  refine QJ.step (YldS.yld (y_binS rfl rfl rfl)) rfl ?_
  refine QJ.done ?_
  refine PJ.next ?_
  refine WJ.cond (t := (a1.name != b2.name)) rfl (fun hb5 => ?_) (fun hb5 => ?_)
  · replace hm := ifT hm hb5
    refine WJ.seq ?_
    refine WJ.quiet ?_
    refine QJ.step (YldS.yld (y_assign rfl)) rfl ?_
    refine QJ.done ?_
    refine PJ.next ?_
    refine WJ.ret ?_
    refine PJ.then_ret ?_
    obtain rfl := Option.some.inj hm
    refine PJ.sel (L' := []) [] ⟨List.nodup_nil, rfl⟩ ?_
    exact PJ.retn (vs := [.bool false]) Tryd.results34 ⟨rfl, trivial⟩ ⟨rfl, rfl⟩
  · replace hm := ifF hm hb5
    refine WJ.skip ?_
    refine PJ.next ?_
    refine WJ.seq ?_
    refine WJ.seq ?_
    refine WJ.quiet ?_
    refine QJ.step (YldS.yld (y_fldB (o := 0) fld46_1 rfl)) rfl ?_
    refine QJ.step (YldS.yld (y_loadB (k := 1) (off := 1) (v := .int .i64 a1.stock) rfl Tryd.isAgg2 rfl rfl)) rfl ?_
    refine QJ.step (YldS.yld (y_fldB (o := 0) fld46_1 rfl)) rfl ?_
    refine QJ.step (YldS.yld (y_loadB (k := 0) (off := 1) (v := .int .i64 b2.stock) rfl Tryd.isAgg2 rfl rfl)) rfl ?_
    refine QJ.step (YldS.yld (y_bin rfl rfl rfl)) rfl ?_
    refine QJ.done ?_
    refine PJ.next ?_
    refine WJ.cond (t := (a1.stock != b2.stock)) rfl (fun hb6 => ?_) (fun hb6 => ?_)
    · replace hm := ifT hm hb6
      refine WJ.seq ?_
      refine WJ.quiet ?_
      refine QJ.step (YldS.yld (y_assign rfl)) rfl ?_
      refine QJ.done ?_
      refine PJ.next ?_
      refine WJ.ret ?_
      refine PJ.then_ret ?_
      obtain rfl := Option.some.inj hm
      refine PJ.sel (L' := []) [] ⟨List.nodup_nil, rfl⟩ ?_
      exact PJ.retn (vs := [.bool false]) Tryd.results34 ⟨rfl, trivial⟩ ⟨rfl, rfl⟩
    · replace hm := ifF hm hb6
      refine WJ.skip ?_
      refine PJ.next ?_
      refine WJ.seq ?_
      refine WJ.seq ?_
      refine WJ.quiet ?_
      refine QJ.step (YldS.yld (y_fldB (o := 0) fld46_2 rfl)) rfl ?_
      refine QJ.step (YldS.yld (y_loadB (k := 1) (off := 2) (v := .int .i64 a1.target) rfl Tryd.isAgg2 rfl rfl)) rfl ?_
      refine QJ.step (YldS.yld (y_fldB (o := 0) fld46_2 rfl)) rfl ?_
      refine QJ.step (YldS.yld (y_loadB (k := 0) (off := 2) (v := .int .i64 b2.target) rfl Tryd.isAgg2 rfl rfl)) rfl ?_
      refine QJ.step (YldS.yld (y_bin rfl rfl rfl)) rfl ?_
      refine QJ.done ?_
      refine PJ.next ?_
      refine WJ.cond (t := (a1.target != b2.target)) rfl (fun hb7 => ?_) (fun hb7 => ?_)
      · replace hm := ifT hm hb7
        refine WJ.seq ?_
        refine WJ.quiet ?_
        refine QJ.step (YldS.yld (y_assign rfl)) rfl ?_
        refine QJ.done ?_
        refine PJ.next ?_
        refine WJ.ret ?_
        refine PJ.then_ret ?_
        obtain rfl := Option.some.inj hm
        refine PJ.sel (L' := []) [] ⟨List.nodup_nil, rfl⟩ ?_
        exact PJ.retn (vs := [.bool false]) Tryd.results34 ⟨rfl, trivial⟩ ⟨rfl, rfl⟩
      · replace hm := ifF hm hb7
        refine WJ.skip ?_
        refine PJ.next ?_
        refine WJ.seq ?_
        refine WJ.seq ?_
        refine WJ.quiet ?_
        refine QJ.step (YldS.yld (y_fldB (o := 0) fld46_3 rfl)) rfl ?_
        refine QJ.step (YldS.yld (y_loadB (k := 1) (off := 3) (v := .int .i64 a1.days) rfl Tryd.isAgg2 rfl rfl)) rfl ?_
        refine QJ.step (YldS.yld (y_fldB (o := 0) fld46_3 rfl)) rfl ?_
        refine QJ.step (YldS.yld (y_loadB (k := 0) (off := 3) (v := .int .i64 b2.days) rfl Tryd.isAgg2 rfl rfl)) rfl ?_
        refine QJ.step (YldS.yld (y_bin rfl rfl rfl)) rfl ?_
        refine QJ.done ?_
        refine PJ.next ?_
        refine WJ.cond (t := (a1.days != b2.days)) rfl (fun hb8 => ?_) (fun hb8 => ?_)
        · replace hm := ifT hm hb8
          refine WJ.seq ?_
          refine WJ.quiet ?_
          refine QJ.step (YldS.yld (y_assign rfl)) rfl ?_
          refine QJ.done ?_
          refine PJ.next ?_
          refine WJ.ret ?_
          refine PJ.then_ret ?_
          obtain rfl := Option.some.inj hm
          refine PJ.sel (L' := []) [] ⟨List.nodup_nil, rfl⟩ ?_
          exact PJ.retn (vs := [.bool false]) Tryd.results34 ⟨rfl, trivial⟩ ⟨rfl, rfl⟩
        · replace hm := ifF hm hb8
          refine WJ.skip ?_
          refine PJ.next ?_
          refine WJ.seq ?_
          refine WJ.seq ?_
          refine WJ.quiet ?_
          refine QJ.step (YldS.yld (y_fldB (o := 0) fld46_4 rfl)) rfl ?_
          refine QJ.step (YldS.yld (y_loadB (k := 1) (off := 4) (v := .int .i64 a1.instead) rfl Tryd.isAgg2 rfl rfl)) rfl ?_
          refine QJ.step (YldS.yld (y_fldB (o := 0) fld46_4 rfl)) rfl ?_
          refine QJ.step (YldS.yld (y_loadB (k := 0) (off := 4) (v := .int .i64 b2.instead) rfl Tryd.isAgg2 rfl rfl)) rfl ?_
          refine QJ.step (YldS.yld (y_bin rfl rfl rfl)) rfl ?_
          refine QJ.done ?_
          refine PJ.next ?_
          refine WJ.cond (t := (a1.instead != b2.instead)) rfl (fun hb9 => ?_) (fun hb9 => ?_)
          · replace hm := ifT hm hb9
            refine WJ.seq ?_
            refine WJ.quiet ?_
            refine QJ.step (YldS.yld (y_assign rfl)) rfl ?_
            refine QJ.done ?_
            refine PJ.next ?_
            refine WJ.ret ?_
            refine PJ.then_ret ?_
            obtain rfl := Option.some.inj hm
            refine PJ.sel (L' := []) [] ⟨List.nodup_nil, rfl⟩ ?_
            exact PJ.retn (vs := [.bool false]) Tryd.results34 ⟨rfl, trivial⟩ ⟨rfl, rfl⟩
          · replace hm := ifF hm hb9
            refine WJ.skip ?_
            refine PJ.next ?_
            refine WJ.seq ?_
            refine WJ.quiet ?_
            refine QJ.step (YldS.yld (y_assign rfl)) rfl ?_
            refine QJ.done ?_
            refine PJ.next ?_
            refine WJ.ret ?_
            obtain rfl := Option.some.inj hm
            refine PJ.sel (L' := []) [] ⟨List.nodup_nil, rfl⟩ ?_
            exact PJ.retn (vs := [.bool true]) Tryd.results34 ⟨rfl, trivial⟩ ⟨rfl, rfl⟩

set_option maxRecDepth 100000 in
set_option maxHeartbeats 1000000 in
theorem ok_w_eqSparePartS {N : Nat} {a1 : List SparePart} {b4 : List SparePart} {r : Bool} (hm : w_eqSparePartS N a1 b4 = some r) (w : World) (v2 : Value) (hr3 : RdS w (cx w).Fz v2 fSparePart.rp a1) (v5 : Value) (hr6 : RdS w (cx w).Fz v5 fSparePart.rp b4) :
    Calls Tryd.prog 9 #[v2, v5] w (Ret (cx w) (.bool r)) := by
  unfold w_eqSparePartS at hm
  refine Calls.enter [v2, v5] Tryd.func9 rfl Tryd.ntmps9 rfl ?_
  refine WJ.seq ?_
  refine WJ.quiet ?_
  refine QJ.step (YldS.yld (y_assign rfl)) rfl ?_
  refine QJ.done ?_
  refine PJ.next ?_
  refine WJ.seq ?_
  refine WJ.seq ?_
  refine WJ.quiet ?_
  refine QJ.step (YldS.yld (y_move rfl)) rfl ?_
  refine QJ.step (YldS.yld (y_lenS Tryd.runUnderlying25 hr3 rfl)) rfl ?_
  refine QJ.step (YldS.yld (y_move rfl)) rfl ?_
  refine QJ.step (YldS.yld (y_lenS Tryd.runUnderlying25 hr6 rfl)) rfl ?_
  refine QJ.step (YldS.yld (y_bin rfl rfl rfl)) rfl ?_
  refine QJ.done ?_
  refine PJ.next ?_
  refine WJ.cond (t := ((List.length a1 : Int) != (List.length b4 : Int))) rfl (fun hb7 => ?_) (fun hb7 => ?_)
  · replace hm := ifT hm hb7
    refine WJ.seq ?_
    refine WJ.quiet ?_
    refine QJ.step (YldS.yld (y_assign rfl)) rfl ?_
    refine QJ.done ?_
    refine PJ.next ?_
    refine WJ.ret ?_
    refine PJ.then_ret ?_
    obtain rfl := Option.some.inj hm
    refine PJ.sel (L' := []) [] ⟨List.nodup_nil, rfl⟩ ?_
    exact PJ.retn (vs := [.bool false]) Tryd.results9 ⟨rfl, trivial⟩ ⟨rfl, rfl⟩
  · replace hm := ifF hm hb7
    refine WJ.skip ?_
    refine PJ.next ?_
    obtain ⟨kj8, hk9, hm⟩ := withK_open hm
    refine WJ.join (X := Unit) (fun (_ : Unit) => kj8  = some r) (fun (_ : Unit) => []) (fun (_ : Unit) => []) ?_ ?_
    · clear hk9
      refine WJ.seq ?_
      refine WJ.quiet ?_
      refine QJ.step (YldS.yld (y_assign rfl)) rfl ?_
      refine QJ.done ?_
      refine PJ.next ?_
      refine WJ.block ?_
      refine WJ.sel (L' := (fun (x : Int) => []) 0) [] ⟨List.nodup_nil, rfl⟩ ?_
      refine WJ.sub (m' := (fun (x : Int) => [(0, v2), (1, v5), (5, .int .i64 x)]) 0) ⟨rfl, rfl, rfl, trivial⟩ ?_
      refine WJ.loop (X := Int) (fun N (x : Int) => w_eqSparePartS_l1 kj8 a1 b4 N x = some r) (fun (x : Int) => [(0, v2), (1, v5), (5, .int .i64 x)]) (fun (x : Int) => []) ?_ N 0 hm
      · rintro N i10 hI
        have hm := hI; clear hI
        cases N with
        | zero => cases hm
        | succ N =>
        unfold w_eqSparePartS_l1 at hm
        refine WJ.seq ?_
        refine WJ.seq ?_
        refine WJ.quiet ?_
        refine QJ.step (YldS.yld (y_move rfl)) rfl ?_
        refine QJ.step (YldS.yld (y_move rfl)) rfl ?_
        refine QJ.step (YldS.yld (y_lenS Tryd.runUnderlying25 hr3 rfl)) rfl ?_
        refine QJ.step (YldS.yld (y_bin rfl rfl rfl)) rfl ?_
        refine QJ.done ?_
        refine PJ.next ?_
        refine WJ.cond (t := decide (i10 < (List.length a1 : Int))) rfl (fun hb11 => ?_) (fun hb11 => ?_)
        · replace hm := ifT hm hb11
          refine WJ.skip ?_
          refine PJ.next ?_
          refine WJ.seq ?_
          refine WJ.block ?_
          refine WJ.seq ?_
          refine WJ.quiet_draw follows (by kernel_rfl) ?_
          refine QJ.step (YldS.yld (y_move rfl)) rfl ?_
          refine QJ.step (YldS.yld (y_move rfl)) rfl ?_
          obtain ⟨e12, h13, hm⟩ := bindS hm
          obtain ⟨ad14, _, rfl, ha15, hy16⟩ := hr3.elem h13
          refine QJ.step (YldS.yld (hy16 Tryd.runUnderlying25 Tryd.sizeOf46 rfl rfl)) rfl ?_
          refine QJ.step (YldS.yld (y_loadN Tryd.isAgg46 Tryd.sizeOf46 rfl ha15 St.frozenC rfl)) rfl ?_
          refine QJ.step (YldS.yld (y_move rfl)) rfl ?_
          refine QJ.step (YldS.yld (y_move rfl)) rfl ?_
          obtain ⟨e17, h18, hm⟩ := bindS hm
          obtain ⟨ad19, _, rfl, ha20, hy21⟩ := hr6.elem h18
          refine QJ.step (YldS.yld (hy21 Tryd.runUnderlying25 Tryd.sizeOf46 rfl rfl)) rfl ?_
          refine QJ.step (YldS.yld (y_loadN Tryd.isAgg46 Tryd.sizeOf46 rfl ha20 St.frozenC rfl)) rfl ?_
          obtain ⟨r22, h23, hm⟩ := bindS hm
          refine QJ.step (y_call Tryd.call34 rfl (RetG.quiet fun w hw => ok_w_eqSparePart h23 w )) rfl ?_
          refine QJ.step (YldS.yld (y_not rfl)) rfl ?_
          refine QJ.done ?_
          refine PJ.next ?_
          refine WJ.cond (t := !r22) rfl (fun hb24 => ?_) (fun hb24 => ?_)
          · replace hm := ifT hm hb24
            refine WJ.seq ?_
            refine WJ.quiet ?_
            refine QJ.step (YldS.yld (y_assign rfl)) rfl ?_
            refine QJ.done ?_
            refine PJ.next ?_
            refine WJ.ret ?_
            refine PJ.block_ret (PJ.then_ret (PJ.then_ret (PJ.block_ret (PJ.then_ret ?_))))
            obtain rfl := Option.some.inj hm
            refine PJ.sel (L' := []) [] ⟨List.nodup_nil, rfl⟩ ?_
            exact PJ.retn (vs := [.bool false]) Tryd.results9 ⟨rfl, trivial⟩ ⟨rfl, rfl⟩
          · replace hm := ifF hm hb24
            refine WJ.skip ?_
            refine PJ.block_normal (PJ.next ?_)
            refine WJ.quiet ?_
            refine QJ.step (YldS.yld (y_move rfl)) rfl ?_
            refine QJ.step (YldS.yld (y_bin rfl rfl rfl)) rfl ?_
            refine QJ.step (YldS.yld (y_assign rfl)) rfl ?_
            refine QJ.done ?_
            exact PJ.round (w64 (i10 + 1)) [] hm ⟨rfl, rfl, rfl, trivial⟩ ⟨List.nodup_nil, rfl⟩
        · replace hm := ifF hm hb11
          refine WJ.exit ?_
          refine PJ.then_exit (PJ.then_exit (PJ.block_exit ?_))
          exact PJ.joined () [] hm trivial ⟨List.nodup_nil, rfl⟩
    · rintro _ hm
      subst hk9
      refine WJ.seq ?_
      refine WJ.quiet ?_
      refine QJ.step (YldS.yld (y_assign rfl)) rfl ?_
      refine QJ.done ?_
      refine PJ.next ?_
      refine WJ.ret ?_
      obtain rfl := Option.some.inj hm
      refine PJ.sel (L' := []) [] ⟨List.nodup_nil, rfl⟩ ?_
      exact PJ.retn (vs := [.bool true]) Tryd.results9 ⟨rfl, trivial⟩ ⟨rfl, rfl⟩

set_option maxRecDepth 100000 in
set_option maxHeartbeats 1000000 in
theorem ok_w_FnExactPartText {N : Nat} {aList1 : List SparePart} {aK4 : Int} {r : Bool} (hm : w_FnExactPartText N aList1 aK4 = some r) (w : World) (hT : Tab Tryd.prog tabNm w (cx w).Fz) (v2 : Value) (hr3 : RdS w (cx w).Fz v2 fSparePart.rp aList1) :
    Calls Tryd.prog 3 #[v2, .int .i64 aK4] w (Ret (cx w) (.bool r)) := by
  unfold w_FnExactPartText at hm
  refine Calls.enter [v2, .int .i64 aK4] Tryd.func3 rfl Tryd.ntmps3 rfl ?_
  refine WJ.seq ?_
  refine WJ.quiet ?_
  refine QJ.step (YldS.yld (y_assign rfl)) rfl ?_
  refine QJ.done ?_
  refine PJ.next ?_
  refine WJ.seq ?_
  refine WJ.quiet ?_
  refine QJ.step (YldS.yld (y_assign rfl)) rfl ?_
  refine QJ.done ?_
  refine PJ.next ?_
  refine WJ.seq ?_
  refine WJ.quiet ?_
  refine QJ.step (YldS.yld (y_move rfl)) rfl ?_
  refine QJ.step (YldS.yld (y_move rfl)) rfl ?_
  obtain ⟨r5, h6, hm⟩ := bindS hm
  refine QJ.step (y_call Tryd.call5 rfl (RetG.quiet fun w hw => ok_w_szSparePartS h6 w _ (hr3.st hw))) rfl ?_
  refine QJ.step (YldS.yld (y_assign rfl)) rfl ?_
  refine QJ.done ?_
  refine PJ.next ?_
  refine WJ.seq ?_
  refine WJ.seq ?_
  refine WJ.quiet ?_
  refine QJ.step (YldS.yld (y_move rfl)) rfl ?_
  refine QJ.step (YldS.yld (y_bin rfl rfl rfl)) rfl ?_
  refine QJ.done ?_
  refine PJ.next ?_
  refine WJ.cond (t := decide (r5 < 0)) rfl (fun hb7 => ?_) (fun hb7 => ?_)
  · replace hm := ifT hm hb7
    refine WJ.seq ?_
    refine WJ.quiet ?_
    refine QJ.step (YldS.yld (y_assign rfl)) rfl ?_
    refine QJ.done ?_
    refine PJ.next ?_
    refine WJ.ret ?_
    refine PJ.then_ret ?_
    obtain rfl := Option.some.inj hm
    refine PJ.sel (L' := []) [] ⟨List.nodup_nil, rfl⟩ ?_
    exact PJ.retn (vs := [.bool true]) Tryd.results3 ⟨rfl, trivial⟩ ⟨rfl, rfl⟩
  · replace hm := ifF hm hb7
    refine WJ.skip ?_
    refine PJ.next ?_
    refine WJ.seq ?_
    refine WJ.reg ?_
    refine SJ.q (YldS.yld (y_move rfl)) rfl ?_
    obtain ⟨r8, h9, hm⟩ := bindS hm
    refine SJ.call Tryd.call7 rfl (fun w hw => ok_w_toSparePartS h9 w _ (hr3.st hw)) rfl ?_
    rintro v10 _ ⟨_, rfl, rfl⟩
    refine SJ.q (YldS.yld (y_move rfl)) rfl ?_
    obtain ⟨r11, h12, hm⟩ := bindS hm
    refine SJ.q (y_call Tryd.call6 rfl (RetG.quiet fun w hw => ok_s_PartText h12 w _ (hw.row_rd (k := 0) rfl))) rfl ?_
    refine SJ.q (YldS.yld (y_assign rfl)) rfl ?_
    refine SJ.nil ?_
    refine PJ.next ?_
    refine WJ.seq ?_
    refine WJ.reg ?_
    refine SJ.q (YldS.yld (y_move rfl)) rfl ?_
    obtain ⟨r13, h14, hm⟩ := bindS hm
    refine SJ.call Tryd.call7 rfl (fun w hw => ok_w_toSparePartS h14 w _ (hr3.st hw)) rfl ?_
    rintro v15 _ ⟨_, rfl, rfl⟩
    refine SJ.q (YldS.yld (y_assign rfl)) rfl ?_
    refine SJ.nil ?_
    refine PJ.next ?_
    refine WJ.seq ?_
    refine WJ.quiet ?_
    refine QJ.step (YldS.yld (y_move rfl)) rfl ?_
    refine QJ.step (YldS.yld (y_move rfl)) rfl ?_
    obtain ⟨r16, h17, hm⟩ := bindS hm
    refine QJ.step (y_call Tryd.call8 rfl (RetG.quiet fun w hw => ok_i_PartText h17 w (hT.st hw) _ (hw.row_rd (k := 0) rfl))) rfl ?_
    refine QJ.step (YldS.yld (y_assign rfl)) rfl ?_
    refine QJ.done ?_
    refine PJ.next ?_
    refine WJ.seq ?_
    refine WJ.seq ?_
    refine WJ.quiet ?_
    refine QJ.step (YldS.yld (y_move rfl)) rfl ?_
    refine QJ.step (YldS.yld (y_move rfl)) rfl ?_
    refine QJ.step (YldS.yld (y_binS rfl rfl rfl)) rfl ?_
    refine QJ.done ?_
    refine PJ.next ?_
    refine WJ.cond (t := (r16 != r11)) rfl (fun hb18 => ?_) (fun hb18 => ?_)
    · replace hm := ifT hm hb18
      refine WJ.seq ?_
      refine WJ.quiet ?_
      refine QJ.step (YldS.yld (y_assign rfl)) rfl ?_
      refine QJ.done ?_
      refine PJ.next ?_
      refine WJ.ret ?_
      refine PJ.then_ret ?_
      obtain rfl := Option.some.inj hm
      refine PJ.sel (L' := []) [] ⟨List.nodup_nil, rfl⟩ ?_
      exact PJ.retn (vs := [.bool false]) Tryd.results3 ⟨rfl, trivial⟩ ⟨rfl, rfl⟩
    · replace hm := ifF hm hb18
      refine WJ.skip ?_
      refine PJ.next ?_
      refine WJ.seq ?_
      refine WJ.seq ?_
      refine WJ.reg ?_
      refine SJ.q (YldS.yld (y_move rfl)) rfl ?_
      refine SJ.q (YldS.yld (y_move rfl)) rfl ?_
      obtain ⟨r19, h20, hm⟩ := bindS hm
      refine SJ.call Tryd.call7 rfl (fun w hw => ok_w_toSparePartS h20 w _ (hr3.st hw)) rfl ?_
      rintro v21 _ ⟨_, rfl, rfl⟩
      obtain ⟨r22, h23, hm⟩ := bindS hm
      refine SJ.q (y_call Tryd.call9 rfl (RetG.quiet fun w hw => ok_w_eqSparePartS h23 w _ (hw.row_rd (k := 1) rfl) _ (hw.row_rd (k := 0) rfl))) rfl ?_
      refine SJ.q (YldS.yld (y_not rfl)) rfl ?_
      refine SJ.nil ?_
      refine PJ.next ?_
      refine WJ.cond (t := !r22) rfl (fun hb24 => ?_) (fun hb24 => ?_)
      · replace hm := ifT hm hb24
        refine WJ.seq ?_
        refine WJ.quiet ?_
        refine QJ.step (YldS.yld (y_assign rfl)) rfl ?_
        refine QJ.done ?_
        refine PJ.next ?_
        refine WJ.ret ?_
        refine PJ.then_ret ?_
        obtain rfl := Option.some.inj hm
        refine PJ.sel (L' := []) [] ⟨List.nodup_nil, rfl⟩ ?_
        exact PJ.retn (vs := [.bool false]) Tryd.results3 ⟨rfl, trivial⟩ ⟨rfl, rfl⟩
      · replace hm := ifF hm hb24
        refine WJ.skip ?_
        refine PJ.next ?_
        refine WJ.seq ?_
        refine WJ.quiet ?_
        refine QJ.step (YldS.yld (y_assign rfl)) rfl ?_
        refine QJ.done ?_
        refine PJ.next ?_
        refine WJ.ret ?_
        obtain rfl := Option.some.inj hm
        refine PJ.sel (L' := []) [] ⟨List.nodup_nil, rfl⟩ ?_
        exact PJ.retn (vs := [.bool true]) Tryd.results3 ⟨rfl, trivial⟩ ⟨rfl, rfl⟩

end Go.Proofs.YtdnnnakjhehfkaaDoor
