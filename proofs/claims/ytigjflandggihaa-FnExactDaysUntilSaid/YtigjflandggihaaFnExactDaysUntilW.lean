/-
  The walks: a call hands back what its plain function computes, where that has a value. No other conditions.
-/
import Derived.Test.YtigjflandggihaaFnExactDaysUntilM
import Derived.Test.YtigjflandggihaaChecked
namespace Go.Proofs.Ytigjflandggihaa
open Go.RowKit Go.Proofs
set_option linter.unusedVariables false
set_option linter.unusedSimpArgs false

theorem follows : Try.prog.follows .mixedOrders = true := by kernel_rfl

def SparePart.enc (x : SparePart) : List Value := [str x.name, .int .i64 x.stock, .int .i64 x.target, .int .i64 x.days, .int .i64 x.instead]
def fSparePart : FRp SparePart := ⟨5, SparePart.enc, fun _ => rfl, by decide, fun x u hu => by
  simp only [SparePart.enc, List.mem_cons, List.not_mem_nil, or_false] at hu
  rcases hu with rfl | rfl | rfl | rfl | rfl <;> rfl⟩

theorem fld76_0 : FieldOk Try.prog 76 0 0 9 0 := ⟨_, _, Try.runUnderlying76, rfl, rfl, rfl, Try.sizeOf9⟩
theorem el78 : ElemOk Try.prog 78 5 (fSparePart.enc (SparePart.mk [] 0 0 0 0)) := ⟨_, _, Try.type78, rfl, rfl, rfl, by decide⟩
theorem fld78_0 : FieldOk Try.prog 78 0 0 9 0 := ⟨_, _, Try.runUnderlying78, rfl, rfl, rfl, Try.sizeOf9⟩
theorem fld76_1 : FieldOk Try.prog 76 1 1 2 0 := ⟨_, _, Try.runUnderlying76, rfl, rfl, rfl, Try.sizeOf2⟩
theorem fld78_1 : FieldOk Try.prog 78 1 1 2 0 := ⟨_, _, Try.runUnderlying78, rfl, rfl, rfl, Try.sizeOf2⟩
theorem fld76_2 : FieldOk Try.prog 76 2 2 2 0 := ⟨_, _, Try.runUnderlying76, rfl, rfl, rfl, Try.sizeOf2⟩
theorem fld78_2 : FieldOk Try.prog 78 2 2 2 0 := ⟨_, _, Try.runUnderlying78, rfl, rfl, rfl, Try.sizeOf2⟩
theorem fld76_3 : FieldOk Try.prog 76 3 3 2 0 := ⟨_, _, Try.runUnderlying76, rfl, rfl, rfl, Try.sizeOf2⟩
theorem fld78_3 : FieldOk Try.prog 78 3 3 2 0 := ⟨_, _, Try.runUnderlying78, rfl, rfl, rfl, Try.sizeOf2⟩
theorem fld76_4 : FieldOk Try.prog 76 4 4 2 0 := ⟨_, _, Try.runUnderlying76, rfl, rfl, rfl, Try.sizeOf2⟩
theorem fld78_4 : FieldOk Try.prog 78 4 4 2 0 := ⟨_, _, Try.runUnderlying78, rfl, rfl, rfl, Try.sizeOf2⟩
theorem el2 : ElemOk Try.prog 2 1 (fI64.enc 0) := ⟨_, _, Try.type2, rfl, rfl, rfl, by decide⟩
theorem open76 : Opens Try.prog 76 fSparePart.rp wfSparePart := fun {H enc w sp held fuel cs x} h => by
  obtain ⟨hl, n, hf⟩ := opens_fields Try.underlying76 h
  have hl : cs.length = 5 := by rw [hl]; kernel_rfl
  obtain ⟨y0, hy0⟩ := hf _ (List.mem_of_getElem? (i := 0) rfl)
  obtain ⟨z0, hz0, hw0⟩ := (opens_str Try.underlying9) hy0
  obtain ⟨y1, hy1⟩ := hf _ (List.mem_of_getElem? (i := 1) rfl)
  obtain ⟨z1, hz1, hw1⟩ := (opens_i64 Try.underlying2) hy1
  obtain ⟨y2, hy2⟩ := hf _ (List.mem_of_getElem? (i := 2) rfl)
  obtain ⟨z2, hz2, hw2⟩ := (opens_i64 Try.underlying2) hy2
  obtain ⟨y3, hy3⟩ := hf _ (List.mem_of_getElem? (i := 3) rfl)
  obtain ⟨z3, hz3, hw3⟩ := (opens_i64 Try.underlying2) hy3
  obtain ⟨y4, hy4⟩ := hf _ (List.mem_of_getElem? (i := 4) rfl)
  obtain ⟨z4, hz4, hw4⟩ := (opens_i64 Try.underlying2) hy4
  match cs, hl with
  | [c0, c1, c2, c3, c4], _ =>
  have e0 : [c0] = fStr.enc z0 := hz0
  have e1 : [c1] = fI64.enc z1 := hz1
  have e2 : [c2] = fI64.enc z2 := hz2
  have e3 : [c3] = fI64.enc z3 := hz3
  have e4 : [c4] = fI64.enc z4 := hz4
  refine ⟨⟨z0, z1, z2, z3, z4⟩, ?_, ⟨hw0, hw1, hw2, hw3, hw4⟩⟩
  show [c0, c1, c2, c3, c4] = SparePart.enc _
  simp only [fStr, List.cons.injEq, and_true] at e0
  simp only [fI64, List.cons.injEq, and_true] at e1
  simp only [fI64, List.cons.injEq, and_true] at e2
  simp only [fI64, List.cons.injEq, and_true] at e3
  simp only [fI64, List.cons.injEq, and_true] at e4
  rw [e0, e1, e2, e3, e4]
  rfl


set_option maxRecDepth 100000 in
set_option maxHeartbeats 1000000 in
theorem ok_w_szSparePart {a1 : SparePart} {left2 : Int} {r : Int} (hm : w_szSparePart a1 left2 = some r) (w : World)  :
    Calls Try.prog 50 #[.agg (SparePart.enc a1).toArray, .int .i64 left2] w (Ret (cx w) (.int .i64 r)) := by
  unfold w_szSparePart at hm
  refine Calls.enter [.agg (SparePart.enc a1).toArray, .int .i64 left2] Try.func50 rfl Try.ntmps50 rfl ?_
  refine WJ.seq ?_
  refine WJ.reg ?_
  refine SJ.box (cs := [str a1.name, .int .i64 a1.stock, .int .i64 a1.target, .int .i64 a1.days, .int .i64 a1.instead]) rfl rfl rfl fun g3 => ?_
  refine SJ.q (y_assign rfl) rfl ?_
  refine SJ.nil ?_
  refine PJ.next ?_
  refine WJ.seq ?_
  refine WJ.quiet ?_
  refine QJ.step (y_move rfl) rfl ?_
  refine QJ.step (y_fldB (o := 0) fld76_0 rfl) rfl ?_
  refine QJ.step (y_loadB (k := 0) (off := 0) (v := str a1.name) rfl Try.isAgg9 rfl rfl) rfl ?_
  refine QJ.step (y_lenStr Try.runUnderlying9 rfl) rfl ?_
  refine QJ.step (y_bin rfl rfl rfl) rfl ?_
  refine QJ.step (y_assign rfl) rfl ?_
  refine QJ.done ?_
  refine PJ.next ?_
  refine WJ.seq ?_
  refine WJ.seq ?_
  refine WJ.quiet ?_
  refine QJ.step (y_move rfl) rfl ?_
  refine QJ.step (y_bin rfl rfl rfl) rfl ?_
  refine QJ.done ?_
  refine PJ.next ?_
  refine WJ.cond (t := decide ((w64 (left2 - (List.length a1.name : Int))) < 0)) rfl (fun hb4 => ?_) (fun hb4 => ?_)
  · replace hm := ifT hm hb4
    refine WJ.seq ?_
    refine WJ.quiet ?_
    refine QJ.step (y_assign rfl) rfl ?_
    refine QJ.done ?_
    refine PJ.next ?_
    refine WJ.ret ?_
    refine PJ.then_ret ?_
    obtain rfl := Option.some.inj hm
    refine PJ.sel (L' := []) [] ⟨List.nodup_nil, rfl⟩ ?_
    exact PJ.retn (vs := [.int .i64 (-1)]) Try.results50 ⟨rfl, trivial⟩ ⟨rfl, rfl⟩
  · replace hm := ifF hm hb4
    refine WJ.skip ?_
    refine PJ.next ?_
    refine WJ.seq ?_
    refine WJ.quiet ?_
    refine QJ.step (y_move rfl) rfl ?_
    refine QJ.step (y_assign rfl) rfl ?_
    refine QJ.done ?_
    refine PJ.next ?_
    refine WJ.ret ?_
    obtain rfl := Option.some.inj hm
    refine PJ.sel (L' := []) [] ⟨List.nodup_nil, rfl⟩ ?_
    exact PJ.retn (vs := [.int .i64 (w64 (left2 - (List.length a1.name : Int)))]) Try.results50 ⟨rfl, trivial⟩ ⟨rfl, rfl⟩

set_option maxRecDepth 100000 in
set_option maxHeartbeats 1000000 in
theorem ok_w_szSparePartS {N : Nat} {a1 : List SparePart} {left4 : Int} {r : Int} (hm : w_szSparePartS N a1 left4 = some r) (w : World) (v2 : Value) (hr3 : RdS w (cx w).Fz v2 fSparePart.rp a1) :
    Calls Try.prog 26 #[v2, .int .i64 left4] w (Ret (cx w) (.int .i64 r)) := by
  unfold w_szSparePartS at hm
  refine Calls.enter [v2, .int .i64 left4] Try.func26 rfl Try.ntmps26 rfl ?_
  refine WJ.seq ?_
  refine WJ.quiet ?_
  refine QJ.step (y_assign rfl) rfl ?_
  refine QJ.done ?_
  refine PJ.next ?_
  refine WJ.seq ?_
  refine WJ.quiet ?_
  refine QJ.step (y_move rfl) rfl ?_
  refine QJ.step (y_move rfl) rfl ?_
  refine QJ.step (y_lenS Try.runUnderlying44 hr3 rfl) rfl ?_
  refine QJ.step (y_bin rfl rfl rfl) rfl ?_
  refine QJ.step (y_assign rfl) rfl ?_
  refine QJ.done ?_
  refine PJ.next ?_
  refine WJ.seq ?_
  refine WJ.seq ?_
  refine WJ.quiet ?_
  refine QJ.step (y_move rfl) rfl ?_
  refine QJ.step (y_bin rfl rfl rfl) rfl ?_
  refine QJ.done ?_
  refine PJ.next ?_
  refine WJ.cond (t := decide ((w64 (left4 - (List.length a1 : Int))) < 0)) rfl (fun hb5 => ?_) (fun hb5 => ?_)
  · replace hm := ifT hm hb5
    refine WJ.seq ?_
    refine WJ.quiet ?_
    refine QJ.step (y_assign rfl) rfl ?_
    refine QJ.done ?_
    refine PJ.next ?_
    refine WJ.ret ?_
    refine PJ.then_ret ?_
    obtain rfl := Option.some.inj hm
    refine PJ.sel (L' := []) [] ⟨List.nodup_nil, rfl⟩ ?_
    exact PJ.retn (vs := [.int .i64 (-1)]) Try.results26 ⟨rfl, trivial⟩ ⟨rfl, rfl⟩
  · replace hm := ifF hm hb5
    refine WJ.skip ?_
    refine PJ.next ?_
    obtain ⟨k7, hk8, hm⟩ := withK_open hm
    refine WJ.join (X := Int) (fun (x : Int) => k7 x = some r) (fun (x : Int) => [(1, .int .i64 x)]) (fun (x : Int) => []) ?_ ?_
    · clear hk8
      refine WJ.seq ?_
      refine WJ.quiet ?_
      refine QJ.step (y_assign rfl) rfl ?_
      refine QJ.done ?_
      refine PJ.next ?_
      refine WJ.block ?_
      refine WJ.sel (L' := (fun (x : Int × Int) => []) (w64 (left4 - (List.length a1 : Int)), 0)) [] ⟨List.nodup_nil, rfl⟩ ?_
      refine WJ.sub (m' := (fun (x : Int × Int) => [(0, v2), (1, .int .i64 x.1), (5, .int .i64 x.2)]) (w64 (left4 - (List.length a1 : Int)), 0)) ⟨rfl, rfl, rfl, trivial⟩ ?_
      refine WJ.loop (X := Int × Int) (fun N (x : Int × Int) => w_szSparePartS_l1 k7 a1 N x.1 x.2 = some r) (fun (x : Int × Int) => [(0, v2), (1, .int .i64 x.1), (5, .int .i64 x.2)]) (fun (x : Int × Int) => []) ?_ N (w64 (left4 - (List.length a1 : Int)), 0) hm
      · rintro N ⟨left9, i10⟩ hI
        have hm := hI; clear hI
        cases N with
        | zero => cases hm
        | succ N =>
        unfold w_szSparePartS_l1 at hm
        refine WJ.seq ?_
        refine WJ.seq ?_
        refine WJ.quiet ?_
        refine QJ.step (y_move rfl) rfl ?_
        refine QJ.step (y_move rfl) rfl ?_
        refine QJ.step (y_lenS Try.runUnderlying44 hr3 rfl) rfl ?_
        refine QJ.step (y_bin rfl rfl rfl) rfl ?_
        refine QJ.done ?_
        refine PJ.next ?_
        refine WJ.cond (t := decide (i10 < (List.length a1 : Int))) rfl (fun hb11 => ?_) (fun hb11 => ?_)
        · replace hm := ifT hm hb11
          refine WJ.skip ?_
          refine PJ.next ?_
          refine WJ.seq ?_
          refine WJ.block ?_
          refine WJ.seq ?_
          refine WJ.quiet ?_
          refine QJ.step (y_move rfl) rfl ?_
          refine QJ.step (y_move rfl) rfl ?_
          obtain ⟨e12, h13, hm⟩ := bindS hm
          obtain ⟨ad14, _, rfl, ha15, hy16⟩ := hr3.elem h13
          refine QJ.step (hy16 Try.runUnderlying44 Try.sizeOf76 rfl rfl) rfl ?_
          refine QJ.step (y_loadN Try.isAgg76 Try.sizeOf76 rfl ha15 St.frozenC rfl) rfl ?_
          refine QJ.step (y_move rfl) rfl ?_
          obtain ⟨r17, h18, hm⟩ := bindS hm
          refine QJ.step (y_call Try.call50 rfl (RetG.quiet fun w hw => ok_w_szSparePart h18 w )) rfl ?_
          refine QJ.step (y_assign rfl) rfl ?_
          refine QJ.done ?_
          refine PJ.next ?_
          refine WJ.seq ?_
          refine WJ.quiet ?_
          refine QJ.step (y_move rfl) rfl ?_
          refine QJ.step (y_bin rfl rfl rfl) rfl ?_
          refine QJ.done ?_
          refine PJ.next ?_
          refine WJ.cond (t := decide (r17 < 0)) rfl (fun hb19 => ?_) (fun hb19 => ?_)
          · replace hm := ifT hm hb19
            refine WJ.seq ?_
            refine WJ.quiet ?_
            refine QJ.step (y_assign rfl) rfl ?_
            refine QJ.done ?_
            refine PJ.next ?_
            refine WJ.ret ?_
            refine PJ.block_ret (PJ.then_ret (PJ.then_ret (PJ.block_ret (PJ.then_ret ?_))))
            obtain rfl := Option.some.inj hm
            refine PJ.sel (L' := []) [] ⟨List.nodup_nil, rfl⟩ ?_
            exact PJ.retn (vs := [.int .i64 (-1)]) Try.results26 ⟨rfl, trivial⟩ ⟨rfl, rfl⟩
          · replace hm := ifF hm hb19
            refine WJ.skip ?_
            refine PJ.block_normal (PJ.next ?_)
            refine WJ.quiet ?_
            refine QJ.step (y_move rfl) rfl ?_
            refine QJ.step (y_bin rfl rfl rfl) rfl ?_
            refine QJ.step (y_assign rfl) rfl ?_
            refine QJ.done ?_
            exact PJ.round (r17, w64 (i10 + 1)) [] hm ⟨rfl, rfl, rfl, trivial⟩ ⟨List.nodup_nil, rfl⟩
        · replace hm := ifF hm hb11
          refine WJ.exit ?_
          refine PJ.then_exit (PJ.then_exit (PJ.block_exit ?_))
          exact PJ.joined left9 [] hm ⟨rfl, trivial⟩ ⟨List.nodup_nil, rfl⟩
    · rintro left6 hm
      subst hk8
      refine WJ.seq ?_
      refine WJ.quiet ?_
      refine QJ.step (y_move rfl) rfl ?_
      refine QJ.step (y_assign rfl) rfl ?_
      refine QJ.done ?_
      refine PJ.next ?_
      refine WJ.ret ?_
      obtain rfl := Option.some.inj hm
      refine PJ.sel (L' := []) [] ⟨List.nodup_nil, rfl⟩ ?_
      exact PJ.retn (vs := [.int .i64 left6]) Try.results26 ⟨rfl, trivial⟩ ⟨rfl, rfl⟩

set_option maxRecDepth 100000 in
set_option maxHeartbeats 1000000 in
theorem ok_w_toSparePart {a1 : SparePart} {r : SparePart} (hm : w_toSparePart a1 = some r) (w : World)  :
    Calls Try.prog 52 #[.agg (SparePart.enc a1).toArray] w (Ret (cx w) (.agg (SparePart.enc r).toArray)) := by
  unfold w_toSparePart at hm
  refine Calls.enter [.agg (SparePart.enc a1).toArray] Try.func52 rfl Try.ntmps52 rfl ?_
  refine WJ.seq ?_
  refine WJ.reg ?_
  refine SJ.box (cs := [str a1.name, .int .i64 a1.stock, .int .i64 a1.target, .int .i64 a1.days, .int .i64 a1.instead]) rfl rfl rfl fun g2 => ?_
  refine SJ.alloc (cs := [str [], .int .i64 0, .int .i64 0, .int .i64 0, .int .i64 0]) Try.zeroValue78 rfl rfl fun g3 => ?_
  refine SJ.nil ?_
  refine PJ.next ?_
  refine WJ.seq ?_
  refine WJ.reg ?_
  refine SJ.alloc (cs := [str [], .int .i64 0, .int .i64 0, .int .i64 0, .int .i64 0]) Try.zeroValue78 rfl rfl fun g4 => ?_
  refine SJ.nil ?_
  refine PJ.next ?_
  refine WJ.seq ?_
  refine WJ.reg ?_
  refine SJ.q (y_fldB (o := 0) fld76_0 rfl) rfl ?_
  refine SJ.q (y_loadB (k := 2) (off := 0) (v := str a1.name) rfl Try.isAgg9 rfl rfl) rfl ?_
  refine SJ.q (y_fldB (o := 0) fld78_0 rfl) rfl ?_
  refine SJ.storeL (k := 0) (off := 0) (us := [str a1.name]) rfl rfl rfl rfl Try.sizeOf9 rfl rfl ?_
  refine SJ.nil ?_
  refine PJ.next ?_
  refine WJ.seq ?_
  refine WJ.reg ?_
  refine SJ.q (y_fldB (o := 0) fld76_1 rfl) rfl ?_
  refine SJ.q (y_loadB (k := 2) (off := 1) (v := .int .i64 a1.stock) rfl Try.isAgg2 rfl rfl) rfl ?_
  refine SJ.q (y_fldB (o := 0) fld78_1 rfl) rfl ?_
  refine SJ.storeL (k := 0) (off := 1) (us := [.int .i64 a1.stock]) rfl rfl rfl rfl Try.sizeOf2 rfl rfl ?_
  refine SJ.nil ?_
  refine PJ.next ?_
  refine WJ.seq ?_
  refine WJ.reg ?_
  refine SJ.q (y_fldB (o := 0) fld76_2 rfl) rfl ?_
  refine SJ.q (y_loadB (k := 2) (off := 2) (v := .int .i64 a1.target) rfl Try.isAgg2 rfl rfl) rfl ?_
  refine SJ.q (y_fldB (o := 0) fld78_2 rfl) rfl ?_
  refine SJ.storeL (k := 0) (off := 2) (us := [.int .i64 a1.target]) rfl rfl rfl rfl Try.sizeOf2 rfl rfl ?_
  refine SJ.nil ?_
  refine PJ.next ?_
  refine WJ.seq ?_
  refine WJ.reg ?_
  refine SJ.q (y_fldB (o := 0) fld76_3 rfl) rfl ?_
  refine SJ.q (y_loadB (k := 2) (off := 3) (v := .int .i64 a1.days) rfl Try.isAgg2 rfl rfl) rfl ?_
  refine SJ.q (y_fldB (o := 0) fld78_3 rfl) rfl ?_
  refine SJ.storeL (k := 0) (off := 3) (us := [.int .i64 a1.days]) rfl rfl rfl rfl Try.sizeOf2 rfl rfl ?_
  refine SJ.nil ?_
  refine PJ.next ?_
  refine WJ.seq ?_
  refine WJ.reg ?_
  refine SJ.q (y_fldB (o := 0) fld76_4 rfl) rfl ?_
  refine SJ.q (y_loadB (k := 2) (off := 4) (v := .int .i64 a1.instead) rfl Try.isAgg2 rfl rfl) rfl ?_
  refine SJ.q (y_fldB (o := 0) fld78_4 rfl) rfl ?_
  refine SJ.storeL (k := 0) (off := 4) (us := [.int .i64 a1.instead]) rfl rfl rfl rfl Try.sizeOf2 rfl rfl ?_
  refine SJ.nil ?_
  refine PJ.next ?_
  refine WJ.seq ?_
  refine WJ.reg ?_
  refine SJ.q (y_loadBN (k := 0) (off := 0) (us := [str a1.name, .int .i64 a1.stock, .int .i64 a1.target, .int .i64 a1.days, .int .i64 a1.instead]) rfl Try.isAgg78 Try.sizeOf78 rfl rfl) rfl ?_
  refine SJ.storeL (k := 1) (off := 0) (us := [str a1.name, .int .i64 a1.stock, .int .i64 a1.target, .int .i64 a1.days, .int .i64 a1.instead]) rfl rfl rfl rfl Try.sizeOf78 rfl rfl ?_
  refine SJ.nil ?_
  refine PJ.next ?_
  refine WJ.ret ?_
  obtain rfl := Option.some.inj hm
  exact PJ.retn_sel (vs := [.agg #[str a1.name, .int .i64 a1.stock, .int .i64 a1.target, .int .i64 a1.days, .int .i64 a1.instead]]) Try.results52 ⟨⟨1, g3, 78, [str a1.name, .int .i64 a1.stock, .int .i64 a1.target, .int .i64 a1.days, .int .i64 a1.instead], rfl, rfl, .inl ⟨Try.isAgg78, Try.sizeOf78, rfl⟩⟩, trivial⟩ [] ⟨List.nodup_nil, rfl⟩ ⟨rfl, rfl⟩

set_option maxRecDepth 100000 in
set_option maxHeartbeats 1000000 in
theorem ok_w_toSparePartS {N : Nat} {a1 : List SparePart} {r : (List SparePart)} (hm : w_toSparePartS N a1 = some r) (w : World) (v2 : Value) (hr3 : RdS w (cx w).Fz v2 fSparePart.rp a1) :
    Calls Try.prog 28 #[v2] w (RetG (cx w) fun u L => ∃ (u1 : Value), (u = u1 ∧ L = [row u1 78 fSparePart r])) := by
  unfold w_toSparePartS at hm
  refine Calls.enter [v2] Try.func28 rfl Try.ntmps28 rfl ?_
  refine WJ.seq ?_
  refine WJ.quiet ?_
  refine QJ.step (y_assign rfl) rfl ?_
  refine QJ.done ?_
  refine PJ.next ?_
  refine WJ.seq ?_
  refine WJ.reg ?_
  refine SJ.q (y_move rfl) rfl ?_
  refine SJ.q (y_lenS Try.runUnderlying44 hr3 rfl) rfl ?_
  obtain ⟨l4, h5, hm⟩ := bindS hm
  refine SJ.makeSlice (R := fSparePart) (z := (SparePart.mk [] 0 0 0 0)) h5 Try.underlying47 el78 rfl rfl rfl fun v6 => ?_
  refine SJ.q (y_assign rfl) rfl ?_
  refine SJ.nil ?_
  refine PJ.next ?_
  obtain ⟨k8, hk9, hm⟩ := withK_open hm
  refine WJ.join (X := (List SparePart)) (fun (x : (List SparePart)) => k8 x = some r) (fun (x : (List SparePart)) => [(3, v6)]) (fun (x : (List SparePart)) => [row v6 78 fSparePart x]) ?_ ?_
  · clear hk9
    refine WJ.seq ?_
    refine WJ.quiet ?_
    refine QJ.step (y_assign rfl) rfl ?_
    refine QJ.done ?_
    refine PJ.next ?_
    refine WJ.block ?_
    refine WJ.sel (L' := (fun (x : (List SparePart) × Int) => [row v6 78 fSparePart x.1]) (l4, 0)) [0] ⟨by decide, rfl⟩ ?_
    refine WJ.sub (m' := (fun (x : (List SparePart) × Int) => [(0, v2), (3, v6), (4, .int .i64 x.2)]) (l4, 0)) ⟨rfl, rfl, rfl, trivial⟩ ?_
    refine WJ.loop (X := (List SparePart) × Int) (fun N (x : (List SparePart) × Int) => w_toSparePartS_l1 k8 a1 N x.1 x.2 = some r) (fun (x : (List SparePart) × Int) => [(0, v2), (3, v6), (4, .int .i64 x.2)]) (fun (x : (List SparePart) × Int) => [row v6 78 fSparePart x.1]) ?_ N (l4, 0) hm
    · rintro N ⟨l10, i11⟩ hI
      have hm := hI; clear hI
      cases N with
      | zero => cases hm
      | succ N =>
      unfold w_toSparePartS_l1 at hm
      refine WJ.seq ?_
      refine WJ.seq ?_
      refine WJ.quiet ?_
      refine QJ.step (y_move rfl) rfl ?_
      refine QJ.step (y_move rfl) rfl ?_
      refine QJ.step (y_lenS Try.runUnderlying44 hr3 rfl) rfl ?_
      refine QJ.step (y_bin rfl rfl rfl) rfl ?_
      refine QJ.done ?_
      refine PJ.next ?_
      refine WJ.cond (t := decide (i11 < (List.length a1 : Int))) rfl (fun hb12 => ?_) (fun hb12 => ?_)
      · replace hm := ifT hm hb12
        refine WJ.skip ?_
        refine PJ.next ?_
        refine WJ.seq ?_
        refine WJ.block ?_
        refine WJ.reg ?_
        refine SJ.q (y_move rfl) rfl ?_
        refine SJ.q (y_move rfl) rfl ?_
        refine SJ.q (y_move rfl) rfl ?_
        refine SJ.q (y_move rfl) rfl ?_
        obtain ⟨e13, h14, hm⟩ := bindS hm
        obtain ⟨ad15, _, rfl, ha16, hy17⟩ := hr3.elem h14
        refine SJ.q (hy17 Try.runUnderlying44 Try.sizeOf76 rfl rfl) rfl ?_
        refine SJ.q (y_loadN Try.isAgg76 Try.sizeOf76 rfl ha16 St.frozenC rfl) rfl ?_
        obtain ⟨r18, h19, hm⟩ := bindS hm
        refine SJ.q (y_call Try.call52 rfl (RetG.quiet fun w hw => ok_w_toSparePart h19 w )) rfl ?_
        obtain ⟨e20, h21, hm⟩ := bindS hm
        refine SJ.q (y_ixRow (k := 0) (R := fSparePart) rfl Try.runUnderlying47 Try.sizeOf78 rfl rfl h21) rfl ?_
        refine SJ.storeRL (k := 0) (i := (Int.toNat i11)) (off := 0) (us := [str r18.name, .int .i64 r18.stock, .int .i64 r18.target, .int .i64 r18.days, .int .i64 r18.instead]) (b := r18) rfl rfl (idx_get h21) rfl rfl Try.sizeOf78 rfl rfl rfl ?_
        refine SJ.nil ?_
        refine PJ.block_normal (PJ.next ?_)
        refine WJ.quiet ?_
        refine QJ.step (y_move rfl) rfl ?_
        refine QJ.step (y_bin rfl rfl rfl) rfl ?_
        refine QJ.step (y_assign rfl) rfl ?_
        refine QJ.done ?_
        exact PJ.round ((List.set l10 (Int.toNat i11) r18), w64 (i11 + 1)) [0] hm ⟨rfl, rfl, rfl, trivial⟩ ⟨by decide, rfl⟩
      · replace hm := ifF hm hb12
        refine WJ.exit ?_
        refine PJ.then_exit (PJ.then_exit (PJ.block_exit ?_))
        exact PJ.joined l10 [0] hm ⟨rfl, trivial⟩ ⟨by decide, rfl⟩
  · rintro l7 hm
    subst hk9
    refine WJ.seq ?_
    refine WJ.quiet ?_
    refine QJ.step (y_move rfl) rfl ?_
    refine QJ.step (y_assign rfl) rfl ?_
    refine QJ.done ?_
    refine PJ.next ?_
    refine WJ.ret ?_
    obtain rfl := Option.some.inj hm
    refine PJ.sel (L' := [row v6 78 fSparePart l7]) [0] ⟨by decide, rfl⟩ ?_
    exact PJ.retn (vs := [v6]) Try.results28 ⟨rfl, trivial⟩ ⟨_, rfl, rfl⟩

set_option maxRecDepth 100000 in
set_option maxHeartbeats 1000000 in
theorem ok_w_toInt64S {N : Nat} {a1 : List Int} {r : (List Int)} (hm : w_toInt64S N a1 = some r) (w : World) (v2 : Value) (hr3 : RdS w (cx w).Fz v2 fI64.rp a1) :
    Calls Try.prog 20 #[v2] w (RetG (cx w) fun u L => ∃ (u1 : Value), (u = u1 ∧ L = [row u1 2 fI64 r])) := by
  unfold w_toInt64S at hm
  refine Calls.enter [v2] Try.func20 rfl Try.ntmps20 rfl ?_
  refine WJ.seq ?_
  refine WJ.quiet ?_
  refine QJ.step (y_assign rfl) rfl ?_
  refine QJ.done ?_
  refine PJ.next ?_
  refine WJ.seq ?_
  refine WJ.reg ?_
  refine SJ.q (y_move rfl) rfl ?_
  refine SJ.q (y_lenS Try.runUnderlying32 hr3 rfl) rfl ?_
  obtain ⟨l4, h5, hm⟩ := bindS hm
  refine SJ.makeSlice (R := fI64) (z := 0) h5 Try.underlying32 el2 rfl rfl rfl fun v6 => ?_
  refine SJ.q (y_assign rfl) rfl ?_
  refine SJ.nil ?_
  refine PJ.next ?_
  obtain ⟨k8, hk9, hm⟩ := withK_open hm
  refine WJ.join (X := (List Int)) (fun (x : (List Int)) => k8 x = some r) (fun (x : (List Int)) => [(3, v6)]) (fun (x : (List Int)) => [row v6 2 fI64 x]) ?_ ?_
  · clear hk9
    refine WJ.seq ?_
    refine WJ.quiet ?_
    refine QJ.step (y_assign rfl) rfl ?_
    refine QJ.done ?_
    refine PJ.next ?_
    refine WJ.block ?_
    refine WJ.sel (L' := (fun (x : (List Int) × Int) => [row v6 2 fI64 x.1]) (l4, 0)) [0] ⟨by decide, rfl⟩ ?_
    refine WJ.sub (m' := (fun (x : (List Int) × Int) => [(0, v2), (3, v6), (4, .int .i64 x.2)]) (l4, 0)) ⟨rfl, rfl, rfl, trivial⟩ ?_
    refine WJ.loop (X := (List Int) × Int) (fun N (x : (List Int) × Int) => w_toInt64S_l1 k8 a1 N x.1 x.2 = some r) (fun (x : (List Int) × Int) => [(0, v2), (3, v6), (4, .int .i64 x.2)]) (fun (x : (List Int) × Int) => [row v6 2 fI64 x.1]) ?_ N (l4, 0) hm
    · rintro N ⟨l10, i11⟩ hI
      have hm := hI; clear hI
      cases N with
      | zero => cases hm
      | succ N =>
      unfold w_toInt64S_l1 at hm
      refine WJ.seq ?_
      refine WJ.seq ?_
      refine WJ.quiet ?_
      refine QJ.step (y_move rfl) rfl ?_
      refine QJ.step (y_move rfl) rfl ?_
      refine QJ.step (y_lenS Try.runUnderlying32 hr3 rfl) rfl ?_
      refine QJ.step (y_bin rfl rfl rfl) rfl ?_
      refine QJ.done ?_
      refine PJ.next ?_
      refine WJ.cond (t := decide (i11 < (List.length a1 : Int))) rfl (fun hb12 => ?_) (fun hb12 => ?_)
      · replace hm := ifT hm hb12
        refine WJ.skip ?_
        refine PJ.next ?_
        refine WJ.seq ?_
        refine WJ.block ?_
        refine WJ.reg ?_
        refine SJ.q (y_move rfl) rfl ?_
        refine SJ.q (y_move rfl) rfl ?_
        refine SJ.q (y_move rfl) rfl ?_
        refine SJ.q (y_move rfl) rfl ?_
        obtain ⟨e13, h14, hm⟩ := bindS hm
        obtain ⟨ad15, _, rfl, ha16, hy17⟩ := hr3.elem h14
        refine SJ.q (hy17 Try.runUnderlying32 Try.sizeOf2 rfl rfl) rfl ?_
        refine SJ.q (y_load1 (v := .int .i64 e13) Try.isAgg2 ha16 St.frozenC rfl) rfl ?_
        obtain ⟨e18, h19, hm⟩ := bindS hm
        refine SJ.q (y_ixRow (k := 0) (R := fI64) rfl Try.runUnderlying32 Try.sizeOf2 rfl rfl h19) rfl ?_
        refine SJ.storeRL (k := 0) (i := (Int.toNat i11)) (off := 0) (us := [.int .i64 e13]) (b := e13) rfl rfl (idx_get h19) rfl rfl Try.sizeOf2 rfl rfl rfl ?_
        refine SJ.nil ?_
        refine PJ.block_normal (PJ.next ?_)
        refine WJ.quiet ?_
        refine QJ.step (y_move rfl) rfl ?_
        refine QJ.step (y_bin rfl rfl rfl) rfl ?_
        refine QJ.step (y_assign rfl) rfl ?_
        refine QJ.done ?_
        exact PJ.round ((List.set l10 (Int.toNat i11) e13), w64 (i11 + 1)) [0] hm ⟨rfl, rfl, rfl, trivial⟩ ⟨by decide, rfl⟩
      · replace hm := ifF hm hb12
        refine WJ.exit ?_
        refine PJ.then_exit (PJ.then_exit (PJ.block_exit ?_))
        exact PJ.joined l10 [0] hm ⟨rfl, trivial⟩ ⟨by decide, rfl⟩
  · rintro l7 hm
    subst hk9
    refine WJ.seq ?_
    refine WJ.quiet ?_
    refine QJ.step (y_move rfl) rfl ?_
    refine QJ.step (y_assign rfl) rfl ?_
    refine QJ.done ?_
    refine PJ.next ?_
    refine WJ.ret ?_
    obtain rfl := Option.some.inj hm
    refine PJ.sel (L' := [row v6 2 fI64 l7]) [0] ⟨by decide, rfl⟩ ?_
    exact PJ.retn (vs := [v6]) Try.results20 ⟨rfl, trivial⟩ ⟨_, rfl, rfl⟩

set_option maxRecDepth 100000 in
set_option maxHeartbeats 1000000 in
theorem ok_s_l01Small {c1 : UInt8} {r : Bool} (hm : s_l01Small c1 = some r) (w : World)  :
    Calls Try.prog 70 #[.int .u8 (UInt8.toNat c1 : Int)] w (Ret (cx w) (.bool r)) := by
  unfold s_l01Small at hm
  refine Calls.enter [.int .u8 (UInt8.toNat c1 : Int)] Try.func70 rfl Try.ntmps70 rfl ?_
  refine WJ.seq ?_
  refine WJ.quiet ?_
  refine QJ.step (y_assign rfl) rfl ?_
  refine QJ.done ?_
  refine PJ.next ?_
  refine WJ.seq ?_
  refine WJ.quiet ?_
  refine QJ.step (y_move rfl) rfl ?_
  refine QJ.step (y_bin8 c1 (97 : UInt8) rfl rfl rfl) rfl ?_
  refine QJ.step (y_move rfl) rfl ?_
  obtain ⟨t2, h3, hm⟩ := bindS hm
  refine QJ.cut 3 [(8, .bool t2)] ?_ ?_
  · rcases Bool.eq_false_or_eq_true (decide (c1 ≥ (97 : UInt8))) with hb4 | hb4
    · replace h3 := andT h3 hb4
      refine QJ.on rfl rfl (cB hb4) (y_move rfl) rfl ?_
      refine QJ.on rfl rfl (cB hb4) (y_bin8 c1 (122 : UInt8) rfl rfl rfl) rfl ?_
      refine QJ.step (y_pick_t (cB hb4) rfl) rfl ?_
      obtain rfl := Option.some.inj h3
      exact QJ.cut_end ⟨rfl, trivial⟩
    · obtain rfl := andF h3 hb4
      refine QJ.off rfl rfl (cB hb4) rfl rfl ?_
      refine QJ.off rfl rfl (cB hb4) rfl rfl ?_
      refine QJ.step (y_pick_f (cB hb4) rfl) rfl ?_
      exact QJ.cut_end ⟨rfl, trivial⟩
  refine QJ.step (y_assign rfl) rfl ?_
  refine QJ.done ?_
  refine PJ.next ?_
  refine WJ.ret ?_
  obtain rfl := Option.some.inj hm
  refine PJ.sel (L' := []) [] ⟨List.nodup_nil, rfl⟩ ?_
  exact PJ.retn (vs := [.bool t2]) Try.results70 ⟨rfl, trivial⟩ ⟨rfl, rfl⟩

set_option maxRecDepth 100000 in
set_option maxHeartbeats 1000000 in
theorem ok_s_l01Digit {c1 : UInt8} {r : Bool} (hm : s_l01Digit c1 = some r) (w : World)  :
    Calls Try.prog 71 #[.int .u8 (UInt8.toNat c1 : Int)] w (Ret (cx w) (.bool r)) := by
  unfold s_l01Digit at hm
  refine Calls.enter [.int .u8 (UInt8.toNat c1 : Int)] Try.func71 rfl Try.ntmps71 rfl ?_
  refine WJ.seq ?_
  refine WJ.quiet ?_
  refine QJ.step (y_assign rfl) rfl ?_
  refine QJ.done ?_
  refine PJ.next ?_
  refine WJ.seq ?_
  refine WJ.quiet ?_
  refine QJ.step (y_move rfl) rfl ?_
  refine QJ.step (y_bin8 c1 (48 : UInt8) rfl rfl rfl) rfl ?_
  refine QJ.step (y_move rfl) rfl ?_
  obtain ⟨t2, h3, hm⟩ := bindS hm
  refine QJ.cut 3 [(8, .bool t2)] ?_ ?_
  · rcases Bool.eq_false_or_eq_true (decide (c1 ≥ (48 : UInt8))) with hb4 | hb4
    · replace h3 := andT h3 hb4
      refine QJ.on rfl rfl (cB hb4) (y_move rfl) rfl ?_
      refine QJ.on rfl rfl (cB hb4) (y_bin8 c1 (57 : UInt8) rfl rfl rfl) rfl ?_
      refine QJ.step (y_pick_t (cB hb4) rfl) rfl ?_
      obtain rfl := Option.some.inj h3
      exact QJ.cut_end ⟨rfl, trivial⟩
    · obtain rfl := andF h3 hb4
      refine QJ.off rfl rfl (cB hb4) rfl rfl ?_
      refine QJ.off rfl rfl (cB hb4) rfl rfl ?_
      refine QJ.step (y_pick_f (cB hb4) rfl) rfl ?_
      exact QJ.cut_end ⟨rfl, trivial⟩
  refine QJ.step (y_assign rfl) rfl ?_
  refine QJ.done ?_
  refine PJ.next ?_
  refine WJ.ret ?_
  obtain rfl := Option.some.inj hm
  refine PJ.sel (L' := []) [] ⟨List.nodup_nil, rfl⟩ ?_
  exact PJ.retn (vs := [.bool t2]) Try.results71 ⟨rfl, trivial⟩ ⟨rfl, rfl⟩

set_option maxRecDepth 100000 in
set_option maxHeartbeats 1000000 in
theorem ok_s_IsName {N : Nat} {s1 : Str} {r : Bool} (hm : s_IsName N s1 = some r) (w : World)  :
    Calls Try.prog 67 #[str s1] w (Ret (cx w) (.bool r)) := by
  unfold s_IsName at hm
  refine Calls.enter [str s1] Try.func67 rfl Try.ntmps67 rfl ?_
  refine WJ.seq ?_
  refine WJ.quiet ?_
  refine QJ.step (y_assign rfl) rfl ?_
  refine QJ.done ?_
  refine PJ.next ?_
  refine WJ.seq ?_
  refine WJ.seq ?_
  refine WJ.quiet ?_
  refine QJ.step (y_move rfl) rfl ?_
  refine QJ.step (y_binS rfl rfl rfl) rfl ?_
  refine QJ.step (y_move rfl) rfl ?_
  obtain ⟨t2, h3, hm⟩ := bindS hm
  refine QJ.cut 4 [(0, str s1), (10, .bool t2)] ?_ ?_
  · rcases Bool.eq_false_or_eq_true (s1 == []) with hb4 | hb4
    · obtain rfl := orT h3 hb4
      refine QJ.off rfl rfl (cB hb4) rfl rfl ?_
      refine QJ.off rfl rfl (cB hb4) rfl rfl ?_
      refine QJ.off rfl rfl (cB hb4) rfl rfl ?_
      refine QJ.step (y_pick_t (cB hb4) rfl) rfl ?_
      exact QJ.cut_end ⟨rfl, rfl, trivial⟩
    · replace h3 := orF h3 hb4
      refine QJ.on rfl rfl (cB hb4) (y_move rfl) rfl ?_
      refine QJ.on rfl rfl (cB hb4) (y_lenStr Try.runUnderlying9 rfl) rfl ?_
      refine QJ.on rfl rfl (cB hb4) (y_bin rfl rfl rfl) rfl ?_
      refine QJ.step (y_pick_f (cB hb4) rfl) rfl ?_
      obtain rfl := Option.some.inj h3
      exact QJ.cut_end ⟨rfl, rfl, trivial⟩
  refine QJ.step (y_move rfl) rfl ?_
  obtain ⟨t5, h6, hm⟩ := bindS hm
  refine QJ.cut 5 [(0, str s1), (16, .bool t5)] ?_ ?_
  · rcases Bool.eq_false_or_eq_true t2 with hb7 | hb7
    · obtain rfl := orT h6 hb7
      refine QJ.off rfl rfl (cB hb7) rfl rfl ?_
      refine QJ.off rfl rfl (cB hb7) rfl rfl ?_
      refine QJ.off rfl rfl (cB hb7) rfl rfl ?_
      refine QJ.off rfl rfl (cB hb7) rfl rfl ?_
      refine QJ.step (y_pick_t (cB hb7) rfl) rfl ?_
      exact QJ.cut_end ⟨rfl, rfl, trivial⟩
    · replace h6 := orF h6 hb7
      refine QJ.on rfl rfl (cB hb7) (y_move rfl) rfl ?_
      obtain ⟨c8, h9, h6⟩ := bindS h6
      refine QJ.on rfl rfl (cB hb7) (y_idxStr Try.runUnderlying9 rfl rfl h9) rfl ?_
      obtain ⟨r10, h11, h6⟩ := bindS h6
      refine QJ.on rfl rfl (cB hb7) (y_call Try.call70 rfl (RetG.quiet fun w hw => ok_s_l01Small h11 w )) rfl ?_
      refine QJ.on rfl rfl (cB hb7) (y_not rfl) rfl ?_
      refine QJ.step (y_pick_f (cB hb7) rfl) rfl ?_
      obtain rfl := Option.some.inj h6
      exact QJ.cut_end ⟨rfl, rfl, trivial⟩
  refine QJ.done ?_
  refine PJ.next ?_
  refine WJ.cond (t := t5) rfl (fun hb12 => ?_) (fun hb12 => ?_)
  · replace hm := ifT hm hb12
    refine WJ.seq ?_
    refine WJ.quiet ?_
    refine QJ.step (y_assign rfl) rfl ?_
    refine QJ.done ?_
    refine PJ.next ?_
    refine WJ.ret ?_
    refine PJ.then_ret ?_
    obtain rfl := Option.some.inj hm
    refine PJ.sel (L' := []) [] ⟨List.nodup_nil, rfl⟩ ?_
    exact PJ.retn (vs := [.bool false]) Try.results67 ⟨rfl, trivial⟩ ⟨rfl, rfl⟩
  · replace hm := ifF hm hb12
    refine WJ.skip ?_
    refine PJ.next ?_
    obtain ⟨k13, hk14, hm⟩ := withK_open hm
    refine WJ.join (X := Unit) (fun (_ : Unit) => k13  = some r) (fun (_ : Unit) => []) (fun (_ : Unit) => []) ?_ ?_
    · clear hk14
      refine WJ.seq ?_
      refine WJ.quiet ?_
      refine QJ.step (y_assign rfl) rfl ?_
      refine QJ.done ?_
      refine PJ.next ?_
      refine WJ.block ?_
      refine WJ.sel (L' := (fun (x : Int) => []) 0) [] ⟨List.nodup_nil, rfl⟩ ?_
      refine WJ.sub (m' := (fun (x : Int) => [(0, str s1), (3, .int .i64 x)]) 0) ⟨rfl, rfl, trivial⟩ ?_
      refine WJ.loop (X := Int) (fun N (x : Int) => s_IsName_l1 k13 s1 N x = some r) (fun (x : Int) => [(0, str s1), (3, .int .i64 x)]) (fun (x : Int) => []) ?_ N 0 hm
      · rintro N i15 hI
        have hm := hI; clear hI
        cases N with
        | zero => cases hm
        | succ N =>
        unfold s_IsName_l1 at hm
        refine WJ.seq ?_
        refine WJ.seq ?_
        refine WJ.quiet ?_
        refine QJ.step (y_move rfl) rfl ?_
        refine QJ.step (y_move rfl) rfl ?_
        refine QJ.step (y_lenStr Try.runUnderlying9 rfl) rfl ?_
        refine QJ.step (y_bin rfl rfl rfl) rfl ?_
        refine QJ.done ?_
        refine PJ.next ?_
        refine WJ.cond (t := decide (i15 < (List.length s1 : Int))) rfl (fun hb16 => ?_) (fun hb16 => ?_)
        · replace hm := ifT hm hb16
          refine WJ.skip ?_
          refine PJ.next ?_
          refine WJ.seq ?_
          refine WJ.block ?_
          refine WJ.seq ?_
          refine WJ.quiet ?_
          refine QJ.step (y_move rfl) rfl ?_
          refine QJ.step (y_move rfl) rfl ?_
          obtain ⟨c17, h18, hm⟩ := bindS hm
          refine QJ.step (y_idxStr Try.runUnderlying9 rfl rfl h18) rfl ?_
          obtain ⟨r19, h20, hm⟩ := bindS hm
          refine QJ.step (y_call Try.call70 rfl (RetG.quiet fun w hw => ok_s_l01Small h20 w )) rfl ?_
          refine QJ.step (y_not rfl) rfl ?_
          refine QJ.step (y_move rfl) rfl ?_
          obtain ⟨t21, h22, hm⟩ := bindS hm
          refine QJ.cut 6 [(0, str s1), (3, .int .i64 i15), (34, .bool t21)] ?_ ?_
          · rcases Bool.eq_false_or_eq_true (!r19) with hb23 | hb23
            · replace h22 := andT h22 hb23
              refine QJ.on rfl rfl (cB hb23) (y_move rfl) rfl ?_
              refine QJ.on rfl rfl (cB hb23) (y_move rfl) rfl ?_
              obtain ⟨c24, h25, h22⟩ := bindS h22
              refine QJ.on rfl rfl (cB hb23) (y_idxStr Try.runUnderlying9 rfl rfl h25) rfl ?_
              obtain ⟨r26, h27, h22⟩ := bindS h22
              refine QJ.on rfl rfl (cB hb23) (y_call Try.call71 rfl (RetG.quiet fun w hw => ok_s_l01Digit h27 w )) rfl ?_
              refine QJ.on rfl rfl (cB hb23) (y_not rfl) rfl ?_
              refine QJ.step (y_pick_t (cB hb23) rfl) rfl ?_
              obtain rfl := Option.some.inj h22
              exact QJ.cut_end ⟨rfl, rfl, rfl, trivial⟩
            · obtain rfl := andF h22 hb23
              refine QJ.off rfl rfl (cB hb23) rfl rfl ?_
              refine QJ.off rfl rfl (cB hb23) rfl rfl ?_
              refine QJ.off rfl rfl (cB hb23) rfl rfl ?_
              refine QJ.off rfl rfl (cB hb23) rfl rfl ?_
              refine QJ.off rfl rfl (cB hb23) rfl rfl ?_
              refine QJ.step (y_pick_f (cB hb23) rfl) rfl ?_
              exact QJ.cut_end ⟨rfl, rfl, rfl, trivial⟩
          refine QJ.step (y_move rfl) rfl ?_
          obtain ⟨t28, h29, hm⟩ := bindS hm
          refine QJ.cut 5 [(0, str s1), (3, .int .i64 i15), (40, .bool t28)] ?_ ?_
          · rcases Bool.eq_false_or_eq_true t21 with hb30 | hb30
            · replace h29 := andT h29 hb30
              refine QJ.on rfl rfl (cB hb30) (y_move rfl) rfl ?_
              refine QJ.on rfl rfl (cB hb30) (y_move rfl) rfl ?_
              obtain ⟨c31, h32, h29⟩ := bindS h29
              refine QJ.on rfl rfl (cB hb30) (y_idxStr Try.runUnderlying9 rfl rfl h32) rfl ?_
              refine QJ.on rfl rfl (cB hb30) (y_bin8 c31 (45 : UInt8) rfl rfl rfl) rfl ?_
              refine QJ.step (y_pick_t (cB hb30) rfl) rfl ?_
              obtain rfl := Option.some.inj h29
              exact QJ.cut_end ⟨rfl, rfl, rfl, trivial⟩
            · obtain rfl := andF h29 hb30
              refine QJ.off rfl rfl (cB hb30) rfl rfl ?_
              refine QJ.off rfl rfl (cB hb30) rfl rfl ?_
              refine QJ.off rfl rfl (cB hb30) rfl rfl ?_
              refine QJ.off rfl rfl (cB hb30) rfl rfl ?_
              refine QJ.step (y_pick_f (cB hb30) rfl) rfl ?_
              exact QJ.cut_end ⟨rfl, rfl, rfl, trivial⟩
          refine QJ.done ?_
          refine PJ.next ?_
          refine WJ.cond (t := t28) rfl (fun hb33 => ?_) (fun hb33 => ?_)
          · replace hm := ifT hm hb33
            refine WJ.seq ?_
            refine WJ.quiet ?_
            refine QJ.step (y_assign rfl) rfl ?_
            refine QJ.done ?_
            refine PJ.next ?_
            refine WJ.ret ?_
            refine PJ.block_ret (PJ.then_ret (PJ.then_ret (PJ.block_ret (PJ.then_ret ?_))))
            obtain rfl := Option.some.inj hm
            refine PJ.sel (L' := []) [] ⟨List.nodup_nil, rfl⟩ ?_
            exact PJ.retn (vs := [.bool false]) Try.results67 ⟨rfl, trivial⟩ ⟨rfl, rfl⟩
          · replace hm := ifF hm hb33
            refine WJ.skip ?_
            refine PJ.block_normal (PJ.next ?_)
            refine WJ.quiet ?_
            refine QJ.step (y_move rfl) rfl ?_
            refine QJ.step (y_bin rfl rfl rfl) rfl ?_
            refine QJ.step (y_assign rfl) rfl ?_
            refine QJ.done ?_
            exact PJ.round (w64 (i15 + 1)) [] hm ⟨rfl, rfl, trivial⟩ ⟨List.nodup_nil, rfl⟩
        · replace hm := ifF hm hb16
          refine WJ.exit ?_
          refine PJ.then_exit (PJ.then_exit (PJ.block_exit ?_))
          exact PJ.joined () [] hm trivial ⟨List.nodup_nil, rfl⟩
    · rintro _ hm
      subst hk14
      refine WJ.seq ?_
      refine WJ.quiet ?_
      refine QJ.step (y_assign rfl) rfl ?_
      refine QJ.done ?_
      refine PJ.next ?_
      refine WJ.ret ?_
      obtain rfl := Option.some.inj hm
      refine PJ.sel (L' := []) [] ⟨List.nodup_nil, rfl⟩ ?_
      exact PJ.retn (vs := [.bool true]) Try.results67 ⟨rfl, trivial⟩ ⟨rfl, rfl⟩

set_option maxRecDepth 100000 in
set_option maxHeartbeats 1000000 in
theorem ok_s_l00In {n1 : Int} {low2 : Int} {high3 : Int} {r : Bool} (hm : s_l00In n1 low2 high3 = some r) (w : World)  :
    Calls Try.prog 38 #[.int .i64 n1, .int .i64 low2, .int .i64 high3] w (Ret (cx w) (.bool r)) := by
  unfold s_l00In at hm
  refine Calls.enter [.int .i64 n1, .int .i64 low2, .int .i64 high3] Try.func38 rfl Try.ntmps38 rfl ?_
  refine WJ.seq ?_
  refine WJ.quiet ?_
  refine QJ.step (y_assign rfl) rfl ?_
  refine QJ.done ?_
  refine PJ.next ?_
  refine WJ.seq ?_
  refine WJ.quiet ?_
  refine QJ.step (y_move rfl) rfl ?_
  refine QJ.step (y_move rfl) rfl ?_
  refine QJ.step (y_bin rfl rfl rfl) rfl ?_
  refine QJ.step (y_move rfl) rfl ?_
  obtain ⟨t4, h5, hm⟩ := bindS hm
  refine QJ.cut 4 [(14, .bool t4)] ?_ ?_
  · rcases Bool.eq_false_or_eq_true (decide (n1 ≥ low2)) with hb6 | hb6
    · replace h5 := andT h5 hb6
      refine QJ.on rfl rfl (cB hb6) (y_move rfl) rfl ?_
      refine QJ.on rfl rfl (cB hb6) (y_move rfl) rfl ?_
      refine QJ.on rfl rfl (cB hb6) (y_bin rfl rfl rfl) rfl ?_
      refine QJ.step (y_pick_t (cB hb6) rfl) rfl ?_
      obtain rfl := Option.some.inj h5
      exact QJ.cut_end ⟨rfl, trivial⟩
    · obtain rfl := andF h5 hb6
      refine QJ.off rfl rfl (cB hb6) rfl rfl ?_
      refine QJ.off rfl rfl (cB hb6) rfl rfl ?_
      refine QJ.off rfl rfl (cB hb6) rfl rfl ?_
      refine QJ.step (y_pick_f (cB hb6) rfl) rfl ?_
      exact QJ.cut_end ⟨rfl, trivial⟩
  refine QJ.step (y_assign rfl) rfl ?_
  refine QJ.done ?_
  refine PJ.next ?_
  refine WJ.ret ?_
  obtain rfl := Option.some.inj hm
  refine PJ.sel (L' := []) [] ⟨List.nodup_nil, rfl⟩ ?_
  exact PJ.retn (vs := [.bool t4]) Try.results38 ⟨rfl, trivial⟩ ⟨rfl, rfl⟩

set_option maxRecDepth 100000 in
set_option maxHeartbeats 1000000 in
theorem ok_s_l24Many {n1 : Int} {r : Bool} (hm : s_l24Many n1 = some r) (w : World)  :
    Calls Try.prog 63 #[.int .i64 n1] w (Ret (cx w) (.bool r)) := by
  unfold s_l24Many at hm
  refine Calls.enter [.int .i64 n1] Try.func63 rfl Try.ntmps63 rfl ?_
  refine WJ.seq ?_
  refine WJ.quiet ?_
  refine QJ.step (y_assign rfl) rfl ?_
  refine QJ.done ?_
  refine PJ.next ?_
  refine WJ.seq ?_
  refine WJ.quiet ?_
  refine QJ.step (y_move rfl) rfl ?_
  obtain ⟨r2, h3, hm⟩ := bindS hm
  refine QJ.step (y_call Try.call38 rfl (RetG.quiet fun w hw => ok_s_l00In h3 w )) rfl ?_
  refine QJ.step (y_assign rfl) rfl ?_
  refine QJ.done ?_
  refine PJ.next ?_
  refine WJ.ret ?_
  obtain rfl := Option.some.inj hm
  refine PJ.sel (L' := []) [] ⟨List.nodup_nil, rfl⟩ ?_
  exact PJ.retn (vs := [.bool r2]) Try.results63 ⟨rfl, trivial⟩ ⟨rfl, rfl⟩

set_option maxRecDepth 100000 in
set_option maxHeartbeats 1000000 in
theorem ok_s_l24Ok {N : Nat} {list1 : List SparePart} {r : Bool} (hm : s_l24Ok N list1 = some r) (w : World) (v2 : Value) (hr3 : RdS w (cx w).Fz v2 fSparePart.rp list1) :
    Calls Try.prog 62 #[v2] w (Ret (cx w) (.bool r)) := by
  unfold s_l24Ok at hm
  refine Calls.enter [v2] Try.func62 rfl Try.ntmps62 rfl ?_
  refine WJ.seq ?_
  refine WJ.quiet ?_
  refine QJ.step (y_assign rfl) rfl ?_
  refine QJ.done ?_
  refine PJ.next ?_
  refine WJ.seq ?_
  refine WJ.quiet ?_
  refine QJ.step (y_move rfl) rfl ?_
  refine QJ.step (y_lenS Try.runUnderlying47 hr3 rfl) rfl ?_
  refine QJ.step (y_assign rfl) rfl ?_
  refine QJ.done ?_
  refine PJ.next ?_
  obtain ⟨k4, hk5, hm⟩ := withK_open hm
  refine WJ.join (X := Unit) (fun (_ : Unit) => k4  = some r) (fun (_ : Unit) => [(3, .int .i64 (List.length list1 : Int))]) (fun (_ : Unit) => []) ?_ ?_
  · clear hk5
    refine WJ.seq ?_
    refine WJ.quiet ?_
    refine QJ.step (y_assign rfl) rfl ?_
    refine QJ.done ?_
    refine PJ.next ?_
    refine WJ.block ?_
    refine WJ.sel (L' := (fun (x : Int) => []) 0) [] ⟨List.nodup_nil, rfl⟩ ?_
    refine WJ.sub (m' := (fun (x : Int) => [(0, v2), (3, .int .i64 (List.length list1 : Int)), (4, .int .i64 x)]) 0) ⟨rfl, rfl, rfl, trivial⟩ ?_
    refine WJ.loop (X := Int) (fun N (x : Int) => s_l24Ok_l1 k4 list1 N x = some r) (fun (x : Int) => [(0, v2), (3, .int .i64 (List.length list1 : Int)), (4, .int .i64 x)]) (fun (x : Int) => []) ?_ N 0 hm
    · rintro N x6 hI
      have hm := hI; clear hI
      cases N with
      | zero => cases hm
      | succ N =>
      unfold s_l24Ok_l1 at hm
      refine WJ.seq ?_
      refine WJ.seq ?_
      refine WJ.quiet ?_
      refine QJ.step (y_move rfl) rfl ?_
      refine QJ.step (y_move rfl) rfl ?_
      refine QJ.step (y_lenS Try.runUnderlying47 hr3 rfl) rfl ?_
      refine QJ.step (y_bin rfl rfl rfl) rfl ?_
      refine QJ.done ?_
      refine PJ.next ?_
      refine WJ.cond (t := decide (x6 < (List.length list1 : Int))) rfl (fun hb7 => ?_) (fun hb7 => ?_)
      · replace hm := ifT hm hb7
        refine WJ.skip ?_
        refine PJ.next ?_
        obtain ⟨k9, hk9, hm⟩ := withK_open hm
        refine WJ.join (X := Unit) (fun (_ : Unit) => k9  = some r) (fun (_ : Unit) => [(0, v2), (3, .int .i64 (List.length list1 : Int)), (4, .int .i64 x6)]) (fun (_ : Unit) => []) ?_ ?_
        · clear hk9
          refine WJ.block ?_
          refine WJ.seq ?_
          refine WJ.quiet ?_
          refine QJ.step (y_move rfl) rfl ?_
          refine QJ.step (y_move rfl) rfl ?_
          obtain ⟨e10, h11, hm⟩ := bindS hm
          obtain ⟨ad12, _, rfl, ha13, hy14⟩ := hr3.elem h11
          refine QJ.step (hy14 Try.runUnderlying47 Try.sizeOf78 rfl rfl) rfl ?_
          refine QJ.step (y_assign rfl) rfl ?_
          refine QJ.done ?_
          refine PJ.next ?_
          refine WJ.seq ?_
          refine WJ.seq ?_
          refine WJ.quiet ?_
          refine QJ.step (y_move rfl) rfl ?_
          refine QJ.step (y_nil rfl) rfl ?_
          refine QJ.step (y_fld (ad := ad12) fld78_0 rfl) rfl ?_
          refine QJ.step (y_load1 (v := str e10.name) Try.isAgg9 (ha13.sub 0 1) St.frozenC rfl) rfl ?_
          obtain ⟨r15, h16, hm⟩ := bindS hm
          refine QJ.step (y_call Try.call67 rfl (RetG.quiet fun w hw => ok_s_IsName h16 w )) rfl ?_
          refine QJ.step (y_not rfl) rfl ?_
          refine QJ.step (y_move rfl) rfl ?_
          obtain ⟨t17, h18, hm⟩ := bindS hm
          refine QJ.cut 7 [(0, v2), (3, .int .i64 (List.length list1 : Int)), (4, .int .i64 x6), (5, .pointer (some ad12)), (33, .bool t17)] ?_ ?_
          · rcases Bool.eq_false_or_eq_true (!r15) with hb19 | hb19
            · obtain rfl := orT h18 hb19
              refine QJ.off rfl rfl (cB hb19) rfl rfl ?_
              refine QJ.off rfl rfl (cB hb19) rfl rfl ?_
              refine QJ.off rfl rfl (cB hb19) rfl rfl ?_
              refine QJ.off rfl rfl (cB hb19) rfl rfl ?_
              refine QJ.off rfl rfl (cB hb19) rfl rfl ?_
              refine QJ.off rfl rfl (cB hb19) rfl rfl ?_
              refine QJ.step (y_pick_t (cB hb19) rfl) rfl ?_
              exact QJ.cut_end ⟨rfl, rfl, rfl, rfl, rfl, trivial⟩
            · replace h18 := orF h18 hb19
              refine QJ.on rfl rfl (cB hb19) (y_move rfl) rfl ?_
              refine QJ.on rfl rfl (cB hb19) (y_nil rfl) rfl ?_
              refine QJ.on rfl rfl (cB hb19) (y_fld (ad := ad12) fld78_1 rfl) rfl ?_
              refine QJ.on rfl rfl (cB hb19) (y_load1 (v := .int .i64 e10.stock) Try.isAgg2 (ha13.sub 1 1) St.frozenC rfl) rfl ?_
              obtain ⟨r20, h21, h18⟩ := bindS h18
              refine QJ.on rfl rfl (cB hb19) (y_call Try.call63 rfl (RetG.quiet fun w hw => ok_s_l24Many h21 w )) rfl ?_
              refine QJ.on rfl rfl (cB hb19) (y_not rfl) rfl ?_
              refine QJ.step (y_pick_f (cB hb19) rfl) rfl ?_
              obtain rfl := Option.some.inj h18
              exact QJ.cut_end ⟨rfl, rfl, rfl, rfl, rfl, trivial⟩
          refine QJ.step (y_move rfl) rfl ?_
          obtain ⟨t22, h23, hm⟩ := bindS hm
          refine QJ.cut 7 [(0, v2), (3, .int .i64 (List.length list1 : Int)), (4, .int .i64 x6), (5, .pointer (some ad12)), (41, .bool t22)] ?_ ?_
          · rcases Bool.eq_false_or_eq_true t17 with hb24 | hb24
            · obtain rfl := orT h23 hb24
              refine QJ.off rfl rfl (cB hb24) rfl rfl ?_
              refine QJ.off rfl rfl (cB hb24) rfl rfl ?_
              refine QJ.off rfl rfl (cB hb24) rfl rfl ?_
              refine QJ.off rfl rfl (cB hb24) rfl rfl ?_
              refine QJ.off rfl rfl (cB hb24) rfl rfl ?_
              refine QJ.off rfl rfl (cB hb24) rfl rfl ?_
              refine QJ.step (y_pick_t (cB hb24) rfl) rfl ?_
              exact QJ.cut_end ⟨rfl, rfl, rfl, rfl, rfl, trivial⟩
            · replace h23 := orF h23 hb24
              refine QJ.on rfl rfl (cB hb24) (y_move rfl) rfl ?_
              refine QJ.on rfl rfl (cB hb24) (y_nil rfl) rfl ?_
              refine QJ.on rfl rfl (cB hb24) (y_fld (ad := ad12) fld78_2 rfl) rfl ?_
              refine QJ.on rfl rfl (cB hb24) (y_load1 (v := .int .i64 e10.target) Try.isAgg2 (ha13.sub 2 1) St.frozenC rfl) rfl ?_
              obtain ⟨r25, h26, h23⟩ := bindS h23
              refine QJ.on rfl rfl (cB hb24) (y_call Try.call63 rfl (RetG.quiet fun w hw => ok_s_l24Many h26 w )) rfl ?_
              refine QJ.on rfl rfl (cB hb24) (y_not rfl) rfl ?_
              refine QJ.step (y_pick_f (cB hb24) rfl) rfl ?_
              obtain rfl := Option.some.inj h23
              exact QJ.cut_end ⟨rfl, rfl, rfl, rfl, rfl, trivial⟩
          refine QJ.step (y_move rfl) rfl ?_
          obtain ⟨t27, h28, hm⟩ := bindS hm
          refine QJ.cut 7 [(0, v2), (3, .int .i64 (List.length list1 : Int)), (4, .int .i64 x6), (5, .pointer (some ad12)), (49, .bool t27)] ?_ ?_
          · rcases Bool.eq_false_or_eq_true t22 with hb29 | hb29
            · obtain rfl := orT h28 hb29
              refine QJ.off rfl rfl (cB hb29) rfl rfl ?_
              refine QJ.off rfl rfl (cB hb29) rfl rfl ?_
              refine QJ.off rfl rfl (cB hb29) rfl rfl ?_
              refine QJ.off rfl rfl (cB hb29) rfl rfl ?_
              refine QJ.off rfl rfl (cB hb29) rfl rfl ?_
              refine QJ.off rfl rfl (cB hb29) rfl rfl ?_
              refine QJ.step (y_pick_t (cB hb29) rfl) rfl ?_
              exact QJ.cut_end ⟨rfl, rfl, rfl, rfl, rfl, trivial⟩
            · replace h28 := orF h28 hb29
              refine QJ.on rfl rfl (cB hb29) (y_move rfl) rfl ?_
              refine QJ.on rfl rfl (cB hb29) (y_nil rfl) rfl ?_
              refine QJ.on rfl rfl (cB hb29) (y_fld (ad := ad12) fld78_3 rfl) rfl ?_
              refine QJ.on rfl rfl (cB hb29) (y_load1 (v := .int .i64 e10.days) Try.isAgg2 (ha13.sub 3 1) St.frozenC rfl) rfl ?_
              obtain ⟨r30, h31, h28⟩ := bindS h28
              refine QJ.on rfl rfl (cB hb29) (y_call Try.call38 rfl (RetG.quiet fun w hw => ok_s_l00In h31 w )) rfl ?_
              refine QJ.on rfl rfl (cB hb29) (y_not rfl) rfl ?_
              refine QJ.step (y_pick_f (cB hb29) rfl) rfl ?_
              obtain rfl := Option.some.inj h28
              exact QJ.cut_end ⟨rfl, rfl, rfl, rfl, rfl, trivial⟩
          refine QJ.step (y_move rfl) rfl ?_
          obtain ⟨t32, h33, hm⟩ := bindS hm
          refine QJ.cut 9 [(0, v2), (3, .int .i64 (List.length list1 : Int)), (4, .int .i64 x6), (5, .pointer (some ad12)), (59, .bool t32)] ?_ ?_
          · rcases Bool.eq_false_or_eq_true t27 with hb34 | hb34
            · obtain rfl := orT h33 hb34
              refine QJ.off rfl rfl (cB hb34) rfl rfl ?_
              refine QJ.off rfl rfl (cB hb34) rfl rfl ?_
              refine QJ.off rfl rfl (cB hb34) rfl rfl ?_
              refine QJ.off rfl rfl (cB hb34) rfl rfl ?_
              refine QJ.off rfl rfl (cB hb34) rfl rfl ?_
              refine QJ.off rfl rfl (cB hb34) rfl rfl ?_
              refine QJ.off rfl rfl (cB hb34) rfl rfl ?_
              refine QJ.off rfl rfl (cB hb34) rfl rfl ?_
              refine QJ.step (y_pick_t (cB hb34) rfl) rfl ?_
              exact QJ.cut_end ⟨rfl, rfl, rfl, rfl, rfl, trivial⟩
            · replace h33 := orF h33 hb34
              refine QJ.on rfl rfl (cB hb34) (y_move rfl) rfl ?_
              refine QJ.on rfl rfl (cB hb34) (y_nil rfl) rfl ?_
              refine QJ.on rfl rfl (cB hb34) (y_fld (ad := ad12) fld78_4 rfl) rfl ?_
              refine QJ.on rfl rfl (cB hb34) (y_load1 (v := .int .i64 e10.instead) Try.isAgg2 (ha13.sub 4 1) St.frozenC rfl) rfl ?_
              refine QJ.on rfl rfl (cB hb34) (y_move rfl) rfl ?_
              refine QJ.on rfl rfl (cB hb34) (y_bin rfl rfl rfl) rfl ?_
              obtain ⟨r35, h36, h33⟩ := bindS h33
              refine QJ.on rfl rfl (cB hb34) (y_call Try.call38 rfl (RetG.quiet fun w hw => ok_s_l00In h36 w )) rfl ?_
              refine QJ.on rfl rfl (cB hb34) (y_not rfl) rfl ?_
              refine QJ.step (y_pick_f (cB hb34) rfl) rfl ?_
              obtain rfl := Option.some.inj h33
              exact QJ.cut_end ⟨rfl, rfl, rfl, rfl, rfl, trivial⟩
          refine QJ.done ?_
          refine PJ.next ?_
          refine WJ.cond (t := t32) rfl (fun hb37 => ?_) (fun hb37 => ?_)
          · replace hm := ifT hm hb37
            refine WJ.seq ?_
            refine WJ.quiet ?_
            refine QJ.step (y_assign rfl) rfl ?_
            refine QJ.done ?_
            refine PJ.next ?_
            refine WJ.ret ?_
            refine PJ.then_ret (PJ.block_ret (PJ.then_ret (PJ.then_ret (PJ.block_ret (PJ.then_ret ?_)))))
            obtain rfl := Option.some.inj hm
            refine PJ.sel (L' := []) [] ⟨List.nodup_nil, rfl⟩ ?_
            exact PJ.retn (vs := [.bool false]) Try.results62 ⟨rfl, trivial⟩ ⟨rfl, rfl⟩
          · replace hm := ifF hm hb37
            refine WJ.skip ?_
            refine PJ.next ?_
            obtain ⟨k40, hk39, hm⟩ := withK_open hm
            refine WJ.join (X := Unit) (fun (_ : Unit) => k40  = some r) (fun (_ : Unit) => [(0, v2), (3, .int .i64 (List.length list1 : Int)), (4, .int .i64 x6), (5, .pointer (some ad12))]) (fun (_ : Unit) => []) ?_ ?_
            · clear hk39
              refine WJ.seq ?_
              refine WJ.quiet ?_
              refine QJ.step (y_assign rfl) rfl ?_
              refine QJ.done ?_
              refine PJ.next ?_
              refine WJ.block ?_
              refine WJ.sel (L' := (fun (x : Int) => []) 0) [] ⟨List.nodup_nil, rfl⟩ ?_
              refine WJ.sub (m' := (fun (x : Int) => [(0, v2), (3, .int .i64 (List.length list1 : Int)), (4, .int .i64 x6), (5, .pointer (some ad12)), (6, .int .i64 x)]) 0) ⟨rfl, rfl, rfl, rfl, rfl, trivial⟩ ?_
              refine WJ.loop (X := Int) (fun N (x : Int) => s_l24Ok_l2 k40 list1 x6 e10 N x = some r) (fun (x : Int) => [(0, v2), (3, .int .i64 (List.length list1 : Int)), (4, .int .i64 x6), (5, .pointer (some ad12)), (6, .int .i64 x)]) (fun (x : Int) => []) ?_ N 0 hm
              · rintro N x40 hI
                have hm := hI; clear hI
                cases N with
                | zero => cases hm
                | succ N =>
                unfold s_l24Ok_l2 at hm
                refine WJ.seq ?_
                refine WJ.seq ?_
                refine WJ.quiet ?_
                refine QJ.step (y_move rfl) rfl ?_
                refine QJ.step (y_move rfl) rfl ?_
                refine QJ.step (y_bin rfl rfl rfl) rfl ?_
                refine QJ.done ?_
                refine PJ.next ?_
                refine WJ.cond (t := decide (x40 < x6)) rfl (fun hb41 => ?_) (fun hb41 => ?_)
                · replace hm := ifT hm hb41
                  refine WJ.skip ?_
                  refine PJ.next ?_
                  refine WJ.seq ?_
                  refine WJ.block ?_
                  refine WJ.seq ?_
                  refine WJ.quiet_draw follows (by kernel_rfl) ?_
                  refine QJ.step (y_move rfl) rfl ?_
                  refine QJ.step (y_move rfl) rfl ?_
                  obtain ⟨e42, h43, hm⟩ := bindS hm
                  obtain ⟨ad44, _, rfl, ha45, hy46⟩ := hr3.elem h43
                  refine QJ.step (hy46 Try.runUnderlying47 Try.sizeOf78 rfl rfl) rfl ?_
                  refine QJ.step (y_fld (ad := ad44) fld78_0 rfl) rfl ?_
                  refine QJ.step (y_load1 (v := str e42.name) Try.isAgg9 (ha45.sub 0 1) St.frozenC rfl) rfl ?_
                  refine QJ.step (y_move rfl) rfl ?_
                  refine QJ.step (y_nil rfl) rfl ?_
                  refine QJ.step (y_fld (ad := ad12) fld78_0 rfl) rfl ?_
                  refine QJ.step (y_load1 (v := str e10.name) Try.isAgg9 (ha13.sub 0 1) St.frozenC rfl) rfl ?_
                  refine QJ.step (y_binS rfl rfl rfl) rfl ?_
                  refine QJ.done ?_
                  refine PJ.next ?_
                  refine WJ.cond (t := (e42.name == e10.name)) rfl (fun hb47 => ?_) (fun hb47 => ?_)
                  · replace hm := ifT hm hb47
                    refine WJ.seq ?_
                    refine WJ.quiet ?_
                    refine QJ.step (y_assign rfl) rfl ?_
                    refine QJ.done ?_
                    refine PJ.next ?_
                    refine WJ.ret ?_
                    refine PJ.block_ret (PJ.then_ret (PJ.then_ret (PJ.block_ret (PJ.then_ret (PJ.block_ret (PJ.then_ret (PJ.then_ret (PJ.block_ret (PJ.then_ret ?_)))))))))
                    obtain rfl := Option.some.inj hm
                    refine PJ.sel (L' := []) [] ⟨List.nodup_nil, rfl⟩ ?_
                    exact PJ.retn (vs := [.bool false]) Try.results62 ⟨rfl, trivial⟩ ⟨rfl, rfl⟩
                  · replace hm := ifF hm hb47
                    refine WJ.skip ?_
                    refine PJ.block_normal (PJ.next ?_)
                    refine WJ.quiet ?_
                    refine QJ.step (y_move rfl) rfl ?_
                    refine QJ.step (y_bin rfl rfl rfl) rfl ?_
                    refine QJ.step (y_assign rfl) rfl ?_
                    refine QJ.done ?_
                    exact PJ.round (w64 (x40 + 1)) [] hm ⟨rfl, rfl, rfl, rfl, rfl, trivial⟩ ⟨List.nodup_nil, rfl⟩
                · replace hm := ifF hm hb41
                  refine WJ.exit ?_
                  refine PJ.then_exit (PJ.then_exit (PJ.block_exit ?_))
                  exact PJ.joined () [] hm ⟨rfl, rfl, rfl, rfl, trivial⟩ ⟨List.nodup_nil, rfl⟩
            · rintro _ hm
              subst hk39
              refine WJ.seq ?_
              refine WJ.quiet ?_
              refine QJ.step (y_move rfl) rfl ?_
              refine QJ.step (y_nil rfl) rfl ?_
              refine QJ.step (y_fld (ad := ad12) fld78_4 rfl) rfl ?_
              refine QJ.step (y_load1 (v := .int .i64 e10.instead) Try.isAgg2 (ha13.sub 4 1) St.frozenC rfl) rfl ?_
              refine QJ.step (y_assign rfl) rfl ?_
              refine QJ.done ?_
              refine PJ.next ?_
              refine WJ.seq ?_
              refine WJ.quiet ?_
              refine QJ.step (y_assign rfl) rfl ?_
              refine QJ.done ?_
              refine PJ.next ?_
              refine WJ.block ?_
              refine WJ.sel (L' := (fun (x : Int × Int) => []) (e10.instead, 0)) [] ⟨List.nodup_nil, rfl⟩ ?_
              refine WJ.sub (m' := (fun (x : Int × Int) => [(0, v2), (3, .int .i64 (List.length list1 : Int)), (4, .int .i64 x6), (7, .int .i64 x.1), (8, .int .i64 x.2)]) (e10.instead, 0)) ⟨rfl, rfl, rfl, rfl, rfl, trivial⟩ ?_
              refine WJ.loop (X := Int × Int) (fun N (x : Int × Int) => s_l24Ok_l3 k9 list1 N x.1 x.2 = some r) (fun (x : Int × Int) => [(0, v2), (3, .int .i64 (List.length list1 : Int)), (4, .int .i64 x6), (7, .int .i64 x.1), (8, .int .i64 x.2)]) (fun (x : Int × Int) => []) ?_ N (e10.instead, 0) hm
              · rintro N ⟨x48, x49⟩ hI
                have hm := hI; clear hI
                cases N with
                | zero => cases hm
                | succ N =>
                unfold s_l24Ok_l3 at hm
                refine WJ.seq ?_
                refine WJ.seq ?_
                refine WJ.quiet ?_
                refine QJ.step (y_move rfl) rfl ?_
                refine QJ.step (y_bin rfl rfl rfl) rfl ?_
                refine QJ.done ?_
                refine PJ.next ?_
                refine WJ.cond (t := decide (x48 ≥ 0)) rfl (fun hb50 => ?_) (fun hb50 => ?_)
                · replace hm := ifT hm hb50
                  refine WJ.skip ?_
                  refine PJ.next ?_
                  refine WJ.seq ?_
                  refine WJ.block ?_
                  refine WJ.seq ?_
                  refine WJ.seq ?_
                  refine WJ.quiet ?_
                  refine QJ.step (y_move rfl) rfl ?_
                  refine QJ.step (y_move rfl) rfl ?_
                  refine QJ.step (y_bin rfl rfl rfl) rfl ?_
                  refine QJ.step (y_move rfl) rfl ?_
                  obtain ⟨t51, h52, hm⟩ := bindS hm
                  refine QJ.cut 6 [(0, v2), (3, .int .i64 (List.length list1 : Int)), (4, .int .i64 x6), (7, .int .i64 x48), (8, .int .i64 x49), (92, .bool t51)] ?_ ?_
                  · rcases Bool.eq_false_or_eq_true (decide (x49 > (List.length list1 : Int))) with hb53 | hb53
                    · obtain rfl := orT h52 hb53
                      refine QJ.off rfl rfl (cB hb53) rfl rfl ?_
                      refine QJ.off rfl rfl (cB hb53) rfl rfl ?_
                      refine QJ.off rfl rfl (cB hb53) rfl rfl ?_
                      refine QJ.off rfl rfl (cB hb53) rfl rfl ?_
                      refine QJ.off rfl rfl (cB hb53) rfl rfl ?_
                      refine QJ.step (y_pick_t (cB hb53) rfl) rfl ?_
                      exact QJ.cut_end ⟨rfl, rfl, rfl, rfl, rfl, rfl, trivial⟩
                    · replace h52 := orF h52 hb53
                      refine QJ.on rfl rfl (cB hb53) (y_move rfl) rfl ?_
                      refine QJ.on rfl rfl (cB hb53) (y_move rfl) rfl ?_
                      refine QJ.on rfl rfl (cB hb53) (y_bin rfl rfl rfl) rfl ?_
                      obtain ⟨r54, h55, h52⟩ := bindS h52
                      refine QJ.on rfl rfl (cB hb53) (y_call Try.call38 rfl (RetG.quiet fun w hw => ok_s_l00In h55 w )) rfl ?_
                      refine QJ.on rfl rfl (cB hb53) (y_not rfl) rfl ?_
                      refine QJ.step (y_pick_f (cB hb53) rfl) rfl ?_
                      obtain rfl := Option.some.inj h52
                      exact QJ.cut_end ⟨rfl, rfl, rfl, rfl, rfl, rfl, trivial⟩
                  refine QJ.done ?_
                  refine PJ.next ?_
                  refine WJ.cond (t := t51) rfl (fun hb56 => ?_) (fun hb56 => ?_)
                  · replace hm := ifT hm hb56
                    refine WJ.seq ?_
                    refine WJ.quiet ?_
                    refine QJ.step (y_assign rfl) rfl ?_
                    refine QJ.done ?_
                    refine PJ.next ?_
                    refine WJ.ret ?_
                    refine PJ.then_ret (PJ.block_ret (PJ.then_ret (PJ.then_ret (PJ.block_ret (PJ.block_ret (PJ.then_ret (PJ.then_ret (PJ.block_ret (PJ.then_ret ?_)))))))))
                    obtain rfl := Option.some.inj hm
                    refine PJ.sel (L' := []) [] ⟨List.nodup_nil, rfl⟩ ?_
                    exact PJ.retn (vs := [.bool false]) Try.results62 ⟨rfl, trivial⟩ ⟨rfl, rfl⟩
                  · replace hm := ifF hm hb56
                    refine WJ.skip ?_
                    refine PJ.next ?_
                    refine WJ.quiet ?_
                    refine QJ.step (y_move rfl) rfl ?_
                    refine QJ.step (y_move rfl) rfl ?_
                    obtain ⟨e57, h58, hm⟩ := bindS hm
                    obtain ⟨ad59, _, rfl, ha60, hy61⟩ := hr3.elem h58
                    refine QJ.step (hy61 Try.runUnderlying47 Try.sizeOf78 rfl rfl) rfl ?_
                    refine QJ.step (y_fld (ad := ad59) fld78_4 rfl) rfl ?_
                    refine QJ.step (y_load1 (v := .int .i64 e57.instead) Try.isAgg2 (ha60.sub 4 1) St.frozenC rfl) rfl ?_
                    refine QJ.step (y_assign rfl) rfl ?_
                    refine QJ.done ?_
                    refine PJ.block_normal (PJ.next ?_)
                    refine WJ.quiet ?_
                    refine QJ.step (y_move rfl) rfl ?_
                    refine QJ.step (y_bin rfl rfl rfl) rfl ?_
                    refine QJ.step (y_assign rfl) rfl ?_
                    refine QJ.done ?_
                    exact PJ.round (e57.instead, w64 (x49 + 1)) [] hm ⟨rfl, rfl, rfl, rfl, rfl, trivial⟩ ⟨List.nodup_nil, rfl⟩
                · replace hm := ifF hm hb50
                  refine WJ.exit ?_
                  refine PJ.then_exit (PJ.then_exit (PJ.block_exit (PJ.block_normal ?_)))
                  exact PJ.joined () [] hm ⟨rfl, rfl, rfl, trivial⟩ ⟨List.nodup_nil, rfl⟩
        · rintro _ hm
          subst hk9
          refine WJ.quiet ?_
          refine QJ.step (y_move rfl) rfl ?_
          refine QJ.step (y_bin rfl rfl rfl) rfl ?_
          refine QJ.step (y_assign rfl) rfl ?_
          refine QJ.done ?_
          exact PJ.round (w64 (x6 + 1)) [] hm ⟨rfl, rfl, rfl, trivial⟩ ⟨List.nodup_nil, rfl⟩
      · replace hm := ifF hm hb7
        refine WJ.exit ?_
        refine PJ.then_exit (PJ.then_exit (PJ.block_exit ?_))
        exact PJ.joined () [] hm ⟨rfl, trivial⟩ ⟨List.nodup_nil, rfl⟩
  · rintro _ hm
    subst hk5
    refine WJ.seq ?_
    refine WJ.quiet ?_
    refine QJ.step (y_move rfl) rfl ?_
    refine QJ.step (y_bin rfl rfl rfl) rfl ?_
    refine QJ.step (y_assign rfl) rfl ?_
    refine QJ.done ?_
    refine PJ.next ?_
    refine WJ.ret ?_
    obtain rfl := Option.some.inj hm
    refine PJ.sel (L' := []) [] ⟨List.nodup_nil, rfl⟩ ?_
    exact PJ.retn (vs := [.bool (decide ((List.length list1 : Int) ≤ 40))]) Try.results62 ⟨rfl, trivial⟩ ⟨rfl, rfl⟩

set_option maxRecDepth 100000 in
set_option maxHeartbeats 1000000 in
theorem ok_s_l24Wants {N : Nat} {list1 : List SparePart} {wants4 : List Int} {r : Int} (hm : s_l24Wants N list1 wants4 = some r) (w : World) (v2 : Value) (hr3 : RdS w (cx w).Fz v2 fSparePart.rp list1) (v5 : Value) (hr6 : RdS w (cx w).Fz v5 fI64.rp wants4) :
    Calls Try.prog 51 #[v2, v5] w (Ret (cx w) (.int .i64 r)) := by
  unfold s_l24Wants at hm
  refine Calls.enter [v2, v5] Try.func51 rfl Try.ntmps51 rfl ?_
  refine WJ.seq ?_
  refine WJ.quiet ?_
  refine QJ.step (y_assign rfl) rfl ?_
  refine QJ.done ?_
  refine PJ.next ?_
  refine WJ.seq ?_
  refine WJ.seq ?_
  refine WJ.quiet ?_
  refine QJ.step (y_move rfl) rfl ?_
  obtain ⟨r7, h8, hm⟩ := bindS hm
  refine QJ.step (y_call Try.call62 rfl (RetG.quiet fun w hw => ok_s_l24Ok h8 w _ (hr3.st hw))) rfl ?_
  refine QJ.step (y_not rfl) rfl ?_
  refine QJ.done ?_
  refine PJ.next ?_
  refine WJ.cond (t := !r7) rfl (fun hb9 => ?_) (fun hb9 => ?_)
  · replace hm := ifT hm hb9
    refine WJ.seq ?_
    refine WJ.quiet ?_
    refine QJ.step (y_assign rfl) rfl ?_
    refine QJ.done ?_
    refine PJ.next ?_
    refine WJ.ret ?_
    refine PJ.then_ret ?_
    obtain rfl := Option.some.inj hm
    refine PJ.sel (L' := []) [] ⟨List.nodup_nil, rfl⟩ ?_
    exact PJ.retn (vs := [.int .i64 1]) Try.results51 ⟨rfl, trivial⟩ ⟨rfl, rfl⟩
  · replace hm := ifF hm hb9
    refine WJ.skip ?_
    refine PJ.next ?_
    obtain ⟨k10, hk11, hm⟩ := withK_open hm
    refine WJ.join (X := Unit) (fun (_ : Unit) => k10  = some r) (fun (_ : Unit) => [(0, v2), (1, v5)]) (fun (_ : Unit) => []) ?_ ?_
    · clear hk11
      refine WJ.seq ?_
      refine WJ.quiet ?_
      refine QJ.step (y_assign rfl) rfl ?_
      refine QJ.done ?_
      refine PJ.next ?_
      refine WJ.block ?_
      refine WJ.sel (L' := (fun (x : Int) => []) 0) [] ⟨List.nodup_nil, rfl⟩ ?_
      refine WJ.sub (m' := (fun (x : Int) => [(0, v2), (1, v5), (5, .int .i64 x)]) 0) ⟨rfl, rfl, rfl, trivial⟩ ?_
      refine WJ.loop (X := Int) (fun N (x : Int) => s_l24Wants_l1 k10 wants4 N x = some r) (fun (x : Int) => [(0, v2), (1, v5), (5, .int .i64 x)]) (fun (x : Int) => []) ?_ N 0 hm
      · rintro N i12 hI
        have hm := hI; clear hI
        cases N with
        | zero => cases hm
        | succ N =>
        unfold s_l24Wants_l1 at hm
        refine WJ.seq ?_
        refine WJ.seq ?_
        refine WJ.quiet ?_
        refine QJ.step (y_move rfl) rfl ?_
        refine QJ.step (y_move rfl) rfl ?_
        refine QJ.step (y_lenS Try.runUnderlying32 hr6 rfl) rfl ?_
        refine QJ.step (y_bin rfl rfl rfl) rfl ?_
        refine QJ.done ?_
        refine PJ.next ?_
        refine WJ.cond (t := decide (i12 < (List.length wants4 : Int))) rfl (fun hb13 => ?_) (fun hb13 => ?_)
        · replace hm := ifT hm hb13
          refine WJ.skip ?_
          refine PJ.next ?_
          refine WJ.seq ?_
          refine WJ.block ?_
          refine WJ.seq ?_
          refine WJ.quiet ?_
          refine QJ.step (y_move rfl) rfl ?_
          refine QJ.step (y_move rfl) rfl ?_
          obtain ⟨e14, h15, hm⟩ := bindS hm
          obtain ⟨ad16, _, rfl, ha17, hy18⟩ := hr6.elem h15
          refine QJ.step (hy18 Try.runUnderlying32 Try.sizeOf2 rfl rfl) rfl ?_
          refine QJ.step (y_load1 (v := .int .i64 e14) Try.isAgg2 ha17 St.frozenC rfl) rfl ?_
          obtain ⟨r19, h20, hm⟩ := bindS hm
          refine QJ.step (y_call Try.call63 rfl (RetG.quiet fun w hw => ok_s_l24Many h20 w )) rfl ?_
          refine QJ.step (y_not rfl) rfl ?_
          refine QJ.done ?_
          refine PJ.next ?_
          refine WJ.cond (t := !r19) rfl (fun hb21 => ?_) (fun hb21 => ?_)
          · replace hm := ifT hm hb21
            refine WJ.seq ?_
            refine WJ.quiet ?_
            refine QJ.step (y_assign rfl) rfl ?_
            refine QJ.done ?_
            refine PJ.next ?_
            refine WJ.ret ?_
            refine PJ.block_ret (PJ.then_ret (PJ.then_ret (PJ.block_ret (PJ.then_ret ?_))))
            obtain rfl := Option.some.inj hm
            refine PJ.sel (L' := []) [] ⟨List.nodup_nil, rfl⟩ ?_
            exact PJ.retn (vs := [.int .i64 2]) Try.results51 ⟨rfl, trivial⟩ ⟨rfl, rfl⟩
          · replace hm := ifF hm hb21
            refine WJ.skip ?_
            refine PJ.block_normal (PJ.next ?_)
            refine WJ.quiet ?_
            refine QJ.step (y_move rfl) rfl ?_
            refine QJ.step (y_bin rfl rfl rfl) rfl ?_
            refine QJ.step (y_assign rfl) rfl ?_
            refine QJ.done ?_
            exact PJ.round (w64 (i12 + 1)) [] hm ⟨rfl, rfl, rfl, trivial⟩ ⟨List.nodup_nil, rfl⟩
        · replace hm := ifF hm hb13
          refine WJ.exit ?_
          refine PJ.then_exit (PJ.then_exit (PJ.block_exit ?_))
          exact PJ.joined () [] hm ⟨rfl, rfl, trivial⟩ ⟨List.nodup_nil, rfl⟩
    · rintro _ hm
      subst hk11
      refine WJ.seq ?_
      refine WJ.seq ?_
      refine WJ.quiet ?_
      refine QJ.step (y_move rfl) rfl ?_
      refine QJ.step (y_lenS Try.runUnderlying32 hr6 rfl) rfl ?_
      refine QJ.step (y_move rfl) rfl ?_
      refine QJ.step (y_lenS Try.runUnderlying47 hr3 rfl) rfl ?_
      refine QJ.step (y_bin rfl rfl rfl) rfl ?_
      refine QJ.done ?_
      refine PJ.next ?_
      refine WJ.cond (t := ((List.length wants4 : Int) != (List.length list1 : Int))) rfl (fun hb22 => ?_) (fun hb22 => ?_)
      · replace hm := ifT hm hb22
        refine WJ.seq ?_
        refine WJ.quiet ?_
        refine QJ.step (y_assign rfl) rfl ?_
        refine QJ.done ?_
        refine PJ.next ?_
        refine WJ.ret ?_
        refine PJ.then_ret ?_
        obtain rfl := Option.some.inj hm
        refine PJ.sel (L' := []) [] ⟨List.nodup_nil, rfl⟩ ?_
        exact PJ.retn (vs := [.int .i64 2]) Try.results51 ⟨rfl, trivial⟩ ⟨rfl, rfl⟩
      · replace hm := ifF hm hb22
        refine WJ.skip ?_
        refine PJ.next ?_
        refine WJ.seq ?_
        refine WJ.quiet ?_
        refine QJ.step (y_assign rfl) rfl ?_
        refine QJ.done ?_
        refine PJ.next ?_
        refine WJ.ret ?_
        obtain rfl := Option.some.inj hm
        refine PJ.sel (L' := []) [] ⟨List.nodup_nil, rfl⟩ ?_
        exact PJ.retn (vs := [.int .i64 0]) Try.results51 ⟨rfl, trivial⟩ ⟨rfl, rfl⟩

set_option maxRecDepth 100000 in
set_option maxHeartbeats 1000000 in
theorem ok_s_l00Max {a1 : Int} {b2 : Int} {r : Int} (hm : s_l00Max a1 b2 = some r) (w : World)  :
    Calls Try.prog 39 #[.int .i64 a1, .int .i64 b2] w (Ret (cx w) (.int .i64 r)) := by
  unfold s_l00Max at hm
  refine Calls.enter [.int .i64 a1, .int .i64 b2] Try.func39 rfl Try.ntmps39 rfl ?_
  refine WJ.seq ?_
  refine WJ.quiet ?_
  refine QJ.step (y_assign rfl) rfl ?_
  refine QJ.done ?_
  refine PJ.next ?_
  refine WJ.seq ?_
  refine WJ.seq ?_
  refine WJ.quiet ?_
  refine QJ.step (y_move rfl) rfl ?_
  refine QJ.step (y_move rfl) rfl ?_
  refine QJ.step (y_bin rfl rfl rfl) rfl ?_
  refine QJ.done ?_
  refine PJ.next ?_
  refine WJ.cond (t := decide (a1 > b2)) rfl (fun hb3 => ?_) (fun hb3 => ?_)
  · replace hm := ifT hm hb3
    refine WJ.seq ?_
    refine WJ.quiet ?_
    refine QJ.step (y_move rfl) rfl ?_
    refine QJ.step (y_assign rfl) rfl ?_
    refine QJ.done ?_
    refine PJ.next ?_
    refine WJ.ret ?_
    refine PJ.then_ret ?_
    obtain rfl := Option.some.inj hm
    refine PJ.sel (L' := []) [] ⟨List.nodup_nil, rfl⟩ ?_
    exact PJ.retn (vs := [.int .i64 a1]) Try.results39 ⟨rfl, trivial⟩ ⟨rfl, rfl⟩
  · replace hm := ifF hm hb3
    refine WJ.skip ?_
    refine PJ.next ?_
    refine WJ.seq ?_
    refine WJ.quiet ?_
    refine QJ.step (y_move rfl) rfl ?_
    refine QJ.step (y_assign rfl) rfl ?_
    refine QJ.done ?_
    refine PJ.next ?_
    refine WJ.ret ?_
    obtain rfl := Option.some.inj hm
    refine PJ.sel (L' := []) [] ⟨List.nodup_nil, rfl⟩ ?_
    exact PJ.retn (vs := [.int .i64 b2]) Try.results39 ⟨rfl, trivial⟩ ⟨rfl, rfl⟩

set_option maxRecDepth 100000 in
set_option maxHeartbeats 1000000 in
theorem ok_s_DaysUntil {N : Nat} {list1 : List SparePart} {wants4 : List Int} {r : Int × Int} (hm : s_DaysUntil N list1 wants4 = some r) (w : World) (v2 : Value) (hr3 : RdS w (cx w).Fz v2 fSparePart.rp list1) (v5 : Value) (hr6 : RdS w (cx w).Fz v5 fI64.rp wants4) :
    Calls Try.prog 27 #[v2, v5] w (Ret (cx w) (tup [.int .i64 r.1, .int .i64 r.2])) := by
  unfold s_DaysUntil at hm
  refine Calls.enter [v2, v5] Try.func27 rfl Try.ntmps27 rfl ?_
  refine WJ.seq ?_
  refine WJ.quiet ?_
  refine QJ.step (y_assign rfl) rfl ?_
  refine QJ.step (y_assign rfl) rfl ?_
  refine QJ.done ?_
  refine PJ.next ?_
  refine WJ.seq ?_
  refine WJ.quiet ?_
  refine QJ.step (y_move rfl) rfl ?_
  refine QJ.step (y_move rfl) rfl ?_
  obtain ⟨r7, h8, hm⟩ := bindS hm
  refine QJ.step (y_call Try.call51 rfl (RetG.quiet fun w hw => ok_s_l24Wants h8 w _ (hr3.st hw) _ (hr6.st hw))) rfl ?_
  refine QJ.step (y_assign rfl) rfl ?_
  refine QJ.done ?_
  refine PJ.next ?_
  refine WJ.seq ?_
  refine WJ.seq ?_
  refine WJ.quiet ?_
  refine QJ.step (y_move rfl) rfl ?_
  refine QJ.step (y_bin rfl rfl rfl) rfl ?_
  refine QJ.done ?_
  refine PJ.next ?_
  refine WJ.cond (t := (r7 != 0)) rfl (fun hb9 => ?_) (fun hb9 => ?_)
  · replace hm := ifT hm hb9
    refine WJ.seq ?_
    refine WJ.quiet ?_
    refine QJ.step (y_move rfl) rfl ?_
    refine QJ.step (y_assign rfl) rfl ?_
    refine QJ.step (y_assign rfl) rfl ?_
    refine QJ.done ?_
    refine PJ.next ?_
    refine WJ.ret ?_
    refine PJ.then_ret ?_
    obtain rfl := Option.some.inj hm
    refine PJ.sel (L' := []) [] ⟨List.nodup_nil, rfl⟩ ?_
    exact PJ.retn (vs := [.int .i64 0, .int .i64 r7]) Try.results27 ⟨rfl, rfl, trivial⟩ ⟨rfl, rfl⟩
  · replace hm := ifF hm hb9
    refine WJ.skip ?_
    refine PJ.next ?_
    refine WJ.seq ?_
    refine WJ.quiet ?_
    refine QJ.step (y_assign rfl) rfl ?_
    refine QJ.done ?_
    refine PJ.next ?_
    obtain ⟨k11, hk12, hm⟩ := withK_open hm
    refine WJ.join (X := Int) (fun (x : Int) => k11 x = some r) (fun (x : Int) => [(7, .int .i64 x)]) (fun (x : Int) => []) ?_ ?_
    · clear hk12
      refine WJ.seq ?_
      refine WJ.quiet ?_
      refine QJ.step (y_assign rfl) rfl ?_
      refine QJ.done ?_
      refine PJ.next ?_
      refine WJ.block ?_
      refine WJ.sel (L' := (fun (x : Int × Int) => []) (0, 0)) [] ⟨List.nodup_nil, rfl⟩ ?_
      refine WJ.sub (m' := (fun (x : Int × Int) => [(0, v2), (1, v5), (7, .int .i64 x.1), (8, .int .i64 x.2)]) (0, 0)) ⟨rfl, rfl, rfl, rfl, trivial⟩ ?_
      refine WJ.loop (X := Int × Int) (fun N (x : Int × Int) => s_DaysUntil_l1 k11 list1 wants4 N x.1 x.2 = some r) (fun (x : Int × Int) => [(0, v2), (1, v5), (7, .int .i64 x.1), (8, .int .i64 x.2)]) (fun (x : Int × Int) => []) ?_ N (0, 0) hm
      · rintro N ⟨most13, i14⟩ hI
        have hm := hI; clear hI
        cases N with
        | zero => cases hm
        | succ N =>
        unfold s_DaysUntil_l1 at hm
        refine WJ.seq ?_
        refine WJ.seq ?_
        refine WJ.quiet ?_
        refine QJ.step (y_move rfl) rfl ?_
        refine QJ.step (y_move rfl) rfl ?_
        refine QJ.step (y_lenS Try.runUnderlying47 hr3 rfl) rfl ?_
        refine QJ.step (y_bin rfl rfl rfl) rfl ?_
        refine QJ.done ?_
        refine PJ.next ?_
        refine WJ.cond (t := decide (i14 < (List.length list1 : Int))) rfl (fun hb15 => ?_) (fun hb15 => ?_)
        · replace hm := ifT hm hb15
          refine WJ.skip ?_
          refine PJ.next ?_
          obtain ⟨k18, hk18, hm⟩ := withK_open hm
          refine WJ.join (X := Int) (fun (x : Int) => k18 x = some r) (fun (x : Int) => [(0, v2), (1, v5), (7, .int .i64 x), (8, .int .i64 i14)]) (fun (x : Int) => []) ?_ ?_
          · clear hk18
            refine WJ.block ?_
            refine WJ.seq ?_
            refine WJ.quiet_draw follows (by kernel_rfl) ?_
            refine QJ.step (y_move rfl) rfl ?_
            refine QJ.step (y_move rfl) rfl ?_
            obtain ⟨e19, h20, hm⟩ := bindS hm
            obtain ⟨ad21, _, rfl, ha22, hy23⟩ := hr6.elem h20
            refine QJ.step (hy23 Try.runUnderlying32 Try.sizeOf2 rfl rfl) rfl ?_
            refine QJ.step (y_load1 (v := .int .i64 e19) Try.isAgg2 ha22 St.frozenC rfl) rfl ?_
            refine QJ.step (y_move rfl) rfl ?_
            refine QJ.step (y_move rfl) rfl ?_
            obtain ⟨e24, h25, hm⟩ := bindS hm
            obtain ⟨ad26, _, rfl, ha27, hy28⟩ := hr3.elem h25
            refine QJ.step (hy28 Try.runUnderlying47 Try.sizeOf78 rfl rfl) rfl ?_
            refine QJ.step (y_fld (ad := ad26) fld78_1 rfl) rfl ?_
            refine QJ.step (y_load1 (v := .int .i64 e24.stock) Try.isAgg2 (ha27.sub 1 1) St.frozenC rfl) rfl ?_
            refine QJ.step (y_bin rfl rfl rfl) rfl ?_
            refine QJ.done ?_
            refine PJ.next ?_
            refine WJ.cond (t := decide (e19 > e24.stock)) rfl (fun hb29 => ?_) (fun hb29 => ?_)
            · replace hm := ifT hm hb29
              refine WJ.quiet ?_
              refine QJ.step (y_move rfl) rfl ?_
              refine QJ.step (y_move rfl) rfl ?_
              refine QJ.step (y_move rfl) rfl ?_
              obtain ⟨e30, h31, hm⟩ := bindS hm
              obtain ⟨ad32, _, rfl, ha33, hy34⟩ := hr3.elem h31
              refine QJ.step (hy34 Try.runUnderlying47 Try.sizeOf78 rfl rfl) rfl ?_
              refine QJ.step (y_fld (ad := ad32) fld78_3 rfl) rfl ?_
              refine QJ.step (y_load1 (v := .int .i64 e30.days) Try.isAgg2 (ha33.sub 3 1) St.frozenC rfl) rfl ?_
              obtain ⟨r35, h36, hm⟩ := bindS hm
              refine QJ.step (y_call Try.call39 rfl (RetG.quiet fun w hw => ok_s_l00Max h36 w )) rfl ?_
              refine QJ.step (y_assign rfl) rfl ?_
              refine QJ.done ?_
              refine PJ.block_normal ?_
              exact PJ.joined r35 [] hm ⟨rfl, rfl, rfl, rfl, trivial⟩ ⟨List.nodup_nil, rfl⟩
            · replace hm := ifF hm hb29
              refine WJ.skip ?_
              refine PJ.block_normal ?_
              exact PJ.joined most13 [] hm ⟨rfl, rfl, rfl, rfl, trivial⟩ ⟨List.nodup_nil, rfl⟩
          · rintro most16 hm
            subst hk18
            refine WJ.quiet ?_
            refine QJ.step (y_move rfl) rfl ?_
            refine QJ.step (y_bin rfl rfl rfl) rfl ?_
            refine QJ.step (y_assign rfl) rfl ?_
            refine QJ.done ?_
            exact PJ.round (most16, w64 (i14 + 1)) [] hm ⟨rfl, rfl, rfl, rfl, trivial⟩ ⟨List.nodup_nil, rfl⟩
        · replace hm := ifF hm hb15
          refine WJ.exit ?_
          refine PJ.then_exit (PJ.then_exit (PJ.block_exit ?_))
          exact PJ.joined most13 [] hm ⟨rfl, trivial⟩ ⟨List.nodup_nil, rfl⟩
    · rintro most10 hm
      subst hk12
      refine WJ.seq ?_
      refine WJ.quiet ?_
      refine QJ.step (y_move rfl) rfl ?_
      refine QJ.step (y_assign rfl) rfl ?_
      refine QJ.step (y_assign rfl) rfl ?_
      refine QJ.done ?_
      refine PJ.next ?_
      refine WJ.ret ?_
      obtain rfl := Option.some.inj hm
      refine PJ.sel (L' := []) [] ⟨List.nodup_nil, rfl⟩ ?_
      exact PJ.retn (vs := [.int .i64 most10, .int .i64 0]) Try.results27 ⟨rfl, rfl, trivial⟩ ⟨rfl, rfl⟩

set_option maxRecDepth 100000 in
set_option maxHeartbeats 1000000 in
theorem ok_i_isDigit {b1 : UInt8} {r : Bool} (hm : i_isDigit b1 = some r) (w : World)  :
    Calls Try.prog 68 #[.int .u8 (UInt8.toNat b1 : Int)] w (Ret (cx w) (.bool r)) := by
  unfold i_isDigit at hm
  refine Calls.enter [.int .u8 (UInt8.toNat b1 : Int)] Try.func68 rfl Try.ntmps68 rfl ?_
  refine WJ.seq ?_
  refine WJ.quiet ?_
  refine QJ.step (y_assign rfl) rfl ?_
  refine QJ.done ?_
  refine PJ.next ?_
  refine WJ.seq ?_
  refine WJ.quiet ?_
  refine QJ.step (y_move rfl) rfl ?_
  refine QJ.step (y_bin8 b1 (48 : UInt8) rfl rfl rfl) rfl ?_
  refine QJ.step (y_move rfl) rfl ?_
  obtain ⟨t2, h3, hm⟩ := bindS hm
  refine QJ.cut 3 [(8, .bool t2)] ?_ ?_
  · rcases Bool.eq_false_or_eq_true (decide (b1 ≥ (48 : UInt8))) with hb4 | hb4
    · replace h3 := andT h3 hb4
      refine QJ.on rfl rfl (cB hb4) (y_move rfl) rfl ?_
      refine QJ.on rfl rfl (cB hb4) (y_bin8 b1 (57 : UInt8) rfl rfl rfl) rfl ?_
      refine QJ.step (y_pick_t (cB hb4) rfl) rfl ?_
      obtain rfl := Option.some.inj h3
      exact QJ.cut_end ⟨rfl, trivial⟩
    · obtain rfl := andF h3 hb4
      refine QJ.off rfl rfl (cB hb4) rfl rfl ?_
      refine QJ.off rfl rfl (cB hb4) rfl rfl ?_
      refine QJ.step (y_pick_f (cB hb4) rfl) rfl ?_
      exact QJ.cut_end ⟨rfl, trivial⟩
  refine QJ.step (y_assign rfl) rfl ?_
  refine QJ.done ?_
  refine PJ.next ?_
  refine WJ.ret ?_
  obtain rfl := Option.some.inj hm
  refine PJ.sel (L' := []) [] ⟨List.nodup_nil, rfl⟩ ?_
  exact PJ.retn (vs := [.bool t2]) Try.results68 ⟨rfl, trivial⟩ ⟨rfl, rfl⟩

set_option maxRecDepth 100000 in
set_option maxHeartbeats 1000000 in
theorem ok_i_IsName {N : Nat} {s1 : Str} {r : Bool} (hm : i_IsName N s1 = some r) (w : World)  :
    Calls Try.prog 61 #[str s1] w (Ret (cx w) (.bool r)) := by
  unfold i_IsName at hm
  refine Calls.enter [str s1] Try.func61 rfl Try.ntmps61 rfl ?_
  refine WJ.seq ?_
  refine WJ.quiet ?_
  refine QJ.step (y_assign rfl) rfl ?_
  refine QJ.done ?_
  refine PJ.next ?_
  refine WJ.seq ?_
  refine WJ.seq ?_
  refine WJ.quiet ?_
  refine QJ.step (y_move rfl) rfl ?_
  refine QJ.step (y_lenStr Try.runUnderlying9 rfl) rfl ?_
  refine QJ.step (y_bin rfl rfl rfl) rfl ?_
  refine QJ.step (y_move rfl) rfl ?_
  obtain ⟨t2, h3, hm⟩ := bindS hm
  refine QJ.cut 4 [(0, str s1), (12, .bool t2)] ?_ ?_
  · rcases Bool.eq_false_or_eq_true ((List.length s1 : Int) == 0) with hb4 | hb4
    · obtain rfl := orT h3 hb4
      refine QJ.off rfl rfl (cB hb4) rfl rfl ?_
      refine QJ.off rfl rfl (cB hb4) rfl rfl ?_
      refine QJ.off rfl rfl (cB hb4) rfl rfl ?_
      refine QJ.step (y_pick_t (cB hb4) rfl) rfl ?_
      exact QJ.cut_end ⟨rfl, rfl, trivial⟩
    · replace h3 := orF h3 hb4
      refine QJ.on rfl rfl (cB hb4) (y_move rfl) rfl ?_
      refine QJ.on rfl rfl (cB hb4) (y_lenStr Try.runUnderlying9 rfl) rfl ?_
      refine QJ.on rfl rfl (cB hb4) (y_bin rfl rfl rfl) rfl ?_
      refine QJ.step (y_pick_f (cB hb4) rfl) rfl ?_
      obtain rfl := Option.some.inj h3
      exact QJ.cut_end ⟨rfl, rfl, trivial⟩
  refine QJ.done ?_
  refine PJ.next ?_
  refine WJ.cond (t := t2) rfl (fun hb5 => ?_) (fun hb5 => ?_)
  · replace hm := ifT hm hb5
    refine WJ.seq ?_
    refine WJ.quiet ?_
    refine QJ.step (y_assign rfl) rfl ?_
    refine QJ.done ?_
    refine PJ.next ?_
    refine WJ.ret ?_
    refine PJ.then_ret ?_
    obtain rfl := Option.some.inj hm
    refine PJ.sel (L' := []) [] ⟨List.nodup_nil, rfl⟩ ?_
    exact PJ.retn (vs := [.bool false]) Try.results61 ⟨rfl, trivial⟩ ⟨rfl, rfl⟩
  · replace hm := ifF hm hb5
    refine WJ.skip ?_
    refine PJ.next ?_
    obtain ⟨k6, hk7, hm⟩ := withK_open hm
    refine WJ.join (X := Unit) (fun (_ : Unit) => k6  = some r) (fun (_ : Unit) => []) (fun (_ : Unit) => []) ?_ ?_
    · clear hk7
      refine WJ.seq ?_
      refine WJ.quiet ?_
      refine QJ.step (y_move rfl) rfl ?_
      refine QJ.step (y_lenStr Try.runUnderlying9 rfl) rfl ?_
      refine QJ.step (y_move rfl) rfl ?_
      refine QJ.done ?_
      refine PJ.next ?_
      refine WJ.block ?_
      refine WJ.sel (L' := (fun (x : Int) => []) 0) [] ⟨List.nodup_nil, rfl⟩ ?_
      refine WJ.sub (m' := (fun (x : Int) => [(0, str s1), (14, .int .i64 (List.length s1 : Int)), (15, .int .i64 x)]) 0) ⟨rfl, rfl, rfl, trivial⟩ ?_
      refine WJ.loop (X := Int) (fun N (x : Int) => i_IsName_l1 k6 s1 N x = some r) (fun (x : Int) => [(0, str s1), (14, .int .i64 (List.length s1 : Int)), (15, .int .i64 x)]) (fun (x : Int) => []) ?_ N 0 hm
      · rintro N x8 hI
        have hm := hI; clear hI
        cases N with
        | zero => cases hm
        | succ N =>
        unfold i_IsName_l1 at hm
        refine WJ.seq ?_
        refine WJ.quiet ?_
        refine QJ.step (y_bin rfl rfl rfl) rfl ?_
        refine QJ.done ?_
        refine PJ.next ?_
        refine WJ.seq ?_
        refine WJ.cond (t := decide (x8 < (List.length s1 : Int))) rfl (fun hb9 => ?_) (fun hb9 => ?_)
        · replace hm := ifT hm hb9
          refine WJ.skip ?_
          refine PJ.next ?_
          refine WJ.seq ?_
          refine WJ.block ?_
          refine WJ.seq ?_
          refine WJ.quiet ?_
          refine QJ.step (y_move rfl) rfl ?_
          refine QJ.step (y_assign rfl) rfl ?_
          refine QJ.done ?_
          refine PJ.next ?_
          refine WJ.seq ?_
          refine WJ.quiet ?_
          refine QJ.step (y_move rfl) rfl ?_
          refine QJ.step (y_move rfl) rfl ?_
          obtain ⟨c10, h11, hm⟩ := bindS hm
          refine QJ.step (y_idxStr Try.runUnderlying9 rfl rfl h11) rfl ?_
          refine QJ.step (y_bin8 c10 (97 : UInt8) rfl rfl rfl) rfl ?_
          refine QJ.step (y_move rfl) rfl ?_
          obtain ⟨t12, h13, hm⟩ := bindS hm
          refine QJ.cut 5 [(0, str s1), (3, .int .i64 x8), (14, .int .i64 (List.length s1 : Int)), (15, .int .i64 x8), (27, .bool t12)] ?_ ?_
          · rcases Bool.eq_false_or_eq_true (decide (c10 ≥ (97 : UInt8))) with hb14 | hb14
            · replace h13 := andT h13 hb14
              refine QJ.on rfl rfl (cB hb14) (y_move rfl) rfl ?_
              refine QJ.on rfl rfl (cB hb14) (y_move rfl) rfl ?_
              obtain ⟨c15, h16, h13⟩ := bindS h13
              refine QJ.on rfl rfl (cB hb14) (y_idxStr Try.runUnderlying9 rfl rfl h16) rfl ?_
              refine QJ.on rfl rfl (cB hb14) (y_bin8 c15 (122 : UInt8) rfl rfl rfl) rfl ?_
              refine QJ.step (y_pick_t (cB hb14) rfl) rfl ?_
              obtain rfl := Option.some.inj h13
              exact QJ.cut_end ⟨rfl, rfl, rfl, rfl, rfl, trivial⟩
            · obtain rfl := andF h13 hb14
              refine QJ.off rfl rfl (cB hb14) rfl rfl ?_
              refine QJ.off rfl rfl (cB hb14) rfl rfl ?_
              refine QJ.off rfl rfl (cB hb14) rfl rfl ?_
              refine QJ.off rfl rfl (cB hb14) rfl rfl ?_
              refine QJ.step (y_pick_f (cB hb14) rfl) rfl ?_
              exact QJ.cut_end ⟨rfl, rfl, rfl, rfl, rfl, trivial⟩
          refine QJ.step (y_assign rfl) rfl ?_
          refine QJ.done ?_
          refine PJ.next ?_
          refine WJ.seq ?_
          refine WJ.quiet ?_
          refine QJ.step (y_move rfl) rfl ?_
          refine QJ.step (y_not rfl) rfl ?_
          refine QJ.step (y_move rfl) rfl ?_
          obtain ⟨t17, h18, hm⟩ := bindS hm
          refine QJ.cut 16 [(0, str s1), (14, .int .i64 (List.length s1 : Int)), (15, .int .i64 x8), (46, .bool t17)] ?_ ?_
          · rcases Bool.eq_false_or_eq_true (!t12) with hb19 | hb19
            · replace h18 := andT h18 hb19
              refine QJ.on rfl rfl (cB hb19) (y_move rfl) rfl ?_
              refine QJ.on rfl rfl (cB hb19) (y_bin rfl rfl rfl) rfl ?_
              refine QJ.on rfl rfl (cB hb19) (y_move rfl) rfl ?_
              obtain ⟨t20, h21, h18⟩ := bindS h18
              refine QJ.cut 12 [(0, str s1), (14, .int .i64 (List.length s1 : Int)), (15, .int .i64 x8), (30, .bool (!t12)), (31, .int .i64 x8), (32, .bool (x8 == 0)), (33, .bool (x8 == 0)), (45, .bool t20)] ?_ ?_
              · rcases Bool.eq_false_or_eq_true (x8 == 0) with hb22 | hb22
                · obtain rfl := orT h21 hb22
                  refine QJ.off rfl rfl (cB hb22) rfl rfl ?_
                  refine QJ.off rfl rfl (cB hb22) rfl rfl ?_
                  refine QJ.off rfl rfl (cB hb22) rfl rfl ?_
                  refine QJ.off rfl rfl (cB hb22) rfl rfl ?_
                  refine QJ.off rfl rfl (cB hb22) rfl rfl ?_
                  refine QJ.off_undef rfl rfl rfl rfl ?_
                  refine QJ.off_undef rfl rfl rfl rfl ?_
                  refine QJ.off_undef rfl rfl rfl rfl ?_
                  refine QJ.off_undef rfl rfl rfl rfl ?_
                  refine QJ.off_undef rfl rfl rfl rfl ?_
                  refine QJ.off rfl rfl (cB hb22) rfl rfl ?_
                  refine QJ.on rfl rfl (cB hb19) (y_pick_t (cB hb22) rfl) rfl ?_
                  exact QJ.cut_end ⟨rfl, rfl, rfl, rfl, rfl, rfl, rfl, rfl, trivial⟩
                · replace h21 := orF h21 hb22
                  refine QJ.on rfl rfl (cB hb22) (y_move rfl) rfl ?_
                  refine QJ.on rfl rfl (cB hb22) (y_move rfl) rfl ?_
                  obtain ⟨c23, h24, h21⟩ := bindS h21
                  refine QJ.on rfl rfl (cB hb22) (y_idxStr Try.runUnderlying9 rfl rfl h24) rfl ?_
                  refine QJ.on rfl rfl (cB hb22) (y_bin8 c23 (45 : UInt8) rfl rfl rfl) rfl ?_
                  refine QJ.on rfl rfl (cB hb22) (y_move rfl) rfl ?_
                  obtain ⟨t25, h26, h21⟩ := bindS h21
                  refine QJ.cut 6 [(0, str s1), (14, .int .i64 (List.length s1 : Int)), (15, .int .i64 x8), (30, .bool (!t12)), (31, .int .i64 x8), (32, .bool (x8 == 0)), (33, .bool (x8 == 0)), (34, str s1), (35, .int .i64 x8), (36, .int .u8 (UInt8.toNat c23 : Int)), (37, .bool (c23 != (45 : UInt8))), (38, .bool (c23 != (45 : UInt8))), (44, .bool t25)] ?_ ?_
                  · rcases Bool.eq_false_or_eq_true (c23 != (45 : UInt8)) with hb27 | hb27
                    · replace h26 := andT h26 hb27
                      refine QJ.on rfl rfl (cB hb27) (y_move rfl) rfl ?_
                      refine QJ.on rfl rfl (cB hb27) (y_move rfl) rfl ?_
                      obtain ⟨c28, h29, h26⟩ := bindS h26
                      refine QJ.on rfl rfl (cB hb27) (y_idxStr Try.runUnderlying9 rfl rfl h29) rfl ?_
                      obtain ⟨r30, h31, h26⟩ := bindS h26
                      refine QJ.on rfl rfl (cB hb27) (y_call Try.call68 rfl (RetG.quiet fun w hw => ok_i_isDigit h31 w )) rfl ?_
                      refine QJ.on rfl rfl (cB hb27) (y_not rfl) rfl ?_
                      refine QJ.on rfl rfl (cB hb22) (y_pick_t (cB hb27) rfl) rfl ?_
                      obtain rfl := Option.some.inj h26
                      exact QJ.cut_end ⟨rfl, rfl, rfl, rfl, rfl, rfl, rfl, rfl, rfl, rfl, rfl, rfl, rfl, trivial⟩
                    · obtain rfl := andF h26 hb27
                      refine QJ.off rfl rfl (cB hb27) rfl rfl ?_
                      refine QJ.off rfl rfl (cB hb27) rfl rfl ?_
                      refine QJ.off rfl rfl (cB hb27) rfl rfl ?_
                      refine QJ.off rfl rfl (cB hb27) rfl rfl ?_
                      refine QJ.off rfl rfl (cB hb27) rfl rfl ?_
                      refine QJ.on rfl rfl (cB hb22) (y_pick_f (cB hb27) rfl) rfl ?_
                      exact QJ.cut_end ⟨rfl, rfl, rfl, rfl, rfl, rfl, rfl, rfl, rfl, rfl, rfl, rfl, rfl, trivial⟩
                  refine QJ.on rfl rfl (cB hb19) (y_pick_f (cB hb22) rfl) rfl ?_
                  obtain rfl := Option.some.inj h21
                  exact QJ.cut_end ⟨rfl, rfl, rfl, rfl, rfl, rfl, rfl, rfl, trivial⟩
              refine QJ.step (y_pick_t (cB hb19) rfl) rfl ?_
              obtain rfl := Option.some.inj h18
              exact QJ.cut_end ⟨rfl, rfl, rfl, rfl, trivial⟩
            · obtain rfl := andF h18 hb19
              refine QJ.off rfl rfl (cB hb19) rfl rfl ?_
              refine QJ.off rfl rfl (cB hb19) rfl rfl ?_
              refine QJ.off rfl rfl (cB hb19) rfl rfl ?_
              refine QJ.off_undef rfl rfl rfl rfl ?_
              refine QJ.off_undef rfl rfl rfl rfl ?_
              refine QJ.off_undef rfl rfl rfl rfl ?_
              refine QJ.off_undef rfl rfl rfl rfl ?_
              refine QJ.off_undef rfl rfl rfl rfl ?_
              refine QJ.off_undef rfl rfl rfl rfl ?_
              refine QJ.off_undef rfl rfl rfl rfl ?_
              refine QJ.off_undef rfl rfl rfl rfl ?_
              refine QJ.off_undef rfl rfl rfl rfl ?_
              refine QJ.off_undef rfl rfl rfl rfl ?_
              refine QJ.off_undef rfl rfl rfl rfl ?_
              refine QJ.off rfl rfl (cB hb19) rfl rfl ?_
              refine QJ.step (y_pick_f (cB hb19) rfl) rfl ?_
              exact QJ.cut_end ⟨rfl, rfl, rfl, rfl, trivial⟩
          refine QJ.done ?_
          refine PJ.next ?_
          refine WJ.cond (t := t17) rfl (fun hb32 => ?_) (fun hb32 => ?_)
          · replace hm := ifT hm hb32
            refine WJ.seq ?_
            refine WJ.quiet ?_
            refine QJ.step (y_assign rfl) rfl ?_
            refine QJ.done ?_
            refine PJ.next ?_
            refine WJ.ret ?_
            refine PJ.block_ret (PJ.then_ret (PJ.then_ret (PJ.block_ret (PJ.then_ret ?_))))
            obtain rfl := Option.some.inj hm
            refine PJ.sel (L' := []) [] ⟨List.nodup_nil, rfl⟩ ?_
            exact PJ.retn (vs := [.bool false]) Try.results61 ⟨rfl, trivial⟩ ⟨rfl, rfl⟩
          · replace hm := ifF hm hb32
            refine WJ.skip ?_
            refine PJ.block_normal (PJ.next ?_)
            refine WJ.quiet ?_
            refine QJ.step (y_bin rfl rfl rfl) rfl ?_
            refine QJ.step (y_move rfl) rfl ?_
            refine QJ.done ?_
            exact PJ.round (w64 (x8 + 1)) [] hm ⟨rfl, rfl, rfl, trivial⟩ ⟨List.nodup_nil, rfl⟩
        · replace hm := ifF hm hb9
          refine WJ.exit ?_
          refine PJ.then_exit (PJ.then_exit (PJ.block_exit ?_))
          exact PJ.joined () [] hm trivial ⟨List.nodup_nil, rfl⟩
    · rintro _ hm
      subst hk7
      refine WJ.seq ?_
      refine WJ.quiet ?_
      refine QJ.step (y_assign rfl) rfl ?_
      refine QJ.done ?_
      refine PJ.next ?_
      refine WJ.ret ?_
      obtain rfl := Option.some.inj hm
      refine PJ.sel (L' := []) [] ⟨List.nodup_nil, rfl⟩ ?_
      exact PJ.retn (vs := [.bool true]) Try.results61 ⟨rfl, trivial⟩ ⟨rfl, rfl⟩

set_option maxRecDepth 100000 in
set_option maxHeartbeats 1000000 in
theorem ok_i_between {n1 : Int} {low2 : Int} {high3 : Int} {r : Bool} (hm : i_between n1 low2 high3 = some r) (w : World)  :
    Calls Try.prog 40 #[.int .i64 n1, .int .i64 low2, .int .i64 high3] w (Ret (cx w) (.bool r)) := by
  unfold i_between at hm
  refine Calls.enter [.int .i64 n1, .int .i64 low2, .int .i64 high3] Try.func40 rfl Try.ntmps40 rfl ?_
  refine WJ.seq ?_
  refine WJ.quiet ?_
  refine QJ.step (y_assign rfl) rfl ?_
  refine QJ.done ?_
  refine PJ.next ?_
  refine WJ.seq ?_
  refine WJ.quiet ?_
  refine QJ.step (y_move rfl) rfl ?_
  refine QJ.step (y_move rfl) rfl ?_
  refine QJ.step (y_bin rfl rfl rfl) rfl ?_
  refine QJ.step (y_move rfl) rfl ?_
  obtain ⟨t4, h5, hm⟩ := bindS hm
  refine QJ.cut 4 [(14, .bool t4)] ?_ ?_
  · rcases Bool.eq_false_or_eq_true (decide (n1 ≥ low2)) with hb6 | hb6
    · replace h5 := andT h5 hb6
      refine QJ.on rfl rfl (cB hb6) (y_move rfl) rfl ?_
      refine QJ.on rfl rfl (cB hb6) (y_move rfl) rfl ?_
      refine QJ.on rfl rfl (cB hb6) (y_bin rfl rfl rfl) rfl ?_
      refine QJ.step (y_pick_t (cB hb6) rfl) rfl ?_
      obtain rfl := Option.some.inj h5
      exact QJ.cut_end ⟨rfl, trivial⟩
    · obtain rfl := andF h5 hb6
      refine QJ.off rfl rfl (cB hb6) rfl rfl ?_
      refine QJ.off rfl rfl (cB hb6) rfl rfl ?_
      refine QJ.off rfl rfl (cB hb6) rfl rfl ?_
      refine QJ.step (y_pick_f (cB hb6) rfl) rfl ?_
      exact QJ.cut_end ⟨rfl, trivial⟩
  refine QJ.step (y_assign rfl) rfl ?_
  refine QJ.done ?_
  refine PJ.next ?_
  refine WJ.ret ?_
  obtain rfl := Option.some.inj hm
  refine PJ.sel (L' := []) [] ⟨List.nodup_nil, rfl⟩ ?_
  exact PJ.retn (vs := [.bool t4]) Try.results40 ⟨rfl, trivial⟩ ⟨rfl, rfl⟩

set_option maxRecDepth 100000 in
set_option maxHeartbeats 1000000 in
theorem ok_i_ValidParts {N : Nat} {list1 : List SparePart} {r : Bool} (hm : i_ValidParts N list1 = some r) (w : World) (v2 : Value) (hr3 : RdS w (cx w).Fz v2 fSparePart.rp list1) :
    Calls Try.prog 64 #[v2] w (Ret (cx w) (.bool r)) := by
  unfold i_ValidParts at hm
  refine Calls.enter [v2] Try.func64 rfl Try.ntmps64 rfl ?_
  refine WJ.seq ?_
  refine WJ.quiet ?_
  refine QJ.step (y_assign rfl) rfl ?_
  refine QJ.done ?_
  refine PJ.next ?_
  refine WJ.seq ?_
  refine WJ.seq ?_
  refine WJ.quiet ?_
  refine QJ.step (y_move rfl) rfl ?_
  refine QJ.step (y_lenS Try.runUnderlying47 hr3 rfl) rfl ?_
  refine QJ.step (y_bin rfl rfl rfl) rfl ?_
  refine QJ.done ?_
  refine PJ.next ?_
  refine WJ.cond (t := decide ((List.length list1 : Int) > 40)) rfl (fun hb4 => ?_) (fun hb4 => ?_)
  · replace hm := ifT hm hb4
    refine WJ.seq ?_
    refine WJ.quiet ?_
    refine QJ.step (y_assign rfl) rfl ?_
    refine QJ.done ?_
    refine PJ.next ?_
    refine WJ.ret ?_
    refine PJ.then_ret ?_
    obtain rfl := Option.some.inj hm
    refine PJ.sel (L' := []) [] ⟨List.nodup_nil, rfl⟩ ?_
    exact PJ.retn (vs := [.bool false]) Try.results64 ⟨rfl, trivial⟩ ⟨rfl, rfl⟩
  · replace hm := ifF hm hb4
    refine WJ.skip ?_
    refine PJ.next ?_
    refine WJ.seq ?_
    refine WJ.reg ?_
    refine SJ.makeMap rfl fun g5 => ?_
    refine SJ.q (y_assign rfl) rfl ?_
    refine SJ.nil ?_
    refine PJ.next ?_
    obtain ⟨k6, hk7, hm⟩ := withK_open hm
    refine WJ.join (X := Unit) (fun (_ : Unit) => k6  = some r) (fun (_ : Unit) => [(0, v2)]) (fun (_ : Unit) => []) ?_ ?_
    · clear hk7
      refine WJ.seq ?_
      refine WJ.quiet ?_
      refine QJ.step (y_move rfl) rfl ?_
      refine QJ.step (y_lenS Try.runUnderlying47 hr3 rfl) rfl ?_
      refine QJ.step (y_move rfl) rfl ?_
      refine QJ.done ?_
      refine PJ.next ?_
      refine WJ.block ?_
      refine WJ.sel (L' := (fun (x : (List (Str × Bool)) × Int) => [mp g5 x.1]) ([], 0)) [0] ⟨by decide, rfl⟩ ?_
      refine WJ.sub (m' := (fun (x : (List (Str × Bool)) × Int) => [(0, v2), (3, .map (some g5)), (13, v2), (14, .int .i64 (List.length list1 : Int)), (15, .int .i64 x.2)]) ([], 0)) ⟨rfl, rfl, rfl, rfl, rfl, trivial⟩ ?_
      refine WJ.loop (X := (List (Str × Bool)) × Int) (fun N (x : (List (Str × Bool)) × Int) => i_ValidParts_l1 k6 list1 N x.1 x.2 = some r) (fun (x : (List (Str × Bool)) × Int) => [(0, v2), (3, .map (some g5)), (13, v2), (14, .int .i64 (List.length list1 : Int)), (15, .int .i64 x.2)]) (fun (x : (List (Str × Bool)) × Int) => [mp g5 x.1]) ?_ N ([], 0) hm
      · rintro N ⟨mp8, x9⟩ hI
        have hm := hI; clear hI
        cases N with
        | zero => cases hm
        | succ N =>
        unfold i_ValidParts_l1 at hm
        refine WJ.seq ?_
        refine WJ.quiet ?_
        refine QJ.step (y_bin rfl rfl rfl) rfl ?_
        refine QJ.done ?_
        refine PJ.next ?_
        refine WJ.seq ?_
        refine WJ.cond (t := decide (x9 < (List.length list1 : Int))) rfl (fun hb10 => ?_) (fun hb10 => ?_)
        · replace hm := ifT hm hb10
          refine WJ.skip ?_
          refine PJ.next ?_
          refine WJ.seq ?_
          refine WJ.block ?_
          refine WJ.seq ?_
          refine WJ.reg ?_
          obtain ⟨e11, h12, hm⟩ := bindS hm
          obtain ⟨ad13, _, rfl, ha14, hy15⟩ := hr3.elem h12
          refine SJ.q (hy15 Try.runUnderlying47 Try.sizeOf78 rfl rfl) rfl ?_
          refine SJ.q (y_loadN Try.isAgg78 Try.sizeOf78 rfl ha14 St.frozenC rfl) rfl ?_
          refine SJ.alloc (cs := [str [], .int .i64 0, .int .i64 0, .int .i64 0, .int .i64 0]) Try.zeroValue78 rfl rfl fun g16 => ?_
          refine SJ.storeL (k := 0) (off := 0) (us := [str e11.name, .int .i64 e11.stock, .int .i64 e11.target, .int .i64 e11.days, .int .i64 e11.instead]) rfl rfl rfl rfl Try.sizeOf78 rfl rfl ?_
          refine SJ.nil ?_
          refine PJ.next ?_
          refine WJ.seq ?_
          refine WJ.seq ?_
          refine WJ.quiet ?_
          refine QJ.step (y_fldB (o := 0) fld78_0 rfl) rfl ?_
          refine QJ.step (y_loadB (k := 0) (off := 0) (v := str e11.name) rfl Try.isAgg9 rfl rfl) rfl ?_
          obtain ⟨r17, h18, hm⟩ := bindS hm
          refine QJ.step (y_call Try.call61 rfl (RetG.quiet fun w hw => ok_i_IsName h18 w )) rfl ?_
          refine QJ.step (y_not rfl) rfl ?_
          refine QJ.step (y_move rfl) rfl ?_
          obtain ⟨t19, h20, hm⟩ := bindS hm
          refine QJ.cut 5 [(0, v2), (3, .map (some g5)), (5, pt g16 0), (13, v2), (14, .int .i64 (List.length list1 : Int)), (15, .int .i64 x9), (28, .bool t19)] ?_ ?_
          · rcases Bool.eq_false_or_eq_true (!r17) with hb21 | hb21
            · obtain rfl := orT h20 hb21
              refine QJ.off rfl rfl (cB hb21) rfl rfl ?_
              refine QJ.off rfl rfl (cB hb21) rfl rfl ?_
              refine QJ.off rfl rfl (cB hb21) rfl rfl ?_
              refine QJ.off rfl rfl (cB hb21) rfl rfl ?_
              refine QJ.step (y_pick_t (cB hb21) rfl) rfl ?_
              exact QJ.cut_end ⟨rfl, rfl, rfl, rfl, rfl, rfl, rfl, trivial⟩
            · replace h20 := orF h20 hb21
              refine QJ.on rfl rfl (cB hb21) (y_move rfl) rfl ?_
              refine QJ.on rfl rfl (cB hb21) (y_fldB (o := 0) fld78_0 rfl) rfl ?_
              refine QJ.on rfl rfl (cB hb21) (y_loadB (k := 0) (off := 0) (v := str e11.name) rfl Try.isAgg9 rfl rfl) rfl ?_
              refine QJ.on rfl rfl (cB hb21) (y_lookupSB (k := 1) rfl Try.underlying86 Try.underlying9 Try.zeroValue4 rfl rfl) rfl ?_
              refine QJ.step (y_pick_f (cB hb21) rfl) rfl ?_
              obtain rfl := Option.some.inj h20
              exact QJ.cut_end ⟨rfl, rfl, rfl, rfl, rfl, rfl, rfl, trivial⟩
          refine QJ.step (y_move rfl) rfl ?_
          obtain ⟨t22, h23, hm⟩ := bindS hm
          refine QJ.cut 5 [(0, v2), (3, .map (some g5)), (5, pt g16 0), (13, v2), (14, .int .i64 (List.length list1 : Int)), (15, .int .i64 x9), (34, .bool t22)] ?_ ?_
          · rcases Bool.eq_false_or_eq_true t19 with hb24 | hb24
            · obtain rfl := orT h23 hb24
              refine QJ.off rfl rfl (cB hb24) rfl rfl ?_
              refine QJ.off rfl rfl (cB hb24) rfl rfl ?_
              refine QJ.off rfl rfl (cB hb24) rfl rfl ?_
              refine QJ.off rfl rfl (cB hb24) rfl rfl ?_
              refine QJ.step (y_pick_t (cB hb24) rfl) rfl ?_
              exact QJ.cut_end ⟨rfl, rfl, rfl, rfl, rfl, rfl, rfl, trivial⟩
            · replace h23 := orF h23 hb24
              refine QJ.on rfl rfl (cB hb24) (y_fldB (o := 0) fld78_1 rfl) rfl ?_
              refine QJ.on rfl rfl (cB hb24) (y_loadB (k := 0) (off := 1) (v := .int .i64 e11.stock) rfl Try.isAgg2 rfl rfl) rfl ?_
              obtain ⟨r25, h26, h23⟩ := bindS h23
              refine QJ.on rfl rfl (cB hb24) (y_call Try.call40 rfl (RetG.quiet fun w hw => ok_i_between h26 w )) rfl ?_
              refine QJ.on rfl rfl (cB hb24) (y_not rfl) rfl ?_
              refine QJ.step (y_pick_f (cB hb24) rfl) rfl ?_
              obtain rfl := Option.some.inj h23
              exact QJ.cut_end ⟨rfl, rfl, rfl, rfl, rfl, rfl, rfl, trivial⟩
          refine QJ.step (y_move rfl) rfl ?_
          obtain ⟨t27, h28, hm⟩ := bindS hm
          refine QJ.cut 5 [(0, v2), (3, .map (some g5)), (5, pt g16 0), (13, v2), (14, .int .i64 (List.length list1 : Int)), (15, .int .i64 x9), (40, .bool t27)] ?_ ?_
          · rcases Bool.eq_false_or_eq_true t22 with hb29 | hb29
            · obtain rfl := orT h28 hb29
              refine QJ.off rfl rfl (cB hb29) rfl rfl ?_
              refine QJ.off rfl rfl (cB hb29) rfl rfl ?_
              refine QJ.off rfl rfl (cB hb29) rfl rfl ?_
              refine QJ.off rfl rfl (cB hb29) rfl rfl ?_
              refine QJ.step (y_pick_t (cB hb29) rfl) rfl ?_
              exact QJ.cut_end ⟨rfl, rfl, rfl, rfl, rfl, rfl, rfl, trivial⟩
            · replace h28 := orF h28 hb29
              refine QJ.on rfl rfl (cB hb29) (y_fldB (o := 0) fld78_2 rfl) rfl ?_
              refine QJ.on rfl rfl (cB hb29) (y_loadB (k := 0) (off := 2) (v := .int .i64 e11.target) rfl Try.isAgg2 rfl rfl) rfl ?_
              obtain ⟨r30, h31, h28⟩ := bindS h28
              refine QJ.on rfl rfl (cB hb29) (y_call Try.call40 rfl (RetG.quiet fun w hw => ok_i_between h31 w )) rfl ?_
              refine QJ.on rfl rfl (cB hb29) (y_not rfl) rfl ?_
              refine QJ.step (y_pick_f (cB hb29) rfl) rfl ?_
              obtain rfl := Option.some.inj h28
              exact QJ.cut_end ⟨rfl, rfl, rfl, rfl, rfl, rfl, rfl, trivial⟩
          refine QJ.step (y_move rfl) rfl ?_
          obtain ⟨t32, h33, hm⟩ := bindS hm
          refine QJ.cut 5 [(0, v2), (3, .map (some g5)), (5, pt g16 0), (13, v2), (14, .int .i64 (List.length list1 : Int)), (15, .int .i64 x9), (46, .bool t32)] ?_ ?_
          · rcases Bool.eq_false_or_eq_true t27 with hb34 | hb34
            · obtain rfl := orT h33 hb34
              refine QJ.off rfl rfl (cB hb34) rfl rfl ?_
              refine QJ.off rfl rfl (cB hb34) rfl rfl ?_
              refine QJ.off rfl rfl (cB hb34) rfl rfl ?_
              refine QJ.off rfl rfl (cB hb34) rfl rfl ?_
              refine QJ.step (y_pick_t (cB hb34) rfl) rfl ?_
              exact QJ.cut_end ⟨rfl, rfl, rfl, rfl, rfl, rfl, rfl, trivial⟩
            · replace h33 := orF h33 hb34
              refine QJ.on rfl rfl (cB hb34) (y_fldB (o := 0) fld78_3 rfl) rfl ?_
              refine QJ.on rfl rfl (cB hb34) (y_loadB (k := 0) (off := 3) (v := .int .i64 e11.days) rfl Try.isAgg2 rfl rfl) rfl ?_
              obtain ⟨r35, h36, h33⟩ := bindS h33
              refine QJ.on rfl rfl (cB hb34) (y_call Try.call40 rfl (RetG.quiet fun w hw => ok_i_between h36 w )) rfl ?_
              refine QJ.on rfl rfl (cB hb34) (y_not rfl) rfl ?_
              refine QJ.step (y_pick_f (cB hb34) rfl) rfl ?_
              obtain rfl := Option.some.inj h33
              exact QJ.cut_end ⟨rfl, rfl, rfl, rfl, rfl, rfl, rfl, trivial⟩
          refine QJ.step (y_move rfl) rfl ?_
          obtain ⟨t37, h38, hm⟩ := bindS hm
          refine QJ.cut 8 [(0, v2), (3, .map (some g5)), (5, pt g16 0), (13, v2), (14, .int .i64 (List.length list1 : Int)), (15, .int .i64 x9), (55, .bool t37)] ?_ ?_
          · rcases Bool.eq_false_or_eq_true t32 with hb39 | hb39
            · obtain rfl := orT h38 hb39
              refine QJ.off rfl rfl (cB hb39) rfl rfl ?_
              refine QJ.off rfl rfl (cB hb39) rfl rfl ?_
              refine QJ.off rfl rfl (cB hb39) rfl rfl ?_
              refine QJ.off rfl rfl (cB hb39) rfl rfl ?_
              refine QJ.off rfl rfl (cB hb39) rfl rfl ?_
              refine QJ.off rfl rfl (cB hb39) rfl rfl ?_
              refine QJ.off rfl rfl (cB hb39) rfl rfl ?_
              refine QJ.step (y_pick_t (cB hb39) rfl) rfl ?_
              exact QJ.cut_end ⟨rfl, rfl, rfl, rfl, rfl, rfl, rfl, trivial⟩
            · replace h38 := orF h38 hb39
              refine QJ.on rfl rfl (cB hb39) (y_fldB (o := 0) fld78_4 rfl) rfl ?_
              refine QJ.on rfl rfl (cB hb39) (y_loadB (k := 0) (off := 4) (v := .int .i64 e11.instead) rfl Try.isAgg2 rfl rfl) rfl ?_
              refine QJ.on rfl rfl (cB hb39) (y_move rfl) rfl ?_
              refine QJ.on rfl rfl (cB hb39) (y_lenS Try.runUnderlying47 hr3 rfl) rfl ?_
              refine QJ.on rfl rfl (cB hb39) (y_bin rfl rfl rfl) rfl ?_
              obtain ⟨r40, h41, h38⟩ := bindS h38
              refine QJ.on rfl rfl (cB hb39) (y_call Try.call40 rfl (RetG.quiet fun w hw => ok_i_between h41 w )) rfl ?_
              refine QJ.on rfl rfl (cB hb39) (y_not rfl) rfl ?_
              refine QJ.step (y_pick_f (cB hb39) rfl) rfl ?_
              obtain rfl := Option.some.inj h38
              exact QJ.cut_end ⟨rfl, rfl, rfl, rfl, rfl, rfl, rfl, trivial⟩
          refine QJ.done ?_
          refine PJ.next ?_
          refine WJ.cond (t := t37) rfl (fun hb42 => ?_) (fun hb42 => ?_)
          · replace hm := ifT hm hb42
            refine WJ.seq ?_
            refine WJ.quiet ?_
            refine QJ.step (y_assign rfl) rfl ?_
            refine QJ.done ?_
            refine PJ.next ?_
            refine WJ.ret ?_
            refine PJ.then_ret (PJ.block_ret (PJ.then_ret (PJ.then_ret (PJ.block_ret (PJ.then_ret ?_)))))
            obtain rfl := Option.some.inj hm
            refine PJ.sel (L' := []) [] ⟨List.nodup_nil, rfl⟩ ?_
            exact PJ.retn (vs := [.bool false]) Try.results64 ⟨rfl, trivial⟩ ⟨rfl, rfl⟩
          · replace hm := ifF hm hb42
            refine WJ.skip ?_
            refine PJ.next ?_
            refine WJ.reg ?_
            refine SJ.q (y_move rfl) rfl ?_
            refine SJ.q (y_fldB (o := 0) fld78_0 rfl) rfl ?_
            refine SJ.q (y_loadB (k := 0) (off := 0) (v := str e11.name) rfl Try.isAgg9 rfl rfl) rfl ?_
            refine SJ.mapUpdateSB (k := 1) Try.underlying86 Try.underlying9 rfl rfl rfl rfl ?_
            refine SJ.nil ?_
            refine PJ.block_normal (PJ.next ?_)
            refine WJ.quiet ?_
            refine QJ.step (y_bin rfl rfl rfl) rfl ?_
            refine QJ.step (y_move rfl) rfl ?_
            refine QJ.done ?_
            exact PJ.round (mset mp8 e11.name true, w64 (x9 + 1)) [1] hm ⟨rfl, rfl, rfl, rfl, rfl, trivial⟩ ⟨by decide, rfl⟩
        · replace hm := ifF hm hb10
          refine WJ.exit ?_
          refine PJ.then_exit (PJ.then_exit (PJ.block_exit ?_))
          exact PJ.joined () [] hm ⟨rfl, trivial⟩ ⟨List.nodup_nil, rfl⟩
    · rintro _ hm
      subst hk7
      obtain ⟨k43, hk44, hm⟩ := withK_open hm
      refine WJ.join (X := Unit) (fun (_ : Unit) => k43  = some r) (fun (_ : Unit) => []) (fun (_ : Unit) => []) ?_ ?_
      · clear hk44
        refine WJ.seq ?_
        refine WJ.quiet ?_
        refine QJ.step (y_move rfl) rfl ?_
        refine QJ.step (y_lenS Try.runUnderlying47 hr3 rfl) rfl ?_
        refine QJ.step (y_move rfl) rfl ?_
        refine QJ.done ?_
        refine PJ.next ?_
        refine WJ.block ?_
        refine WJ.sel (L' := (fun (x : Int) => []) 0) [] ⟨List.nodup_nil, rfl⟩ ?_
        refine WJ.sub (m' := (fun (x : Int) => [(0, v2), (61, .int .i64 (List.length list1 : Int)), (62, .int .i64 x)]) 0) ⟨rfl, rfl, rfl, trivial⟩ ?_
        refine WJ.loop (X := Int) (fun N (x : Int) => i_ValidParts_l2 k43 list1 N x = some r) (fun (x : Int) => [(0, v2), (61, .int .i64 (List.length list1 : Int)), (62, .int .i64 x)]) (fun (x : Int) => []) ?_ N 0 hm
        · rintro N x45 hI
          have hm := hI; clear hI
          cases N with
          | zero => cases hm
          | succ N =>
          unfold i_ValidParts_l2 at hm
          refine WJ.seq ?_
          refine WJ.quiet ?_
          refine QJ.step (y_bin rfl rfl rfl) rfl ?_
          refine QJ.done ?_
          refine PJ.next ?_
          refine WJ.seq ?_
          refine WJ.cond (t := decide (x45 < (List.length list1 : Int))) rfl (fun hb46 => ?_) (fun hb46 => ?_)
          · replace hm := ifT hm hb46
            refine WJ.skip ?_
            refine PJ.next ?_
            obtain ⟨k48, hk48, hm⟩ := withK_open hm
            refine WJ.join (X := Unit) (fun (_ : Unit) => k48  = some r) (fun (_ : Unit) => [(0, v2), (61, .int .i64 (List.length list1 : Int)), (62, .int .i64 x45)]) (fun (_ : Unit) => []) ?_ ?_
            · clear hk48
              refine WJ.block ?_
              refine WJ.seq ?_
              refine WJ.quiet ?_
              refine QJ.step (y_move rfl) rfl ?_
              refine QJ.step (y_assign rfl) rfl ?_
              refine QJ.done ?_
              refine PJ.next ?_
              refine WJ.seq ?_
              refine WJ.quiet ?_
              refine QJ.step (y_move rfl) rfl ?_
              refine QJ.step (y_assign rfl) rfl ?_
              refine QJ.step (y_assign rfl) rfl ?_
              refine QJ.done ?_
              refine PJ.next ?_
              refine WJ.block ?_
              refine WJ.sel (L' := (fun (x : Int × Int) => []) (x45, 0)) [] ⟨List.nodup_nil, rfl⟩ ?_
              refine WJ.sub (m' := (fun (x : Int × Int) => [(0, v2), (7, .int .i64 x.1), (8, .int .i64 x.2), (61, .int .i64 (List.length list1 : Int)), (62, .int .i64 x45)]) (x45, 0)) ⟨rfl, rfl, rfl, rfl, rfl, trivial⟩ ?_
              refine WJ.loop (X := Int × Int) (fun N (x : Int × Int) => i_ValidParts_l3 k48 list1 N x.1 x.2 = some r) (fun (x : Int × Int) => [(0, v2), (7, .int .i64 x.1), (8, .int .i64 x.2), (61, .int .i64 (List.length list1 : Int)), (62, .int .i64 x45)]) (fun (x : Int × Int) => []) ?_ N (x45, 0) hm
              · rintro N ⟨x49, x50⟩ hI
                have hm := hI; clear hI
                cases N with
                | zero => cases hm
                | succ N =>
                unfold i_ValidParts_l3 at hm
                refine WJ.seq ?_
                refine WJ.seq ?_
                refine WJ.quiet ?_
                refine QJ.step (y_move rfl) rfl ?_
                refine QJ.step (y_bin rfl rfl rfl) rfl ?_
                refine QJ.done ?_
                refine PJ.next ?_
                refine WJ.cond (t := decide (x49 ≥ 0)) rfl (fun hb51 => ?_) (fun hb51 => ?_)
                · replace hm := ifT hm hb51
                  refine WJ.skip ?_
                  refine PJ.next ?_
                  refine WJ.block ?_
                  refine WJ.seq ?_
                  refine WJ.quiet ?_
                  refine QJ.step (y_move rfl) rfl ?_
                  refine QJ.step (y_move rfl) rfl ?_
                  obtain ⟨e52, h53, hm⟩ := bindS hm
                  obtain ⟨ad54, _, rfl, ha55, hy56⟩ := hr3.elem h53
                  refine QJ.step (hy56 Try.runUnderlying47 Try.sizeOf78 rfl rfl) rfl ?_
                  refine QJ.step (y_fld (ad := ad54) fld78_4 rfl) rfl ?_
                  refine QJ.step (y_load1 (v := .int .i64 e52.instead) Try.isAgg2 (ha55.sub 4 1) St.frozenC rfl) rfl ?_
                  refine QJ.step (y_assign rfl) rfl ?_
                  refine QJ.done ?_
                  refine PJ.next ?_
                  refine WJ.seq ?_
                  refine WJ.quiet ?_
                  refine QJ.step (y_move rfl) rfl ?_
                  refine QJ.step (y_bin rfl rfl rfl) rfl ?_
                  refine QJ.step (y_assign rfl) rfl ?_
                  refine QJ.done ?_
                  refine PJ.next ?_
                  refine WJ.seq ?_
                  refine WJ.quiet ?_
                  refine QJ.step (y_move rfl) rfl ?_
                  refine QJ.step (y_move rfl) rfl ?_
                  refine QJ.step (y_lenS Try.runUnderlying47 hr3 rfl) rfl ?_
                  refine QJ.step (y_bin rfl rfl rfl) rfl ?_
                  refine QJ.done ?_
                  refine PJ.next ?_
                  refine WJ.cond (t := decide ((w64 (x50 + 1)) > (List.length list1 : Int))) rfl (fun hb57 => ?_) (fun hb57 => ?_)
                  · replace hm := ifT hm hb57
                    refine WJ.seq ?_
                    refine WJ.quiet ?_
                    refine QJ.step (y_assign rfl) rfl ?_
                    refine QJ.done ?_
                    refine PJ.next ?_
                    refine WJ.ret ?_
                    refine PJ.block_ret (PJ.then_ret (PJ.block_ret (PJ.block_ret (PJ.then_ret (PJ.then_ret (PJ.block_ret (PJ.then_ret ?_)))))))
                    obtain rfl := Option.some.inj hm
                    refine PJ.sel (L' := []) [] ⟨List.nodup_nil, rfl⟩ ?_
                    exact PJ.retn (vs := [.bool false]) Try.results64 ⟨rfl, trivial⟩ ⟨rfl, rfl⟩
                  · replace hm := ifF hm hb57
                    refine WJ.skip ?_
                    refine PJ.block_normal ?_
                    exact PJ.round (e52.instead, w64 (x50 + 1)) [] hm ⟨rfl, rfl, rfl, rfl, rfl, trivial⟩ ⟨List.nodup_nil, rfl⟩
                · replace hm := ifF hm hb51
                  refine WJ.exit ?_
                  refine PJ.then_exit (PJ.then_exit (PJ.block_exit (PJ.block_normal ?_)))
                  exact PJ.joined () [] hm ⟨rfl, rfl, rfl, trivial⟩ ⟨List.nodup_nil, rfl⟩
            · rintro _ hm
              subst hk48
              refine WJ.quiet ?_
              refine QJ.step (y_bin rfl rfl rfl) rfl ?_
              refine QJ.step (y_move rfl) rfl ?_
              refine QJ.done ?_
              exact PJ.round (w64 (x45 + 1)) [] hm ⟨rfl, rfl, rfl, trivial⟩ ⟨List.nodup_nil, rfl⟩
          · replace hm := ifF hm hb46
            refine WJ.exit ?_
            refine PJ.then_exit (PJ.then_exit (PJ.block_exit ?_))
            exact PJ.joined () [] hm trivial ⟨List.nodup_nil, rfl⟩
      · rintro _ hm
        subst hk44
        refine WJ.seq ?_
        refine WJ.quiet ?_
        refine QJ.step (y_assign rfl) rfl ?_
        refine QJ.done ?_
        refine PJ.next ?_
        refine WJ.ret ?_
        obtain rfl := Option.some.inj hm
        refine PJ.sel (L' := []) [] ⟨List.nodup_nil, rfl⟩ ?_
        exact PJ.retn (vs := [.bool true]) Try.results64 ⟨rfl, trivial⟩ ⟨rfl, rfl⟩

set_option maxRecDepth 100000 in
set_option maxHeartbeats 1000000 in
theorem ok_i_numbersCode {N : Nat} {list1 : List SparePart} {numbers4 : List Int} {r : Int} (hm : i_numbersCode N list1 numbers4 = some r) (w : World) (v2 : Value) (hr3 : RdS w (cx w).Fz v2 fSparePart.rp list1) (v5 : Value) (hr6 : RdS w (cx w).Fz v5 fI64.rp numbers4) :
    Calls Try.prog 53 #[v2, v5] w (Ret (cx w) (.int .i64 r)) := by
  unfold i_numbersCode at hm
  refine Calls.enter [v2, v5] Try.func53 rfl Try.ntmps53 rfl ?_
  refine WJ.seq ?_
  refine WJ.quiet ?_
  refine QJ.step (y_assign rfl) rfl ?_
  refine QJ.done ?_
  refine PJ.next ?_
  refine WJ.seq ?_
  refine WJ.seq ?_
  refine WJ.quiet ?_
  refine QJ.step (y_move rfl) rfl ?_
  obtain ⟨r7, h8, hm⟩ := bindS hm
  refine QJ.step (y_call Try.call64 rfl (RetG.quiet fun w hw => ok_i_ValidParts h8 w _ (hr3.st hw))) rfl ?_
  refine QJ.step (y_not rfl) rfl ?_
  refine QJ.done ?_
  refine PJ.next ?_
  refine WJ.cond (t := !r7) rfl (fun hb9 => ?_) (fun hb9 => ?_)
  · replace hm := ifT hm hb9
    refine WJ.seq ?_
    refine WJ.quiet ?_
    refine QJ.step (y_assign rfl) rfl ?_
    refine QJ.done ?_
    refine PJ.next ?_
    refine WJ.ret ?_
    refine PJ.then_ret ?_
    obtain rfl := Option.some.inj hm
    refine PJ.sel (L' := []) [] ⟨List.nodup_nil, rfl⟩ ?_
    exact PJ.retn (vs := [.int .i64 1]) Try.results53 ⟨rfl, trivial⟩ ⟨rfl, rfl⟩
  · replace hm := ifF hm hb9
    refine WJ.skip ?_
    refine PJ.next ?_
    refine WJ.seq ?_
    refine WJ.seq ?_
    refine WJ.quiet ?_
    refine QJ.step (y_move rfl) rfl ?_
    refine QJ.step (y_lenS Try.runUnderlying32 hr6 rfl) rfl ?_
    refine QJ.step (y_move rfl) rfl ?_
    refine QJ.step (y_lenS Try.runUnderlying47 hr3 rfl) rfl ?_
    refine QJ.step (y_bin rfl rfl rfl) rfl ?_
    refine QJ.done ?_
    refine PJ.next ?_
    refine WJ.cond (t := ((List.length numbers4 : Int) != (List.length list1 : Int))) rfl (fun hb10 => ?_) (fun hb10 => ?_)
    · replace hm := ifT hm hb10
      refine WJ.seq ?_
      refine WJ.quiet ?_
      refine QJ.step (y_assign rfl) rfl ?_
      refine QJ.done ?_
      refine PJ.next ?_
      refine WJ.ret ?_
      refine PJ.then_ret ?_
      obtain rfl := Option.some.inj hm
      refine PJ.sel (L' := []) [] ⟨List.nodup_nil, rfl⟩ ?_
      exact PJ.retn (vs := [.int .i64 2]) Try.results53 ⟨rfl, trivial⟩ ⟨rfl, rfl⟩
    · replace hm := ifF hm hb10
      refine WJ.skip ?_
      refine PJ.next ?_
      obtain ⟨k11, hk12, hm⟩ := withK_open hm
      refine WJ.join (X := Unit) (fun (_ : Unit) => k11  = some r) (fun (_ : Unit) => []) (fun (_ : Unit) => []) ?_ ?_
      · clear hk12
        refine WJ.seq ?_
        refine WJ.quiet ?_
        refine QJ.step (y_move rfl) rfl ?_
        refine QJ.step (y_lenS Try.runUnderlying32 hr6 rfl) rfl ?_
        refine QJ.step (y_move rfl) rfl ?_
        refine QJ.done ?_
        refine PJ.next ?_
        refine WJ.block ?_
        refine WJ.sel (L' := (fun (x : Int) => []) 0) [] ⟨List.nodup_nil, rfl⟩ ?_
        refine WJ.sub (m' := (fun (x : Int) => [(15, v5), (16, .int .i64 (List.length numbers4 : Int)), (17, .int .i64 x)]) 0) ⟨rfl, rfl, rfl, trivial⟩ ?_
        refine WJ.loop (X := Int) (fun N (x : Int) => i_numbersCode_l1 k11 numbers4 N x = some r) (fun (x : Int) => [(15, v5), (16, .int .i64 (List.length numbers4 : Int)), (17, .int .i64 x)]) (fun (x : Int) => []) ?_ N 0 hm
        · rintro N x13 hI
          have hm := hI; clear hI
          cases N with
          | zero => cases hm
          | succ N =>
          unfold i_numbersCode_l1 at hm
          refine WJ.seq ?_
          refine WJ.quiet ?_
          refine QJ.step (y_bin rfl rfl rfl) rfl ?_
          refine QJ.done ?_
          refine PJ.next ?_
          refine WJ.seq ?_
          refine WJ.cond (t := decide (x13 < (List.length numbers4 : Int))) rfl (fun hb14 => ?_) (fun hb14 => ?_)
          · replace hm := ifT hm hb14
            refine WJ.skip ?_
            refine PJ.next ?_
            refine WJ.seq ?_
            refine WJ.block ?_
            refine WJ.seq ?_
            refine WJ.quiet ?_
            obtain ⟨e15, h16, hm⟩ := bindS hm
            obtain ⟨ad17, _, rfl, ha18, hy19⟩ := hr6.elem h16
            refine QJ.step (hy19 Try.runUnderlying32 Try.sizeOf2 rfl rfl) rfl ?_
            refine QJ.step (y_load1 (v := .int .i64 e15) Try.isAgg2 ha18 St.frozenC rfl) rfl ?_
            refine QJ.step (y_assign rfl) rfl ?_
            refine QJ.done ?_
            refine PJ.next ?_
            refine WJ.seq ?_
            refine WJ.quiet ?_
            refine QJ.step (y_move rfl) rfl ?_
            obtain ⟨r20, h21, hm⟩ := bindS hm
            refine QJ.step (y_call Try.call40 rfl (RetG.quiet fun w hw => ok_i_between h21 w )) rfl ?_
            refine QJ.step (y_not rfl) rfl ?_
            refine QJ.done ?_
            refine PJ.next ?_
            refine WJ.cond (t := !r20) rfl (fun hb22 => ?_) (fun hb22 => ?_)
            · replace hm := ifT hm hb22
              refine WJ.seq ?_
              refine WJ.quiet ?_
              refine QJ.step (y_assign rfl) rfl ?_
              refine QJ.done ?_
              refine PJ.next ?_
              refine WJ.ret ?_
              refine PJ.block_ret (PJ.then_ret (PJ.then_ret (PJ.block_ret (PJ.then_ret ?_))))
              obtain rfl := Option.some.inj hm
              refine PJ.sel (L' := []) [] ⟨List.nodup_nil, rfl⟩ ?_
              exact PJ.retn (vs := [.int .i64 2]) Try.results53 ⟨rfl, trivial⟩ ⟨rfl, rfl⟩
            · replace hm := ifF hm hb22
              refine WJ.skip ?_
              refine PJ.block_normal (PJ.next ?_)
              refine WJ.quiet ?_
              refine QJ.step (y_bin rfl rfl rfl) rfl ?_
              refine QJ.step (y_move rfl) rfl ?_
              refine QJ.done ?_
              exact PJ.round (w64 (x13 + 1)) [] hm ⟨rfl, rfl, rfl, trivial⟩ ⟨List.nodup_nil, rfl⟩
          · replace hm := ifF hm hb14
            refine WJ.exit ?_
            refine PJ.then_exit (PJ.then_exit (PJ.block_exit ?_))
            exact PJ.joined () [] hm trivial ⟨List.nodup_nil, rfl⟩
      · rintro _ hm
        subst hk12
        refine WJ.seq ?_
        refine WJ.quiet ?_
        refine QJ.step (y_assign rfl) rfl ?_
        refine QJ.done ?_
        refine PJ.next ?_
        refine WJ.ret ?_
        obtain rfl := Option.some.inj hm
        refine PJ.sel (L' := []) [] ⟨List.nodup_nil, rfl⟩ ?_
        exact PJ.retn (vs := [.int .i64 0]) Try.results53 ⟨rfl, trivial⟩ ⟨rfl, rfl⟩

set_option maxRecDepth 100000 in
set_option maxHeartbeats 1000000 in
theorem ok_i_DaysUntil {N : Nat} {list1 : List SparePart} {wants4 : List Int} {r : Int × Int} (hm : i_DaysUntil N list1 wants4 = some r) (w : World) (v2 : Value) (hr3 : RdS w (cx w).Fz v2 fSparePart.rp list1) (v5 : Value) (hr6 : RdS w (cx w).Fz v5 fI64.rp wants4) :
    Calls Try.prog 29 #[v2, v5] w (Ret (cx w) (tup [.int .i64 r.1, .int .i64 r.2])) := by
  unfold i_DaysUntil at hm
  refine Calls.enter [v2, v5] Try.func29 rfl Try.ntmps29 rfl ?_
  refine WJ.seq ?_
  refine WJ.quiet ?_
  refine QJ.step (y_assign rfl) rfl ?_
  refine QJ.step (y_assign rfl) rfl ?_
  refine QJ.done ?_
  refine PJ.next ?_
  refine WJ.seq ?_
  refine WJ.seq ?_
  refine WJ.quiet ?_
  refine QJ.step (y_move rfl) rfl ?_
  refine QJ.step (y_move rfl) rfl ?_
  obtain ⟨r7, h8, hm⟩ := bindS hm
  refine QJ.step (y_call Try.call53 rfl (RetG.quiet fun w hw => ok_i_numbersCode h8 w _ (hr3.st hw) _ (hr6.st hw))) rfl ?_
  refine QJ.step (y_assign rfl) rfl ?_
  refine QJ.done ?_
  refine PJ.next ?_
  refine WJ.seq ?_
  refine WJ.quiet ?_
  refine QJ.step (y_move rfl) rfl ?_
  refine QJ.step (y_bin rfl rfl rfl) rfl ?_
  refine QJ.done ?_
  refine PJ.next ?_
  refine WJ.cond (t := (r7 != 0)) rfl (fun hb9 => ?_) (fun hb9 => ?_)
  · replace hm := ifT hm hb9
    refine WJ.seq ?_
    refine WJ.quiet ?_
    refine QJ.step (y_move rfl) rfl ?_
    refine QJ.step (y_assign rfl) rfl ?_
    refine QJ.step (y_assign rfl) rfl ?_
    refine QJ.done ?_
    refine PJ.next ?_
    refine WJ.ret ?_
    refine PJ.then_ret ?_
    obtain rfl := Option.some.inj hm
    refine PJ.sel (L' := []) [] ⟨List.nodup_nil, rfl⟩ ?_
    exact PJ.retn (vs := [.int .i64 0, .int .i64 r7]) Try.results29 ⟨rfl, rfl, trivial⟩ ⟨rfl, rfl⟩
  · replace hm := ifF hm hb9
    refine WJ.skip ?_
    refine PJ.next ?_
    refine WJ.seq ?_
    refine WJ.quiet ?_
    refine QJ.step (y_assign rfl) rfl ?_
    refine QJ.done ?_
    refine PJ.next ?_
    obtain ⟨k11, hk12, hm⟩ := withK_open hm
    refine WJ.join (X := Int) (fun (x : Int) => k11 x = some r) (fun (x : Int) => [(7, .int .i64 x)]) (fun (x : Int) => []) ?_ ?_
    · clear hk12
      refine WJ.seq ?_
      refine WJ.quiet ?_
      refine QJ.step (y_move rfl) rfl ?_
      refine QJ.step (y_lenS Try.runUnderlying47 hr3 rfl) rfl ?_
      refine QJ.step (y_move rfl) rfl ?_
      refine QJ.done ?_
      refine PJ.next ?_
      refine WJ.block ?_
      refine WJ.sel (L' := (fun (x : Int × Int) => []) (0, 0)) [] ⟨List.nodup_nil, rfl⟩ ?_
      refine WJ.sub (m' := (fun (x : Int × Int) => [(1, v5), (7, .int .i64 x.1), (16, v2), (17, .int .i64 (List.length list1 : Int)), (18, .int .i64 x.2)]) (0, 0)) ⟨rfl, rfl, rfl, rfl, rfl, trivial⟩ ?_
      refine WJ.loop (X := Int × Int) (fun N (x : Int × Int) => i_DaysUntil_l1 k11 list1 wants4 N x.1 x.2 = some r) (fun (x : Int × Int) => [(1, v5), (7, .int .i64 x.1), (16, v2), (17, .int .i64 (List.length list1 : Int)), (18, .int .i64 x.2)]) (fun (x : Int × Int) => []) ?_ N (0, 0) hm
      · rintro N ⟨days13, x14⟩ hI
        have hm := hI; clear hI
        cases N with
        | zero => cases hm
        | succ N =>
        unfold i_DaysUntil_l1 at hm
        refine WJ.seq ?_
        refine WJ.quiet ?_
        refine QJ.step (y_bin rfl rfl rfl) rfl ?_
        refine QJ.done ?_
        refine PJ.next ?_
        refine WJ.seq ?_
        refine WJ.cond (t := decide (x14 < (List.length list1 : Int))) rfl (fun hb15 => ?_) (fun hb15 => ?_)
        · replace hm := ifT hm hb15
          refine WJ.skip ?_
          refine PJ.next ?_
          obtain ⟨k18, hk18, hm⟩ := withK_open hm
          refine WJ.join (X := Int) (fun (x : Int) => k18 x = some r) (fun (x : Int) => [(1, v5), (7, .int .i64 x), (16, v2), (17, .int .i64 (List.length list1 : Int)), (18, .int .i64 x14)]) (fun (x : Int) => []) ?_ ?_
          · clear hk18
            refine WJ.block ?_
            refine WJ.seq ?_
            refine WJ.reg ?_
            refine SJ.q (y_move rfl) rfl ?_
            obtain ⟨e19, h20, hm⟩ := bindS hm
            obtain ⟨ad21, _, rfl, ha22, hy23⟩ := hr3.elem h20
            refine SJ.q (hy23 Try.runUnderlying47 Try.sizeOf78 rfl rfl) rfl ?_
            refine SJ.q (y_loadN Try.isAgg78 Try.sizeOf78 rfl ha22 St.frozenC rfl) rfl ?_
            refine SJ.alloc (cs := [str [], .int .i64 0, .int .i64 0, .int .i64 0, .int .i64 0]) Try.zeroValue78 rfl rfl fun g24 => ?_
            refine SJ.q (y_assign rfl) rfl ?_
            refine SJ.storeL (k := 0) (off := 0) (us := [str e19.name, .int .i64 e19.stock, .int .i64 e19.target, .int .i64 e19.days, .int .i64 e19.instead]) rfl rfl rfl rfl Try.sizeOf78 rfl rfl ?_
            refine SJ.nil ?_
            refine PJ.next ?_
            refine WJ.seq ?_
            refine WJ.quiet_draw follows (by kernel_rfl) ?_
            refine QJ.step (y_fldB (o := 0) fld78_1 rfl) rfl ?_
            refine QJ.step (y_loadB (k := 0) (off := 1) (v := .int .i64 e19.stock) rfl Try.isAgg2 rfl rfl) rfl ?_
            refine QJ.step (y_move rfl) rfl ?_
            refine QJ.step (y_move rfl) rfl ?_
            obtain ⟨e25, h26, hm⟩ := bindS hm
            obtain ⟨ad27, _, rfl, ha28, hy29⟩ := hr6.elem h26
            refine QJ.step (hy29 Try.runUnderlying32 Try.sizeOf2 rfl rfl) rfl ?_
            refine QJ.step (y_load1 (v := .int .i64 e25) Try.isAgg2 ha28 St.frozenC rfl) rfl ?_
            refine QJ.step (y_bin rfl rfl rfl) rfl ?_
            refine QJ.done ?_
            refine PJ.next ?_
            refine WJ.cond (t := decide (e19.stock < e25)) rfl (fun hb30 => ?_) (fun hb30 => ?_)
            · replace hm := ifT hm hb30
              refine WJ.quiet ?_
              refine QJ.step (y_move rfl) rfl ?_
              refine QJ.step (y_fldB (o := 0) fld78_3 rfl) rfl ?_
              refine QJ.step (y_loadB (k := 0) (off := 3) (v := .int .i64 e19.days) rfl Try.isAgg2 rfl rfl) rfl ?_
              refine QJ.step (y_max rfl rfl) rfl ?_
              refine QJ.step (y_assign rfl) rfl ?_
              refine QJ.done ?_
              refine PJ.block_normal ?_
              exact PJ.joined (imax days13 e19.days) [] hm ⟨rfl, rfl, rfl, rfl, rfl, trivial⟩ ⟨List.nodup_nil, rfl⟩
            · replace hm := ifF hm hb30
              refine WJ.skip ?_
              refine PJ.block_normal ?_
              exact PJ.joined days13 [] hm ⟨rfl, rfl, rfl, rfl, rfl, trivial⟩ ⟨List.nodup_nil, rfl⟩
          · rintro days16 hm
            subst hk18
            refine WJ.quiet ?_
            refine QJ.step (y_bin rfl rfl rfl) rfl ?_
            refine QJ.step (y_move rfl) rfl ?_
            refine QJ.done ?_
            exact PJ.round (days16, w64 (x14 + 1)) [] hm ⟨rfl, rfl, rfl, rfl, rfl, trivial⟩ ⟨List.nodup_nil, rfl⟩
        · replace hm := ifF hm hb15
          refine WJ.exit ?_
          refine PJ.then_exit (PJ.then_exit (PJ.block_exit ?_))
          exact PJ.joined days13 [] hm ⟨rfl, trivial⟩ ⟨List.nodup_nil, rfl⟩
    · rintro days10 hm
      subst hk12
      refine WJ.seq ?_
      refine WJ.quiet ?_
      refine QJ.step (y_move rfl) rfl ?_
      refine QJ.step (y_assign rfl) rfl ?_
      refine QJ.step (y_assign rfl) rfl ?_
      refine QJ.done ?_
      refine PJ.next ?_
      refine WJ.ret ?_
      obtain rfl := Option.some.inj hm
      refine PJ.sel (L' := []) [] ⟨List.nodup_nil, rfl⟩ ?_
      exact PJ.retn (vs := [.int .i64 days10, .int .i64 0]) Try.results29 ⟨rfl, rfl, trivial⟩ ⟨rfl, rfl⟩

set_option maxRecDepth 100000 in
set_option maxHeartbeats 1000000 in
theorem ok_w_eqSparePart {a1 : SparePart} {b2 : SparePart} {r : Bool} (hm : w_eqSparePart a1 b2 = some r) (w : World)  :
    Calls Try.prog 54 #[.agg (SparePart.enc a1).toArray, .agg (SparePart.enc b2).toArray] w (Ret (cx w) (.bool r)) := by
  unfold w_eqSparePart at hm
  refine Calls.enter [.agg (SparePart.enc a1).toArray, .agg (SparePart.enc b2).toArray] Try.func54 rfl Try.ntmps54 rfl ?_
  refine WJ.seq ?_
  refine WJ.reg ?_
  refine SJ.box (cs := [str a1.name, .int .i64 a1.stock, .int .i64 a1.target, .int .i64 a1.days, .int .i64 a1.instead]) rfl rfl rfl fun g3 => ?_
  refine SJ.box (cs := [str b2.name, .int .i64 b2.stock, .int .i64 b2.target, .int .i64 b2.days, .int .i64 b2.instead]) rfl rfl rfl fun g4 => ?_
  refine SJ.q (y_assign rfl) rfl ?_
  refine SJ.nil ?_
  refine PJ.next ?_
  refine WJ.seq ?_
  refine WJ.seq ?_
  refine WJ.quiet ?_
  refine QJ.step (y_fldB (o := 0) fld78_0 rfl) rfl ?_
  refine QJ.step (y_loadB (k := 1) (off := 0) (v := str a1.name) rfl Try.isAgg9 rfl rfl) rfl ?_
  refine QJ.step (y_fldB (o := 0) fld78_0 rfl) rfl ?_
  refine QJ.step (y_loadB (k := 0) (off := 0) (v := str b2.name) rfl Try.isAgg9 rfl rfl) rfl ?_
  refine QJ.step (y_binS rfl rfl rfl) rfl ?_
  refine QJ.done ?_
  refine PJ.next ?_
  refine WJ.cond (t := (a1.name != b2.name)) rfl (fun hb5 => ?_) (fun hb5 => ?_)
  · replace hm := ifT hm hb5
    refine WJ.seq ?_
    refine WJ.quiet ?_
    refine QJ.step (y_assign rfl) rfl ?_
    refine QJ.done ?_
    refine PJ.next ?_
    refine WJ.ret ?_
    refine PJ.then_ret ?_
    obtain rfl := Option.some.inj hm
    refine PJ.sel (L' := []) [] ⟨List.nodup_nil, rfl⟩ ?_
    exact PJ.retn (vs := [.bool false]) Try.results54 ⟨rfl, trivial⟩ ⟨rfl, rfl⟩
  · replace hm := ifF hm hb5
    refine WJ.skip ?_
    refine PJ.next ?_
    refine WJ.seq ?_
    refine WJ.seq ?_
    refine WJ.quiet ?_
    refine QJ.step (y_fldB (o := 0) fld78_1 rfl) rfl ?_
    refine QJ.step (y_loadB (k := 1) (off := 1) (v := .int .i64 a1.stock) rfl Try.isAgg2 rfl rfl) rfl ?_
    refine QJ.step (y_fldB (o := 0) fld78_1 rfl) rfl ?_
    refine QJ.step (y_loadB (k := 0) (off := 1) (v := .int .i64 b2.stock) rfl Try.isAgg2 rfl rfl) rfl ?_
    refine QJ.step (y_bin rfl rfl rfl) rfl ?_
    refine QJ.done ?_
    refine PJ.next ?_
    refine WJ.cond (t := (a1.stock != b2.stock)) rfl (fun hb6 => ?_) (fun hb6 => ?_)
    · replace hm := ifT hm hb6
      refine WJ.seq ?_
      refine WJ.quiet ?_
      refine QJ.step (y_assign rfl) rfl ?_
      refine QJ.done ?_
      refine PJ.next ?_
      refine WJ.ret ?_
      refine PJ.then_ret ?_
      obtain rfl := Option.some.inj hm
      refine PJ.sel (L' := []) [] ⟨List.nodup_nil, rfl⟩ ?_
      exact PJ.retn (vs := [.bool false]) Try.results54 ⟨rfl, trivial⟩ ⟨rfl, rfl⟩
    · replace hm := ifF hm hb6
      refine WJ.skip ?_
      refine PJ.next ?_
      refine WJ.seq ?_
      refine WJ.seq ?_
      refine WJ.quiet ?_
      refine QJ.step (y_fldB (o := 0) fld78_2 rfl) rfl ?_
      refine QJ.step (y_loadB (k := 1) (off := 2) (v := .int .i64 a1.target) rfl Try.isAgg2 rfl rfl) rfl ?_
      refine QJ.step (y_fldB (o := 0) fld78_2 rfl) rfl ?_
      refine QJ.step (y_loadB (k := 0) (off := 2) (v := .int .i64 b2.target) rfl Try.isAgg2 rfl rfl) rfl ?_
      refine QJ.step (y_bin rfl rfl rfl) rfl ?_
      refine QJ.done ?_
      refine PJ.next ?_
      refine WJ.cond (t := (a1.target != b2.target)) rfl (fun hb7 => ?_) (fun hb7 => ?_)
      · replace hm := ifT hm hb7
        refine WJ.seq ?_
        refine WJ.quiet ?_
        refine QJ.step (y_assign rfl) rfl ?_
        refine QJ.done ?_
        refine PJ.next ?_
        refine WJ.ret ?_
        refine PJ.then_ret ?_
        obtain rfl := Option.some.inj hm
        refine PJ.sel (L' := []) [] ⟨List.nodup_nil, rfl⟩ ?_
        exact PJ.retn (vs := [.bool false]) Try.results54 ⟨rfl, trivial⟩ ⟨rfl, rfl⟩
      · replace hm := ifF hm hb7
        refine WJ.skip ?_
        refine PJ.next ?_
        refine WJ.seq ?_
        refine WJ.seq ?_
        refine WJ.quiet ?_
        refine QJ.step (y_fldB (o := 0) fld78_3 rfl) rfl ?_
        refine QJ.step (y_loadB (k := 1) (off := 3) (v := .int .i64 a1.days) rfl Try.isAgg2 rfl rfl) rfl ?_
        refine QJ.step (y_fldB (o := 0) fld78_3 rfl) rfl ?_
        refine QJ.step (y_loadB (k := 0) (off := 3) (v := .int .i64 b2.days) rfl Try.isAgg2 rfl rfl) rfl ?_
        refine QJ.step (y_bin rfl rfl rfl) rfl ?_
        refine QJ.done ?_
        refine PJ.next ?_
        refine WJ.cond (t := (a1.days != b2.days)) rfl (fun hb8 => ?_) (fun hb8 => ?_)
        · replace hm := ifT hm hb8
          refine WJ.seq ?_
          refine WJ.quiet ?_
          refine QJ.step (y_assign rfl) rfl ?_
          refine QJ.done ?_
          refine PJ.next ?_
          refine WJ.ret ?_
          refine PJ.then_ret ?_
          obtain rfl := Option.some.inj hm
          refine PJ.sel (L' := []) [] ⟨List.nodup_nil, rfl⟩ ?_
          exact PJ.retn (vs := [.bool false]) Try.results54 ⟨rfl, trivial⟩ ⟨rfl, rfl⟩
        · replace hm := ifF hm hb8
          refine WJ.skip ?_
          refine PJ.next ?_
          refine WJ.seq ?_
          refine WJ.seq ?_
          refine WJ.quiet ?_
          refine QJ.step (y_fldB (o := 0) fld78_4 rfl) rfl ?_
          refine QJ.step (y_loadB (k := 1) (off := 4) (v := .int .i64 a1.instead) rfl Try.isAgg2 rfl rfl) rfl ?_
          refine QJ.step (y_fldB (o := 0) fld78_4 rfl) rfl ?_
          refine QJ.step (y_loadB (k := 0) (off := 4) (v := .int .i64 b2.instead) rfl Try.isAgg2 rfl rfl) rfl ?_
          refine QJ.step (y_bin rfl rfl rfl) rfl ?_
          refine QJ.done ?_
          refine PJ.next ?_
          refine WJ.cond (t := (a1.instead != b2.instead)) rfl (fun hb9 => ?_) (fun hb9 => ?_)
          · replace hm := ifT hm hb9
            refine WJ.seq ?_
            refine WJ.quiet ?_
            refine QJ.step (y_assign rfl) rfl ?_
            refine QJ.done ?_
            refine PJ.next ?_
            refine WJ.ret ?_
            refine PJ.then_ret ?_
            obtain rfl := Option.some.inj hm
            refine PJ.sel (L' := []) [] ⟨List.nodup_nil, rfl⟩ ?_
            exact PJ.retn (vs := [.bool false]) Try.results54 ⟨rfl, trivial⟩ ⟨rfl, rfl⟩
          · replace hm := ifF hm hb9
            refine WJ.skip ?_
            refine PJ.next ?_
            refine WJ.seq ?_
            refine WJ.quiet ?_
            refine QJ.step (y_assign rfl) rfl ?_
            refine QJ.done ?_
            refine PJ.next ?_
            refine WJ.ret ?_
            obtain rfl := Option.some.inj hm
            refine PJ.sel (L' := []) [] ⟨List.nodup_nil, rfl⟩ ?_
            exact PJ.retn (vs := [.bool true]) Try.results54 ⟨rfl, trivial⟩ ⟨rfl, rfl⟩

set_option maxRecDepth 100000 in
set_option maxHeartbeats 1000000 in
theorem ok_w_eqSparePartS {N : Nat} {a1 : List SparePart} {b4 : List SparePart} {r : Bool} (hm : w_eqSparePartS N a1 b4 = some r) (w : World) (v2 : Value) (hr3 : RdS w (cx w).Fz v2 fSparePart.rp a1) (v5 : Value) (hr6 : RdS w (cx w).Fz v5 fSparePart.rp b4) :
    Calls Try.prog 30 #[v2, v5] w (Ret (cx w) (.bool r)) := by
  unfold w_eqSparePartS at hm
  refine Calls.enter [v2, v5] Try.func30 rfl Try.ntmps30 rfl ?_
  refine WJ.seq ?_
  refine WJ.quiet ?_
  refine QJ.step (y_assign rfl) rfl ?_
  refine QJ.done ?_
  refine PJ.next ?_
  refine WJ.seq ?_
  refine WJ.seq ?_
  refine WJ.quiet ?_
  refine QJ.step (y_move rfl) rfl ?_
  refine QJ.step (y_lenS Try.runUnderlying47 hr3 rfl) rfl ?_
  refine QJ.step (y_move rfl) rfl ?_
  refine QJ.step (y_lenS Try.runUnderlying47 hr6 rfl) rfl ?_
  refine QJ.step (y_bin rfl rfl rfl) rfl ?_
  refine QJ.done ?_
  refine PJ.next ?_
  refine WJ.cond (t := ((List.length a1 : Int) != (List.length b4 : Int))) rfl (fun hb7 => ?_) (fun hb7 => ?_)
  · replace hm := ifT hm hb7
    refine WJ.seq ?_
    refine WJ.quiet ?_
    refine QJ.step (y_assign rfl) rfl ?_
    refine QJ.done ?_
    refine PJ.next ?_
    refine WJ.ret ?_
    refine PJ.then_ret ?_
    obtain rfl := Option.some.inj hm
    refine PJ.sel (L' := []) [] ⟨List.nodup_nil, rfl⟩ ?_
    exact PJ.retn (vs := [.bool false]) Try.results30 ⟨rfl, trivial⟩ ⟨rfl, rfl⟩
  · replace hm := ifF hm hb7
    refine WJ.skip ?_
    refine PJ.next ?_
    obtain ⟨k8, hk9, hm⟩ := withK_open hm
    refine WJ.join (X := Unit) (fun (_ : Unit) => k8  = some r) (fun (_ : Unit) => []) (fun (_ : Unit) => []) ?_ ?_
    · clear hk9
      refine WJ.seq ?_
      refine WJ.quiet ?_
      refine QJ.step (y_assign rfl) rfl ?_
      refine QJ.done ?_
      refine PJ.next ?_
      refine WJ.block ?_
      refine WJ.sel (L' := (fun (x : Int) => []) 0) [] ⟨List.nodup_nil, rfl⟩ ?_
      refine WJ.sub (m' := (fun (x : Int) => [(0, v2), (1, v5), (5, .int .i64 x)]) 0) ⟨rfl, rfl, rfl, trivial⟩ ?_
      refine WJ.loop (X := Int) (fun N (x : Int) => w_eqSparePartS_l1 k8 a1 b4 N x = some r) (fun (x : Int) => [(0, v2), (1, v5), (5, .int .i64 x)]) (fun (x : Int) => []) ?_ N 0 hm
      · rintro N i10 hI
        have hm := hI; clear hI
        cases N with
        | zero => cases hm
        | succ N =>
        unfold w_eqSparePartS_l1 at hm
        refine WJ.seq ?_
        refine WJ.seq ?_
        refine WJ.quiet ?_
        refine QJ.step (y_move rfl) rfl ?_
        refine QJ.step (y_move rfl) rfl ?_
        refine QJ.step (y_lenS Try.runUnderlying47 hr3 rfl) rfl ?_
        refine QJ.step (y_bin rfl rfl rfl) rfl ?_
        refine QJ.done ?_
        refine PJ.next ?_
        refine WJ.cond (t := decide (i10 < (List.length a1 : Int))) rfl (fun hb11 => ?_) (fun hb11 => ?_)
        · replace hm := ifT hm hb11
          refine WJ.skip ?_
          refine PJ.next ?_
          refine WJ.seq ?_
          refine WJ.block ?_
          refine WJ.seq ?_
          refine WJ.quiet_draw follows (by kernel_rfl) ?_
          refine QJ.step (y_move rfl) rfl ?_
          refine QJ.step (y_move rfl) rfl ?_
          obtain ⟨e12, h13, hm⟩ := bindS hm
          obtain ⟨ad14, _, rfl, ha15, hy16⟩ := hr3.elem h13
          refine QJ.step (hy16 Try.runUnderlying47 Try.sizeOf78 rfl rfl) rfl ?_
          refine QJ.step (y_loadN Try.isAgg78 Try.sizeOf78 rfl ha15 St.frozenC rfl) rfl ?_
          refine QJ.step (y_move rfl) rfl ?_
          refine QJ.step (y_move rfl) rfl ?_
          obtain ⟨e17, h18, hm⟩ := bindS hm
          obtain ⟨ad19, _, rfl, ha20, hy21⟩ := hr6.elem h18
          refine QJ.step (hy21 Try.runUnderlying47 Try.sizeOf78 rfl rfl) rfl ?_
          refine QJ.step (y_loadN Try.isAgg78 Try.sizeOf78 rfl ha20 St.frozenC rfl) rfl ?_
          obtain ⟨r22, h23, hm⟩ := bindS hm
          refine QJ.step (y_call Try.call54 rfl (RetG.quiet fun w hw => ok_w_eqSparePart h23 w )) rfl ?_
          refine QJ.step (y_not rfl) rfl ?_
          refine QJ.done ?_
          refine PJ.next ?_
          refine WJ.cond (t := !r22) rfl (fun hb24 => ?_) (fun hb24 => ?_)
          · replace hm := ifT hm hb24
            refine WJ.seq ?_
            refine WJ.quiet ?_
            refine QJ.step (y_assign rfl) rfl ?_
            refine QJ.done ?_
            refine PJ.next ?_
            refine WJ.ret ?_
            refine PJ.block_ret (PJ.then_ret (PJ.then_ret (PJ.block_ret (PJ.then_ret ?_))))
            obtain rfl := Option.some.inj hm
            refine PJ.sel (L' := []) [] ⟨List.nodup_nil, rfl⟩ ?_
            exact PJ.retn (vs := [.bool false]) Try.results30 ⟨rfl, trivial⟩ ⟨rfl, rfl⟩
          · replace hm := ifF hm hb24
            refine WJ.skip ?_
            refine PJ.block_normal (PJ.next ?_)
            refine WJ.quiet ?_
            refine QJ.step (y_move rfl) rfl ?_
            refine QJ.step (y_bin rfl rfl rfl) rfl ?_
            refine QJ.step (y_assign rfl) rfl ?_
            refine QJ.done ?_
            exact PJ.round (w64 (i10 + 1)) [] hm ⟨rfl, rfl, rfl, trivial⟩ ⟨List.nodup_nil, rfl⟩
        · replace hm := ifF hm hb11
          refine WJ.exit ?_
          refine PJ.then_exit (PJ.then_exit (PJ.block_exit ?_))
          exact PJ.joined () [] hm trivial ⟨List.nodup_nil, rfl⟩
    · rintro _ hm
      subst hk9
      refine WJ.seq ?_
      refine WJ.quiet ?_
      refine QJ.step (y_assign rfl) rfl ?_
      refine QJ.done ?_
      refine PJ.next ?_
      refine WJ.ret ?_
      obtain rfl := Option.some.inj hm
      refine PJ.sel (L' := []) [] ⟨List.nodup_nil, rfl⟩ ?_
      exact PJ.retn (vs := [.bool true]) Try.results30 ⟨rfl, trivial⟩ ⟨rfl, rfl⟩

set_option maxRecDepth 100000 in
set_option maxHeartbeats 1000000 in
theorem ok_w_eqInt64S {N : Nat} {a1 : List Int} {b4 : List Int} {r : Bool} (hm : w_eqInt64S N a1 b4 = some r) (w : World) (v2 : Value) (hr3 : RdS w (cx w).Fz v2 fI64.rp a1) (v5 : Value) (hr6 : RdS w (cx w).Fz v5 fI64.rp b4) :
    Calls Try.prog 23 #[v2, v5] w (Ret (cx w) (.bool r)) := by
  unfold w_eqInt64S at hm
  refine Calls.enter [v2, v5] Try.func23 rfl Try.ntmps23 rfl ?_
  refine WJ.seq ?_
  refine WJ.quiet ?_
  refine QJ.step (y_assign rfl) rfl ?_
  refine QJ.done ?_
  refine PJ.next ?_
  refine WJ.seq ?_
  refine WJ.seq ?_
  refine WJ.quiet ?_
  refine QJ.step (y_move rfl) rfl ?_
  refine QJ.step (y_lenS Try.runUnderlying32 hr3 rfl) rfl ?_
  refine QJ.step (y_move rfl) rfl ?_
  refine QJ.step (y_lenS Try.runUnderlying32 hr6 rfl) rfl ?_
  refine QJ.step (y_bin rfl rfl rfl) rfl ?_
  refine QJ.done ?_
  refine PJ.next ?_
  refine WJ.cond (t := ((List.length a1 : Int) != (List.length b4 : Int))) rfl (fun hb7 => ?_) (fun hb7 => ?_)
  · replace hm := ifT hm hb7
    refine WJ.seq ?_
    refine WJ.quiet ?_
    refine QJ.step (y_assign rfl) rfl ?_
    refine QJ.done ?_
    refine PJ.next ?_
    refine WJ.ret ?_
    refine PJ.then_ret ?_
    obtain rfl := Option.some.inj hm
    refine PJ.sel (L' := []) [] ⟨List.nodup_nil, rfl⟩ ?_
    exact PJ.retn (vs := [.bool false]) Try.results23 ⟨rfl, trivial⟩ ⟨rfl, rfl⟩
  · replace hm := ifF hm hb7
    refine WJ.skip ?_
    refine PJ.next ?_
    obtain ⟨k8, hk9, hm⟩ := withK_open hm
    refine WJ.join (X := Unit) (fun (_ : Unit) => k8  = some r) (fun (_ : Unit) => []) (fun (_ : Unit) => []) ?_ ?_
    · clear hk9
      refine WJ.seq ?_
      refine WJ.quiet ?_
      refine QJ.step (y_assign rfl) rfl ?_
      refine QJ.done ?_
      refine PJ.next ?_
      refine WJ.block ?_
      refine WJ.sel (L' := (fun (x : Int) => []) 0) [] ⟨List.nodup_nil, rfl⟩ ?_
      refine WJ.sub (m' := (fun (x : Int) => [(0, v2), (1, v5), (5, .int .i64 x)]) 0) ⟨rfl, rfl, rfl, trivial⟩ ?_
      refine WJ.loop (X := Int) (fun N (x : Int) => w_eqInt64S_l1 k8 a1 b4 N x = some r) (fun (x : Int) => [(0, v2), (1, v5), (5, .int .i64 x)]) (fun (x : Int) => []) ?_ N 0 hm
      · rintro N i10 hI
        have hm := hI; clear hI
        cases N with
        | zero => cases hm
        | succ N =>
        unfold w_eqInt64S_l1 at hm
        refine WJ.seq ?_
        refine WJ.seq ?_
        refine WJ.quiet ?_
        refine QJ.step (y_move rfl) rfl ?_
        refine QJ.step (y_move rfl) rfl ?_
        refine QJ.step (y_lenS Try.runUnderlying32 hr3 rfl) rfl ?_
        refine QJ.step (y_bin rfl rfl rfl) rfl ?_
        refine QJ.done ?_
        refine PJ.next ?_
        refine WJ.cond (t := decide (i10 < (List.length a1 : Int))) rfl (fun hb11 => ?_) (fun hb11 => ?_)
        · replace hm := ifT hm hb11
          refine WJ.skip ?_
          refine PJ.next ?_
          refine WJ.seq ?_
          refine WJ.block ?_
          refine WJ.seq ?_
          refine WJ.quiet_draw follows (by kernel_rfl) ?_
          refine QJ.step (y_move rfl) rfl ?_
          refine QJ.step (y_move rfl) rfl ?_
          obtain ⟨e12, h13, hm⟩ := bindS hm
          obtain ⟨ad14, _, rfl, ha15, hy16⟩ := hr3.elem h13
          refine QJ.step (hy16 Try.runUnderlying32 Try.sizeOf2 rfl rfl) rfl ?_
          refine QJ.step (y_load1 (v := .int .i64 e12) Try.isAgg2 ha15 St.frozenC rfl) rfl ?_
          refine QJ.step (y_move rfl) rfl ?_
          refine QJ.step (y_move rfl) rfl ?_
          obtain ⟨e17, h18, hm⟩ := bindS hm
          obtain ⟨ad19, _, rfl, ha20, hy21⟩ := hr6.elem h18
          refine QJ.step (hy21 Try.runUnderlying32 Try.sizeOf2 rfl rfl) rfl ?_
          refine QJ.step (y_load1 (v := .int .i64 e17) Try.isAgg2 ha20 St.frozenC rfl) rfl ?_
          refine QJ.step (y_bin rfl rfl rfl) rfl ?_
          refine QJ.done ?_
          refine PJ.next ?_
          refine WJ.cond (t := (e12 != e17)) rfl (fun hb22 => ?_) (fun hb22 => ?_)
          · replace hm := ifT hm hb22
            refine WJ.seq ?_
            refine WJ.quiet ?_
            refine QJ.step (y_assign rfl) rfl ?_
            refine QJ.done ?_
            refine PJ.next ?_
            refine WJ.ret ?_
            refine PJ.block_ret (PJ.then_ret (PJ.then_ret (PJ.block_ret (PJ.then_ret ?_))))
            obtain rfl := Option.some.inj hm
            refine PJ.sel (L' := []) [] ⟨List.nodup_nil, rfl⟩ ?_
            exact PJ.retn (vs := [.bool false]) Try.results23 ⟨rfl, trivial⟩ ⟨rfl, rfl⟩
          · replace hm := ifF hm hb22
            refine WJ.skip ?_
            refine PJ.block_normal (PJ.next ?_)
            refine WJ.quiet ?_
            refine QJ.step (y_move rfl) rfl ?_
            refine QJ.step (y_bin rfl rfl rfl) rfl ?_
            refine QJ.step (y_assign rfl) rfl ?_
            refine QJ.done ?_
            exact PJ.round (w64 (i10 + 1)) [] hm ⟨rfl, rfl, rfl, trivial⟩ ⟨List.nodup_nil, rfl⟩
        · replace hm := ifF hm hb11
          refine WJ.exit ?_
          refine PJ.then_exit (PJ.then_exit (PJ.block_exit ?_))
          exact PJ.joined () [] hm trivial ⟨List.nodup_nil, rfl⟩
    · rintro _ hm
      subst hk9
      refine WJ.seq ?_
      refine WJ.quiet ?_
      refine QJ.step (y_assign rfl) rfl ?_
      refine QJ.done ?_
      refine PJ.next ?_
      refine WJ.ret ?_
      obtain rfl := Option.some.inj hm
      refine PJ.sel (L' := []) [] ⟨List.nodup_nil, rfl⟩ ?_
      exact PJ.retn (vs := [.bool true]) Try.results23 ⟨rfl, trivial⟩ ⟨rfl, rfl⟩

set_option maxRecDepth 100000 in
set_option maxHeartbeats 1000000 in
theorem ok_w_FnExactDaysUntil {N : Nat} {aList1 : List SparePart} {aWants4 : List Int} {r : Bool} (hm : w_FnExactDaysUntil N aList1 aWants4 = some r) (w : World) (v2 : Value) (hr3 : RdS w (cx w).Fz v2 fSparePart.rp aList1) (v5 : Value) (hr6 : RdS w (cx w).Fz v5 fI64.rp aWants4) :
    Calls Try.prog 7 #[v2, v5] w (Ret (cx w) (.bool r)) := by
  unfold w_FnExactDaysUntil at hm
  refine Calls.enter [v2, v5] Try.func7 rfl Try.ntmps7 rfl ?_
  refine WJ.seq ?_
  refine WJ.quiet ?_
  refine QJ.step (y_assign rfl) rfl ?_
  refine QJ.done ?_
  refine PJ.next ?_
  refine WJ.seq ?_
  refine WJ.seq ?_
  refine WJ.quiet ?_
  refine QJ.step (y_move rfl) rfl ?_
  refine QJ.step (y_lenS Try.runUnderlying32 hr6 rfl) rfl ?_
  refine QJ.step (y_bin rfl rfl rfl) rfl ?_
  refine QJ.done ?_
  refine PJ.next ?_
  refine WJ.cond (t := decide ((List.length aWants4 : Int) > 1048576)) rfl (fun hb7 => ?_) (fun hb7 => ?_)
  · replace hm := ifT hm hb7
    refine WJ.seq ?_
    refine WJ.quiet ?_
    refine QJ.step (y_assign rfl) rfl ?_
    refine QJ.done ?_
    refine PJ.next ?_
    refine WJ.ret ?_
    refine PJ.then_ret ?_
    obtain rfl := Option.some.inj hm
    refine PJ.sel (L' := []) [] ⟨List.nodup_nil, rfl⟩ ?_
    exact PJ.retn (vs := [.bool true]) Try.results7 ⟨rfl, trivial⟩ ⟨rfl, rfl⟩
  · replace hm := ifF hm hb7
    refine WJ.skip ?_
    refine PJ.next ?_
    refine WJ.seq ?_
    refine WJ.quiet ?_
    refine QJ.step (y_assign rfl) rfl ?_
    refine QJ.done ?_
    refine PJ.next ?_
    refine WJ.seq ?_
    refine WJ.quiet ?_
    refine QJ.step (y_move rfl) rfl ?_
    refine QJ.step (y_move rfl) rfl ?_
    obtain ⟨r8, h9, hm⟩ := bindS hm
    refine QJ.step (y_call Try.call26 rfl (RetG.quiet fun w hw => ok_w_szSparePartS h9 w _ (hr3.st hw))) rfl ?_
    refine QJ.step (y_assign rfl) rfl ?_
    refine QJ.done ?_
    refine PJ.next ?_
    refine WJ.seq ?_
    refine WJ.seq ?_
    refine WJ.quiet ?_
    refine QJ.step (y_move rfl) rfl ?_
    refine QJ.step (y_bin rfl rfl rfl) rfl ?_
    refine QJ.done ?_
    refine PJ.next ?_
    refine WJ.cond (t := decide (r8 < 0)) rfl (fun hb10 => ?_) (fun hb10 => ?_)
    · replace hm := ifT hm hb10
      refine WJ.seq ?_
      refine WJ.quiet ?_
      refine QJ.step (y_assign rfl) rfl ?_
      refine QJ.done ?_
      refine PJ.next ?_
      refine WJ.ret ?_
      refine PJ.then_ret ?_
      obtain rfl := Option.some.inj hm
      refine PJ.sel (L' := []) [] ⟨List.nodup_nil, rfl⟩ ?_
      exact PJ.retn (vs := [.bool true]) Try.results7 ⟨rfl, trivial⟩ ⟨rfl, rfl⟩
    · replace hm := ifF hm hb10
      refine WJ.skip ?_
      refine PJ.next ?_
      refine WJ.seq ?_
      refine WJ.reg ?_
      refine SJ.q (y_move rfl) rfl ?_
      obtain ⟨r11, h12, hm⟩ := bindS hm
      refine SJ.call Try.call28 rfl (fun w hw => ok_w_toSparePartS h12 w _ (hr3.st hw)) rfl ?_
      rintro v13 _ ⟨_, rfl, rfl⟩
      refine SJ.q (y_move rfl) rfl ?_
      obtain ⟨r14, h15, hm⟩ := bindS hm
      refine SJ.call Try.call20 rfl (fun w hw => ok_w_toInt64S h15 w _ (hr6.st hw)) rfl ?_
      rintro v16 _ ⟨_, rfl, rfl⟩
      obtain ⟨r17, h18, hm⟩ := bindS hm
      refine SJ.q (y_call Try.call27 rfl (RetG.quiet fun w hw => ok_s_DaysUntil h18 w _ (hw.row_rd (k := 1) rfl) _ (hw.row_rd (k := 0) rfl))) rfl ?_
      refine SJ.q (y_move rfl) rfl ?_
      refine SJ.q (y_extract rfl rfl) rfl ?_
      refine SJ.q (y_extract rfl rfl) rfl ?_
      refine SJ.q (y_assign rfl) rfl ?_
      refine SJ.q (y_assign rfl) rfl ?_
      refine SJ.nil ?_
      refine PJ.next ?_
      refine WJ.seq ?_
      refine WJ.reg ?_
      refine SJ.q (y_move rfl) rfl ?_
      obtain ⟨r19, h20, hm⟩ := bindS hm
      refine SJ.call Try.call28 rfl (fun w hw => ok_w_toSparePartS h20 w _ (hr3.st hw)) rfl ?_
      rintro v21 _ ⟨_, rfl, rfl⟩
      refine SJ.q (y_assign rfl) rfl ?_
      refine SJ.nil ?_
      refine PJ.next ?_
      refine WJ.seq ?_
      refine WJ.reg ?_
      refine SJ.q (y_move rfl) rfl ?_
      obtain ⟨r22, h23, hm⟩ := bindS hm
      refine SJ.call Try.call20 rfl (fun w hw => ok_w_toInt64S h23 w _ (hr6.st hw)) rfl ?_
      rintro v24 _ ⟨_, rfl, rfl⟩
      refine SJ.q (y_assign rfl) rfl ?_
      refine SJ.nil ?_
      refine PJ.next ?_
      refine WJ.seq ?_
      refine WJ.quiet ?_
      refine QJ.step (y_move rfl) rfl ?_
      refine QJ.step (y_move rfl) rfl ?_
      obtain ⟨r25, h26, hm⟩ := bindS hm
      refine QJ.step (y_call Try.call29 rfl (RetG.quiet fun w hw => ok_i_DaysUntil h26 w _ (hw.row_rd (k := 1) rfl) _ (hw.row_rd (k := 0) rfl))) rfl ?_
      refine QJ.step (y_move rfl) rfl ?_
      refine QJ.step (y_extract rfl rfl) rfl ?_
      refine QJ.step (y_extract rfl rfl) rfl ?_
      refine QJ.step (y_assign rfl) rfl ?_
      refine QJ.step (y_assign rfl) rfl ?_
      refine QJ.done ?_
      refine PJ.next ?_
      refine WJ.seq ?_
      refine WJ.seq ?_
      refine WJ.quiet ?_
      refine QJ.step (y_move rfl) rfl ?_
      refine QJ.step (y_move rfl) rfl ?_
      refine QJ.step (y_bin rfl rfl rfl) rfl ?_
      refine QJ.step (y_move rfl) rfl ?_
      obtain ⟨t27, h28, hm⟩ := bindS hm
      refine QJ.cut 4 [(0, v2), (1, v5), (8, v21), (9, v24), (45, .bool t27)] ?_ ?_
      · rcases Bool.eq_false_or_eq_true (r25.1 != r17.1) with hb29 | hb29
        · obtain rfl := orT h28 hb29
          refine QJ.off rfl rfl (cB hb29) rfl rfl ?_
          refine QJ.off rfl rfl (cB hb29) rfl rfl ?_
          refine QJ.off rfl rfl (cB hb29) rfl rfl ?_
          refine QJ.step (y_pick_t (cB hb29) rfl) rfl ?_
          exact QJ.cut_end ⟨rfl, rfl, rfl, rfl, rfl, trivial⟩
        · replace h28 := orF h28 hb29
          refine QJ.on rfl rfl (cB hb29) (y_move rfl) rfl ?_
          refine QJ.on rfl rfl (cB hb29) (y_move rfl) rfl ?_
          refine QJ.on rfl rfl (cB hb29) (y_bin rfl rfl rfl) rfl ?_
          refine QJ.step (y_pick_f (cB hb29) rfl) rfl ?_
          obtain rfl := Option.some.inj h28
          exact QJ.cut_end ⟨rfl, rfl, rfl, rfl, rfl, trivial⟩
      refine QJ.done ?_
      refine PJ.next ?_
      refine WJ.cond (t := t27) rfl (fun hb30 => ?_) (fun hb30 => ?_)
      · replace hm := ifT hm hb30
        refine WJ.seq ?_
        refine WJ.quiet ?_
        refine QJ.step (y_assign rfl) rfl ?_
        refine QJ.done ?_
        refine PJ.next ?_
        refine WJ.ret ?_
        refine PJ.then_ret ?_
        obtain rfl := Option.some.inj hm
        refine PJ.sel (L' := []) [] ⟨List.nodup_nil, rfl⟩ ?_
        exact PJ.retn (vs := [.bool false]) Try.results7 ⟨rfl, trivial⟩ ⟨rfl, rfl⟩
      · replace hm := ifF hm hb30
        refine WJ.skip ?_
        refine PJ.next ?_
        refine WJ.seq ?_
        refine WJ.seq ?_
        refine WJ.reg ?_
        refine SJ.q (y_move rfl) rfl ?_
        refine SJ.q (y_move rfl) rfl ?_
        obtain ⟨r31, h32, hm⟩ := bindS hm
        refine SJ.call Try.call28 rfl (fun w hw => ok_w_toSparePartS h32 w _ (hr3.st hw)) rfl ?_
        rintro v33 _ ⟨_, rfl, rfl⟩
        obtain ⟨r34, h35, hm⟩ := bindS hm
        refine SJ.q (y_call Try.call30 rfl (RetG.quiet fun w hw => ok_w_eqSparePartS h35 w _ (hw.row_rd (k := 2) rfl) _ (hw.row_rd (k := 0) rfl))) rfl ?_
        refine SJ.q (y_not rfl) rfl ?_
        refine SJ.nil ?_
        refine PJ.next ?_
        refine WJ.cond (t := !r34) rfl (fun hb36 => ?_) (fun hb36 => ?_)
        · replace hm := ifT hm hb36
          refine WJ.seq ?_
          refine WJ.quiet ?_
          refine QJ.step (y_assign rfl) rfl ?_
          refine QJ.done ?_
          refine PJ.next ?_
          refine WJ.ret ?_
          refine PJ.then_ret ?_
          obtain rfl := Option.some.inj hm
          refine PJ.sel (L' := []) [] ⟨List.nodup_nil, rfl⟩ ?_
          exact PJ.retn (vs := [.bool false]) Try.results7 ⟨rfl, trivial⟩ ⟨rfl, rfl⟩
        · replace hm := ifF hm hb36
          refine WJ.skip ?_
          refine PJ.next ?_
          refine WJ.seq ?_
          refine WJ.seq ?_
          refine WJ.reg ?_
          refine SJ.q (y_move rfl) rfl ?_
          refine SJ.q (y_move rfl) rfl ?_
          obtain ⟨r37, h38, hm⟩ := bindS hm
          refine SJ.call Try.call20 rfl (fun w hw => ok_w_toInt64S h38 w _ (hr6.st hw)) rfl ?_
          rintro v39 _ ⟨_, rfl, rfl⟩
          obtain ⟨r40, h41, hm⟩ := bindS hm
          refine SJ.q (y_call Try.call23 rfl (RetG.quiet fun w hw => ok_w_eqInt64S h41 w _ (hw.row_rd (k := 2) rfl) _ (hw.row_rd (k := 0) rfl))) rfl ?_
          refine SJ.q (y_not rfl) rfl ?_
          refine SJ.nil ?_
          refine PJ.next ?_
          refine WJ.cond (t := !r40) rfl (fun hb42 => ?_) (fun hb42 => ?_)
          · replace hm := ifT hm hb42
            refine WJ.seq ?_
            refine WJ.quiet ?_
            refine QJ.step (y_assign rfl) rfl ?_
            refine QJ.done ?_
            refine PJ.next ?_
            refine WJ.ret ?_
            refine PJ.then_ret ?_
            obtain rfl := Option.some.inj hm
            refine PJ.sel (L' := []) [] ⟨List.nodup_nil, rfl⟩ ?_
            exact PJ.retn (vs := [.bool false]) Try.results7 ⟨rfl, trivial⟩ ⟨rfl, rfl⟩
          · replace hm := ifF hm hb42
            refine WJ.skip ?_
            refine PJ.next ?_
            refine WJ.seq ?_
            refine WJ.quiet ?_
            refine QJ.step (y_assign rfl) rfl ?_
            refine QJ.done ?_
            refine PJ.next ?_
            refine WJ.ret ?_
            obtain rfl := Option.some.inj hm
            refine PJ.sel (L' := []) [] ⟨List.nodup_nil, rfl⟩ ?_
            exact PJ.retn (vs := [.bool true]) Try.results7 ⟨rfl, trivial⟩ ⟨rfl, rfl⟩

end Go.Proofs.Ytigjflandggihaa
