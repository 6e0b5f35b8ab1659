/-
  The walks: a call hands back what its plain function computes, where that has a value. No other conditions.
-/
import Derived.Test.YtigjflandggihaaFnExactPossibleDefectsM
import Derived.Test.YtigjflandggihaaChecked
namespace Go.Proofs.Ytigjflandggihaa
open Go.RowKit Go.Proofs
set_option linter.unusedVariables false
set_option linter.unusedSimpArgs false

theorem follows : Try.prog.follows .mixedOrders = true := by kernel_rfl

def Defect.enc (x : Defect) : List Value := [str x.name, .int .i64 x.weight, str x.signs]
def fDefect : FRp Defect := ⟨3, Defect.enc, fun _ => rfl, by decide, fun x u hu => by
  simp only [Defect.enc, List.mem_cons, List.not_mem_nil, or_false] at hu
  rcases hu with rfl | rfl | rfl <;> rfl⟩

theorem fld66_0 : FieldOk Try.prog 66 0 0 9 0 := ⟨_, _, Try.runUnderlying66, rfl, rfl, rfl, Try.sizeOf9⟩
theorem fld66_2 : FieldOk Try.prog 66 2 2 9 0 := ⟨_, _, Try.runUnderlying66, rfl, rfl, rfl, Try.sizeOf9⟩
theorem el69 : ElemOk Try.prog 69 3 (fDefect.enc (Defect.mk [] 0 [])) := ⟨_, _, Try.type69, rfl, rfl, rfl, by decide⟩
theorem fld69_0 : FieldOk Try.prog 69 0 0 9 0 := ⟨_, _, Try.runUnderlying69, rfl, rfl, rfl, Try.sizeOf9⟩
theorem fld66_1 : FieldOk Try.prog 66 1 1 2 0 := ⟨_, _, Try.runUnderlying66, rfl, rfl, rfl, Try.sizeOf2⟩
theorem fld69_1 : FieldOk Try.prog 69 1 1 2 0 := ⟨_, _, Try.runUnderlying69, rfl, rfl, rfl, Try.sizeOf2⟩
theorem fld69_2 : FieldOk Try.prog 69 2 2 9 0 := ⟨_, _, Try.runUnderlying69, rfl, rfl, rfl, Try.sizeOf9⟩
theorem el2 : ElemOk Try.prog 2 1 (fI64.enc 0) := ⟨_, _, Try.type2, rfl, rfl, rfl, by decide⟩
theorem open66 : Opens Try.prog 66 fDefect.rp wfDefect := fun {H enc w sp held fuel cs x} h => by
  obtain ⟨hl, n, hf⟩ := opens_fields Try.underlying66 h
  have hl : cs.length = 3 := by rw [hl]; kernel_rfl
  obtain ⟨y0, hy0⟩ := hf _ (List.mem_of_getElem? (i := 0) rfl)
  obtain ⟨z0, hz0, hw0⟩ := (opens_str Try.underlying9) hy0
  obtain ⟨y1, hy1⟩ := hf _ (List.mem_of_getElem? (i := 1) rfl)
  obtain ⟨z1, hz1, hw1⟩ := (opens_i64 Try.underlying2) hy1
  obtain ⟨y2, hy2⟩ := hf _ (List.mem_of_getElem? (i := 2) rfl)
  obtain ⟨z2, hz2, hw2⟩ := (opens_str Try.underlying9) hy2
  match cs, hl with
  | [c0, c1, c2], _ =>
  have e0 : [c0] = fStr.enc z0 := hz0
  have e1 : [c1] = fI64.enc z1 := hz1
  have e2 : [c2] = fStr.enc z2 := hz2
  refine ⟨⟨z0, z1, z2⟩, ?_, ⟨hw0, hw1, hw2⟩⟩
  show [c0, c1, c2] = Defect.enc _
  simp only [fStr, List.cons.injEq, and_true] at e0
  simp only [fI64, List.cons.injEq, and_true] at e1
  simp only [fStr, List.cons.injEq, and_true] at e2
  rw [e0, e1, e2]
  rfl


set_option maxRecDepth 100000 in
set_option maxHeartbeats 1000000 in
theorem ok_w_szDefect {a1 : Defect} {left2 : Int} {r : Int} (hm : w_szDefect a1 left2 = some r) (w : World)  :
    Calls Try.prog 43 #[.agg (Defect.enc a1).toArray, .int .i64 left2] w (Ret (cx w) (.int .i64 r)) := by
  unfold w_szDefect at hm
  refine Calls.enter [.agg (Defect.enc a1).toArray, .int .i64 left2] Try.func43 rfl Try.ntmps43 rfl ?_
  refine WJ.seq ?_
  refine WJ.reg ?_
  refine SJ.box (cs := [str a1.name, .int .i64 a1.weight, str a1.signs]) rfl rfl rfl fun g3 => ?_
  refine SJ.q (y_assign rfl) rfl ?_
  refine SJ.nil ?_
  refine PJ.next ?_
  refine WJ.seq ?_
  refine WJ.quiet ?_
  refine QJ.step (y_move rfl) rfl ?_
  refine QJ.step (y_fldB (o := 0) fld66_0 rfl) rfl ?_
  refine QJ.step (y_loadB (k := 0) (off := 0) (v := str a1.name) rfl Try.isAgg9 rfl rfl) rfl ?_
  refine QJ.step (y_lenStr Try.runUnderlying9 rfl) rfl ?_
  refine QJ.step (y_bin rfl rfl rfl) rfl ?_
  refine QJ.step (y_assign rfl) rfl ?_
  refine QJ.done ?_
  refine PJ.next ?_
  refine WJ.seq ?_
  refine WJ.seq ?_
  refine WJ.quiet ?_
  refine QJ.step (y_move rfl) rfl ?_
  refine QJ.step (y_bin rfl rfl rfl) rfl ?_
  refine QJ.done ?_
  refine PJ.next ?_
  refine WJ.cond (t := decide ((w64 (left2 - (List.length a1.name : Int))) < 0)) rfl (fun hb4 => ?_) (fun hb4 => ?_)
  · replace hm := ifT hm hb4
    refine WJ.seq ?_
    refine WJ.quiet ?_
    refine QJ.step (y_assign rfl) rfl ?_
    refine QJ.done ?_
    refine PJ.next ?_
    refine WJ.ret ?_
    refine PJ.then_ret ?_
    obtain rfl := Option.some.inj hm
    refine PJ.sel (L' := []) [] ⟨List.nodup_nil, rfl⟩ ?_
    exact PJ.retn (vs := [.int .i64 (-1)]) Try.results43 ⟨rfl, trivial⟩ ⟨rfl, rfl⟩
  · replace hm := ifF hm hb4
    refine WJ.skip ?_
    refine PJ.next ?_
    refine WJ.seq ?_
    refine WJ.quiet ?_
    refine QJ.step (y_move rfl) rfl ?_
    refine QJ.step (y_fldB (o := 0) fld66_2 rfl) rfl ?_
    refine QJ.step (y_loadB (k := 0) (off := 2) (v := str a1.signs) rfl Try.isAgg9 rfl rfl) rfl ?_
    refine QJ.step (y_lenStr Try.runUnderlying9 rfl) rfl ?_
    refine QJ.step (y_bin rfl rfl rfl) rfl ?_
    refine QJ.step (y_assign rfl) rfl ?_
    refine QJ.done ?_
    refine PJ.next ?_
    refine WJ.seq ?_
    refine WJ.seq ?_
    refine WJ.quiet ?_
    refine QJ.step (y_move rfl) rfl ?_
    refine QJ.step (y_bin rfl rfl rfl) rfl ?_
    refine QJ.done ?_
    refine PJ.next ?_
    refine WJ.cond (t := decide ((w64 ((w64 (left2 - (List.length a1.name : Int))) - (List.length a1.signs : Int))) < 0)) rfl (fun hb5 => ?_) (fun hb5 => ?_)
    · replace hm := ifT hm hb5
      refine WJ.seq ?_
      refine WJ.quiet ?_
      refine QJ.step (y_assign rfl) rfl ?_
      refine QJ.done ?_
      refine PJ.next ?_
      refine WJ.ret ?_
      refine PJ.then_ret ?_
      obtain rfl := Option.some.inj hm
      refine PJ.sel (L' := []) [] ⟨List.nodup_nil, rfl⟩ ?_
      exact PJ.retn (vs := [.int .i64 (-1)]) Try.results43 ⟨rfl, trivial⟩ ⟨rfl, rfl⟩
    · replace hm := ifF hm hb5
      refine WJ.skip ?_
      refine PJ.next ?_
      refine WJ.seq ?_
      refine WJ.quiet ?_
      refine QJ.step (y_move rfl) rfl ?_
      refine QJ.step (y_assign rfl) rfl ?_
      refine QJ.done ?_
      refine PJ.next ?_
      refine WJ.ret ?_
      obtain rfl := Option.some.inj hm
      refine PJ.sel (L' := []) [] ⟨List.nodup_nil, rfl⟩ ?_
      exact PJ.retn (vs := [.int .i64 (w64 ((w64 (left2 - (List.length a1.name : Int))) - (List.length a1.signs : Int)))]) Try.results43 ⟨rfl, trivial⟩ ⟨rfl, rfl⟩

set_option maxRecDepth 100000 in
set_option maxHeartbeats 1000000 in
theorem ok_w_szDefectS {N : Nat} {a1 : List Defect} {left4 : Int} {r : Int} (hm : w_szDefectS N a1 left4 = some r) (w : World) (v2 : Value) (hr3 : RdS w (cx w).Fz v2 fDefect.rp a1) :
    Calls Try.prog 17 #[v2, .int .i64 left4] w (Ret (cx w) (.int .i64 r)) := by
  unfold w_szDefectS at hm
  refine Calls.enter [v2, .int .i64 left4] Try.func17 rfl Try.ntmps17 rfl ?_
  refine WJ.seq ?_
  refine WJ.quiet ?_
  refine QJ.step (y_assign rfl) rfl ?_
  refine QJ.done ?_
  refine PJ.next ?_
  refine WJ.seq ?_
  refine WJ.quiet ?_
  refine QJ.step (y_move rfl) rfl ?_
  refine QJ.step (y_move rfl) rfl ?_
  refine QJ.step (y_lenS Try.runUnderlying31 hr3 rfl) rfl ?_
  refine QJ.step (y_bin rfl rfl rfl) rfl ?_
  refine QJ.step (y_assign rfl) rfl ?_
  refine QJ.done ?_
  refine PJ.next ?_
  refine WJ.seq ?_
  refine WJ.seq ?_
  refine WJ.quiet ?_
  refine QJ.step (y_move rfl) rfl ?_
  refine QJ.step (y_bin rfl rfl rfl) rfl ?_
  refine QJ.done ?_
  refine PJ.next ?_
  refine WJ.cond (t := decide ((w64 (left4 - (List.length a1 : Int))) < 0)) rfl (fun hb5 => ?_) (fun hb5 => ?_)
  · replace hm := ifT hm hb5
    refine WJ.seq ?_
    refine WJ.quiet ?_
    refine QJ.step (y_assign rfl) rfl ?_
    refine QJ.done ?_
    refine PJ.next ?_
    refine WJ.ret ?_
    refine PJ.then_ret ?_
    obtain rfl := Option.some.inj hm
    refine PJ.sel (L' := []) [] ⟨List.nodup_nil, rfl⟩ ?_
    exact PJ.retn (vs := [.int .i64 (-1)]) Try.results17 ⟨rfl, trivial⟩ ⟨rfl, rfl⟩
  · replace hm := ifF hm hb5
    refine WJ.skip ?_
    refine PJ.next ?_
    obtain ⟨k7, hk8, hm⟩ := withK_open hm
    refine WJ.join (X := Int) (fun (x : Int) => k7 x = some r) (fun (x : Int) => [(1, .int .i64 x)]) (fun (x : Int) => []) ?_ ?_
    · clear hk8
      refine WJ.seq ?_
      refine WJ.quiet ?_
      refine QJ.step (y_assign rfl) rfl ?_
      refine QJ.done ?_
      refine PJ.next ?_
      refine WJ.block ?_
      refine WJ.sel (L' := (fun (x : Int × Int) => []) (w64 (left4 - (List.length a1 : Int)), 0)) [] ⟨List.nodup_nil, rfl⟩ ?_
      refine WJ.sub (m' := (fun (x : Int × Int) => [(0, v2), (1, .int .i64 x.1), (5, .int .i64 x.2)]) (w64 (left4 - (List.length a1 : Int)), 0)) ⟨rfl, rfl, rfl, trivial⟩ ?_
      refine WJ.loop (X := Int × Int) (fun N (x : Int × Int) => w_szDefectS_l1 k7 a1 N x.1 x.2 = some r) (fun (x : Int × Int) => [(0, v2), (1, .int .i64 x.1), (5, .int .i64 x.2)]) (fun (x : Int × Int) => []) ?_ N (w64 (left4 - (List.length a1 : Int)), 0) hm
      · rintro N ⟨left9, i10⟩ hI
        have hm := hI; clear hI
        cases N with
        | zero => cases hm
        | succ N =>
        unfold w_szDefectS_l1 at hm
        refine WJ.seq ?_
        refine WJ.seq ?_
        refine WJ.quiet ?_
        refine QJ.step (y_move rfl) rfl ?_
        refine QJ.step (y_move rfl) rfl ?_
        refine QJ.step (y_lenS Try.runUnderlying31 hr3 rfl) rfl ?_
        refine QJ.step (y_bin rfl rfl rfl) rfl ?_
        refine QJ.done ?_
        refine PJ.next ?_
        refine WJ.cond (t := decide (i10 < (List.length a1 : Int))) rfl (fun hb11 => ?_) (fun hb11 => ?_)
        · replace hm := ifT hm hb11
          refine WJ.skip ?_
          refine PJ.next ?_
          refine WJ.seq ?_
          refine WJ.block ?_
          refine WJ.seq ?_
          refine WJ.quiet ?_
          refine QJ.step (y_move rfl) rfl ?_
          refine QJ.step (y_move rfl) rfl ?_
          obtain ⟨e12, h13, hm⟩ := bindS hm
          obtain ⟨ad14, _, rfl, ha15, hy16⟩ := hr3.elem h13
          refine QJ.step (hy16 Try.runUnderlying31 Try.sizeOf66 rfl rfl) rfl ?_
          refine QJ.step (y_loadN Try.isAgg66 Try.sizeOf66 rfl ha15 St.frozenC rfl) rfl ?_
          refine QJ.step (y_move rfl) rfl ?_
          obtain ⟨r17, h18, hm⟩ := bindS hm
          refine QJ.step (y_call Try.call43 rfl (RetG.quiet fun w hw => ok_w_szDefect h18 w )) rfl ?_
          refine QJ.step (y_assign rfl) rfl ?_
          refine QJ.done ?_
          refine PJ.next ?_
          refine WJ.seq ?_
          refine WJ.quiet ?_
          refine QJ.step (y_move rfl) rfl ?_
          refine QJ.step (y_bin rfl rfl rfl) rfl ?_
          refine QJ.done ?_
          refine PJ.next ?_
          refine WJ.cond (t := decide (r17 < 0)) rfl (fun hb19 => ?_) (fun hb19 => ?_)
          · replace hm := ifT hm hb19
            refine WJ.seq ?_
            refine WJ.quiet ?_
            refine QJ.step (y_assign rfl) rfl ?_
            refine QJ.done ?_
            refine PJ.next ?_
            refine WJ.ret ?_
            refine PJ.block_ret (PJ.then_ret (PJ.then_ret (PJ.block_ret (PJ.then_ret ?_))))
            obtain rfl := Option.some.inj hm
            refine PJ.sel (L' := []) [] ⟨List.nodup_nil, rfl⟩ ?_
            exact PJ.retn (vs := [.int .i64 (-1)]) Try.results17 ⟨rfl, trivial⟩ ⟨rfl, rfl⟩
          · replace hm := ifF hm hb19
            refine WJ.skip ?_
            refine PJ.block_normal (PJ.next ?_)
            refine WJ.quiet ?_
            refine QJ.step (y_move rfl) rfl ?_
            refine QJ.step (y_bin rfl rfl rfl) rfl ?_
            refine QJ.step (y_assign rfl) rfl ?_
            refine QJ.done ?_
            exact PJ.round (r17, w64 (i10 + 1)) [] hm ⟨rfl, rfl, rfl, trivial⟩ ⟨List.nodup_nil, rfl⟩
        · replace hm := ifF hm hb11
          refine WJ.exit ?_
          refine PJ.then_exit (PJ.then_exit (PJ.block_exit ?_))
          exact PJ.joined left9 [] hm ⟨rfl, trivial⟩ ⟨List.nodup_nil, rfl⟩
    · rintro left6 hm
      subst hk8
      refine WJ.seq ?_
      refine WJ.quiet ?_
      refine QJ.step (y_move rfl) rfl ?_
      refine QJ.step (y_assign rfl) rfl ?_
      refine QJ.done ?_
      refine PJ.next ?_
      refine WJ.ret ?_
      obtain rfl := Option.some.inj hm
      refine PJ.sel (L' := []) [] ⟨List.nodup_nil, rfl⟩ ?_
      exact PJ.retn (vs := [.int .i64 left6]) Try.results17 ⟨rfl, trivial⟩ ⟨rfl, rfl⟩

set_option maxRecDepth 100000 in
set_option maxHeartbeats 1000000 in
theorem ok_w_toDefect {a1 : Defect} {r : Defect} (hm : w_toDefect a1 = some r) (w : World)  :
    Calls Try.prog 46 #[.agg (Defect.enc a1).toArray] w (Ret (cx w) (.agg (Defect.enc r).toArray)) := by
  unfold w_toDefect at hm
  refine Calls.enter [.agg (Defect.enc a1).toArray] Try.func46 rfl Try.ntmps46 rfl ?_
  refine WJ.seq ?_
  refine WJ.reg ?_
  refine SJ.box (cs := [str a1.name, .int .i64 a1.weight, str a1.signs]) rfl rfl rfl fun g2 => ?_
  refine SJ.alloc (cs := [str [], .int .i64 0, str []]) Try.zeroValue69 rfl rfl fun g3 => ?_
  refine SJ.nil ?_
  refine PJ.next ?_
  refine WJ.seq ?_
  refine WJ.reg ?_
  refine SJ.alloc (cs := [str [], .int .i64 0, str []]) Try.zeroValue69 rfl rfl fun g4 => ?_
  refine SJ.nil ?_
  refine PJ.next ?_
  refine WJ.seq ?_
  refine WJ.reg ?_
  refine SJ.q (y_fldB (o := 0) fld66_0 rfl) rfl ?_
  refine SJ.q (y_loadB (k := 2) (off := 0) (v := str a1.name) rfl Try.isAgg9 rfl rfl) rfl ?_
  refine SJ.q (y_fldB (o := 0) fld69_0 rfl) rfl ?_
  refine SJ.storeL (k := 0) (off := 0) (us := [str a1.name]) rfl rfl rfl rfl Try.sizeOf9 rfl rfl ?_
  refine SJ.nil ?_
  refine PJ.next ?_
  refine WJ.seq ?_
  refine WJ.reg ?_
  refine SJ.q (y_fldB (o := 0) fld66_1 rfl) rfl ?_
  refine SJ.q (y_loadB (k := 2) (off := 1) (v := .int .i64 a1.weight) rfl Try.isAgg2 rfl rfl) rfl ?_
  refine SJ.q (y_fldB (o := 0) fld69_1 rfl) rfl ?_
  refine SJ.storeL (k := 0) (off := 1) (us := [.int .i64 a1.weight]) rfl rfl rfl rfl Try.sizeOf2 rfl rfl ?_
  refine SJ.nil ?_
  refine PJ.next ?_
  refine WJ.seq ?_
  refine WJ.reg ?_
  refine SJ.q (y_fldB (o := 0) fld66_2 rfl) rfl ?_
  refine SJ.q (y_loadB (k := 2) (off := 2) (v := str a1.signs) rfl Try.isAgg9 rfl rfl) rfl ?_
  refine SJ.q (y_fldB (o := 0) fld69_2 rfl) rfl ?_
  refine SJ.storeL (k := 0) (off := 2) (us := [str a1.signs]) rfl rfl rfl rfl Try.sizeOf9 rfl rfl ?_
  refine SJ.nil ?_
  refine PJ.next ?_
  refine WJ.seq ?_
  refine WJ.reg ?_
  refine SJ.q (y_loadBN (k := 0) (off := 0) (us := [str a1.name, .int .i64 a1.weight, str a1.signs]) rfl Try.isAgg69 Try.sizeOf69 rfl rfl) rfl ?_
  refine SJ.storeL (k := 1) (off := 0) (us := [str a1.name, .int .i64 a1.weight, str a1.signs]) rfl rfl rfl rfl Try.sizeOf69 rfl rfl ?_
  refine SJ.nil ?_
  refine PJ.next ?_
  refine WJ.ret ?_
  obtain rfl := Option.some.inj hm
  exact PJ.retn_sel (vs := [.agg #[str a1.name, .int .i64 a1.weight, str a1.signs]]) Try.results46 ⟨⟨1, g3, 69, [str a1.name, .int .i64 a1.weight, str a1.signs], rfl, rfl, .inl ⟨Try.isAgg69, Try.sizeOf69, rfl⟩⟩, trivial⟩ [] ⟨List.nodup_nil, rfl⟩ ⟨rfl, rfl⟩

set_option maxRecDepth 100000 in
set_option maxHeartbeats 1000000 in
theorem ok_w_toDefectS {N : Nat} {a1 : List Defect} {r : (List Defect)} (hm : w_toDefectS N a1 = some r) (w : World) (v2 : Value) (hr3 : RdS w (cx w).Fz v2 fDefect.rp a1) :
    Calls Try.prog 19 #[v2] w (RetG (cx w) fun u L => ∃ (u1 : Value), (u = u1 ∧ L = [row u1 69 fDefect r])) := by
  unfold w_toDefectS at hm
  refine Calls.enter [v2] Try.func19 rfl Try.ntmps19 rfl ?_
  refine WJ.seq ?_
  refine WJ.quiet ?_
  refine QJ.step (y_assign rfl) rfl ?_
  refine QJ.done ?_
  refine PJ.next ?_
  refine WJ.seq ?_
  refine WJ.reg ?_
  refine SJ.q (y_move rfl) rfl ?_
  refine SJ.q (y_lenS Try.runUnderlying31 hr3 rfl) rfl ?_
  obtain ⟨l4, h5, hm⟩ := bindS hm
  refine SJ.makeSlice (R := fDefect) (z := (Defect.mk [] 0 [])) h5 Try.underlying36 el69 rfl rfl rfl fun v6 => ?_
  refine SJ.q (y_assign rfl) rfl ?_
  refine SJ.nil ?_
  refine PJ.next ?_
  obtain ⟨k8, hk9, hm⟩ := withK_open hm
  refine WJ.join (X := (List Defect)) (fun (x : (List Defect)) => k8 x = some r) (fun (x : (List Defect)) => [(3, v6)]) (fun (x : (List Defect)) => [row v6 69 fDefect x]) ?_ ?_
  · clear hk9
    refine WJ.seq ?_
    refine WJ.quiet ?_
    refine QJ.step (y_assign rfl) rfl ?_
    refine QJ.done ?_
    refine PJ.next ?_
    refine WJ.block ?_
    refine WJ.sel (L' := (fun (x : (List Defect) × Int) => [row v6 69 fDefect x.1]) (l4, 0)) [0] ⟨by decide, rfl⟩ ?_
    refine WJ.sub (m' := (fun (x : (List Defect) × Int) => [(0, v2), (3, v6), (4, .int .i64 x.2)]) (l4, 0)) ⟨rfl, rfl, rfl, trivial⟩ ?_
    refine WJ.loop (X := (List Defect) × Int) (fun N (x : (List Defect) × Int) => w_toDefectS_l1 k8 a1 N x.1 x.2 = some r) (fun (x : (List Defect) × Int) => [(0, v2), (3, v6), (4, .int .i64 x.2)]) (fun (x : (List Defect) × Int) => [row v6 69 fDefect x.1]) ?_ N (l4, 0) hm
    · rintro N ⟨l10, i11⟩ hI
      have hm := hI; clear hI
      cases N with
      | zero => cases hm
      | succ N =>
      unfold w_toDefectS_l1 at hm
      refine WJ.seq ?_
      refine WJ.seq ?_
      refine WJ.quiet ?_
      refine QJ.step (y_move rfl) rfl ?_
      refine QJ.step (y_move rfl) rfl ?_
      refine QJ.step (y_lenS Try.runUnderlying31 hr3 rfl) rfl ?_
      refine QJ.step (y_bin rfl rfl rfl) rfl ?_
      refine QJ.done ?_
      refine PJ.next ?_
      refine WJ.cond (t := decide (i11 < (List.length a1 : Int))) rfl (fun hb12 => ?_) (fun hb12 => ?_)
      · replace hm := ifT hm hb12
        refine WJ.skip ?_
        refine PJ.next ?_
        refine WJ.seq ?_
        refine WJ.block ?_
        refine WJ.reg ?_
        refine SJ.q (y_move rfl) rfl ?_
        refine SJ.q (y_move rfl) rfl ?_
        refine SJ.q (y_move rfl) rfl ?_
        refine SJ.q (y_move rfl) rfl ?_
        obtain ⟨e13, h14, hm⟩ := bindS hm
        obtain ⟨ad15, _, rfl, ha16, hy17⟩ := hr3.elem h14
        refine SJ.q (hy17 Try.runUnderlying31 Try.sizeOf66 rfl rfl) rfl ?_
        refine SJ.q (y_loadN Try.isAgg66 Try.sizeOf66 rfl ha16 St.frozenC rfl) rfl ?_
        obtain ⟨r18, h19, hm⟩ := bindS hm
        refine SJ.q (y_call Try.call46 rfl (RetG.quiet fun w hw => ok_w_toDefect h19 w )) rfl ?_
        obtain ⟨e20, h21, hm⟩ := bindS hm
        refine SJ.q (y_ixRow (k := 0) (R := fDefect) rfl Try.runUnderlying36 Try.sizeOf69 rfl rfl h21) rfl ?_
        refine SJ.storeRL (k := 0) (i := (Int.toNat i11)) (off := 0) (us := [str r18.name, .int .i64 r18.weight, str r18.signs]) (b := r18) rfl rfl (idx_get h21) rfl rfl Try.sizeOf69 rfl rfl rfl ?_
        refine SJ.nil ?_
        refine PJ.block_normal (PJ.next ?_)
        refine WJ.quiet ?_
        refine QJ.step (y_move rfl) rfl ?_
        refine QJ.step (y_bin rfl rfl rfl) rfl ?_
        refine QJ.step (y_assign rfl) rfl ?_
        refine QJ.done ?_
        exact PJ.round ((List.set l10 (Int.toNat i11) r18), w64 (i11 + 1)) [0] hm ⟨rfl, rfl, rfl, trivial⟩ ⟨by decide, rfl⟩
      · replace hm := ifF hm hb12
        refine WJ.exit ?_
        refine PJ.then_exit (PJ.then_exit (PJ.block_exit ?_))
        exact PJ.joined l10 [0] hm ⟨rfl, trivial⟩ ⟨by decide, rfl⟩
  · rintro l7 hm
    subst hk9
    refine WJ.seq ?_
    refine WJ.quiet ?_
    refine QJ.step (y_move rfl) rfl ?_
    refine QJ.step (y_assign rfl) rfl ?_
    refine QJ.done ?_
    refine PJ.next ?_
    refine WJ.ret ?_
    obtain rfl := Option.some.inj hm
    refine PJ.sel (L' := [row v6 69 fDefect l7]) [0] ⟨by decide, rfl⟩ ?_
    exact PJ.retn (vs := [v6]) Try.results19 ⟨rfl, trivial⟩ ⟨_, rfl, rfl⟩

set_option maxRecDepth 100000 in
set_option maxHeartbeats 1000000 in
theorem ok_w_toInt64S {N : Nat} {a1 : List Int} {r : (List Int)} (hm : w_toInt64S N a1 = some r) (w : World) (v2 : Value) (hr3 : RdS w (cx w).Fz v2 fI64.rp a1) :
    Calls Try.prog 20 #[v2] w (RetG (cx w) fun u L => ∃ (u1 : Value), (u = u1 ∧ L = [row u1 2 fI64 r])) := by
  unfold w_toInt64S at hm
  refine Calls.enter [v2] Try.func20 rfl Try.ntmps20 rfl ?_
  refine WJ.seq ?_
  refine WJ.quiet ?_
  refine QJ.step (y_assign rfl) rfl ?_
  refine QJ.done ?_
  refine PJ.next ?_
  refine WJ.seq ?_
  refine WJ.reg ?_
  refine SJ.q (y_move rfl) rfl ?_
  refine SJ.q (y_lenS Try.runUnderlying32 hr3 rfl) rfl ?_
  obtain ⟨l4, h5, hm⟩ := bindS hm
  refine SJ.makeSlice (R := fI64) (z := 0) h5 Try.underlying32 el2 rfl rfl rfl fun v6 => ?_
  refine SJ.q (y_assign rfl) rfl ?_
  refine SJ.nil ?_
  refine PJ.next ?_
  obtain ⟨k8, hk9, hm⟩ := withK_open hm
  refine WJ.join (X := (List Int)) (fun (x : (List Int)) => k8 x = some r) (fun (x : (List Int)) => [(3, v6)]) (fun (x : (List Int)) => [row v6 2 fI64 x]) ?_ ?_
  · clear hk9
    refine WJ.seq ?_
    refine WJ.quiet ?_
    refine QJ.step (y_assign rfl) rfl ?_
    refine QJ.done ?_
    refine PJ.next ?_
    refine WJ.block ?_
    refine WJ.sel (L' := (fun (x : (List Int) × Int) => [row v6 2 fI64 x.1]) (l4, 0)) [0] ⟨by decide, rfl⟩ ?_
    refine WJ.sub (m' := (fun (x : (List Int) × Int) => [(0, v2), (3, v6), (4, .int .i64 x.2)]) (l4, 0)) ⟨rfl, rfl, rfl, trivial⟩ ?_
    refine WJ.loop (X := (List Int) × Int) (fun N (x : (List Int) × Int) => w_toInt64S_l1 k8 a1 N x.1 x.2 = some r) (fun (x : (List Int) × Int) => [(0, v2), (3, v6), (4, .int .i64 x.2)]) (fun (x : (List Int) × Int) => [row v6 2 fI64 x.1]) ?_ N (l4, 0) hm
    · rintro N ⟨l10, i11⟩ hI
      have hm := hI; clear hI
      cases N with
      | zero => cases hm
      | succ N =>
      unfold w_toInt64S_l1 at hm
      refine WJ.seq ?_
      refine WJ.seq ?_
      refine WJ.quiet ?_
      refine QJ.step (y_move rfl) rfl ?_
      refine QJ.step (y_move rfl) rfl ?_
      refine QJ.step (y_lenS Try.runUnderlying32 hr3 rfl) rfl ?_
      refine QJ.step (y_bin rfl rfl rfl) rfl ?_
      refine QJ.done ?_
      refine PJ.next ?_
      refine WJ.cond (t := decide (i11 < (List.length a1 : Int))) rfl (fun hb12 => ?_) (fun hb12 => ?_)
      · replace hm := ifT hm hb12
        refine WJ.skip ?_
        refine PJ.next ?_
        refine WJ.seq ?_
        refine WJ.block ?_
        refine WJ.reg ?_
        refine SJ.q (y_move rfl) rfl ?_
        refine SJ.q (y_move rfl) rfl ?_
        refine SJ.q (y_move rfl) rfl ?_
        refine SJ.q (y_move rfl) rfl ?_
        obtain ⟨e13, h14, hm⟩ := bindS hm
        obtain ⟨ad15, _, rfl, ha16, hy17⟩ := hr3.elem h14
        refine SJ.q (hy17 Try.runUnderlying32 Try.sizeOf2 rfl rfl) rfl ?_
        refine SJ.q (y_load1 (v := .int .i64 e13) Try.isAgg2 ha16 St.frozenC rfl) rfl ?_
        obtain ⟨e18, h19, hm⟩ := bindS hm
        refine SJ.q (y_ixRow (k := 0) (R := fI64) rfl Try.runUnderlying32 Try.sizeOf2 rfl rfl h19) rfl ?_
        refine SJ.storeRL (k := 0) (i := (Int.toNat i11)) (off := 0) (us := [.int .i64 e13]) (b := e13) rfl rfl (idx_get h19) rfl rfl Try.sizeOf2 rfl rfl rfl ?_
        refine SJ.nil ?_
        refine PJ.block_normal (PJ.next ?_)
        refine WJ.quiet ?_
        refine QJ.step (y_move rfl) rfl ?_
        refine QJ.step (y_bin rfl rfl rfl) rfl ?_
        refine QJ.step (y_assign rfl) rfl ?_
        refine QJ.done ?_
        exact PJ.round ((List.set l10 (Int.toNat i11) e13), w64 (i11 + 1)) [0] hm ⟨rfl, rfl, rfl, trivial⟩ ⟨by decide, rfl⟩
      · replace hm := ifF hm hb12
        refine WJ.exit ?_
        refine PJ.then_exit (PJ.then_exit (PJ.block_exit ?_))
        exact PJ.joined l10 [0] hm ⟨rfl, trivial⟩ ⟨by decide, rfl⟩
  · rintro l7 hm
    subst hk9
    refine WJ.seq ?_
    refine WJ.quiet ?_
    refine QJ.step (y_move rfl) rfl ?_
    refine QJ.step (y_assign rfl) rfl ?_
    refine QJ.done ?_
    refine PJ.next ?_
    refine WJ.ret ?_
    obtain rfl := Option.some.inj hm
    refine PJ.sel (L' := [row v6 2 fI64 l7]) [0] ⟨by decide, rfl⟩ ?_
    exact PJ.retn (vs := [v6]) Try.results20 ⟨rfl, trivial⟩ ⟨_, rfl, rfl⟩

set_option maxRecDepth 100000 in
set_option maxHeartbeats 1000000 in
theorem ok_s_l00In {n1 : Int} {low2 : Int} {high3 : Int} {r : Bool} (hm : s_l00In n1 low2 high3 = some r) (w : World)  :
    Calls Try.prog 38 #[.int .i64 n1, .int .i64 low2, .int .i64 high3] w (Ret (cx w) (.bool r)) := by
  unfold s_l00In at hm
  refine Calls.enter [.int .i64 n1, .int .i64 low2, .int .i64 high3] Try.func38 rfl Try.ntmps38 rfl ?_
  refine WJ.seq ?_
  refine WJ.quiet ?_
  refine QJ.step (y_assign rfl) rfl ?_
  refine QJ.done ?_
  refine PJ.next ?_
  refine WJ.seq ?_
  refine WJ.quiet ?_
  refine QJ.step (y_move rfl) rfl ?_
  refine QJ.step (y_move rfl) rfl ?_
  refine QJ.step (y_bin rfl rfl rfl) rfl ?_
  refine QJ.step (y_move rfl) rfl ?_
  obtain ⟨t4, h5, hm⟩ := bindS hm
  refine QJ.cut 4 [(14, .bool t4)] ?_ ?_
  · rcases Bool.eq_false_or_eq_true (decide (n1 ≥ low2)) with hb6 | hb6
    · replace h5 := andT h5 hb6
      refine QJ.on rfl rfl (cB hb6) (y_move rfl) rfl ?_
      refine QJ.on rfl rfl (cB hb6) (y_move rfl) rfl ?_
      refine QJ.on rfl rfl (cB hb6) (y_bin rfl rfl rfl) rfl ?_
      refine QJ.step (y_pick_t (cB hb6) rfl) rfl ?_
      obtain rfl := Option.some.inj h5
      exact QJ.cut_end ⟨rfl, trivial⟩
    · obtain rfl := andF h5 hb6
      refine QJ.off rfl rfl (cB hb6) rfl rfl ?_
      refine QJ.off rfl rfl (cB hb6) rfl rfl ?_
      refine QJ.off rfl rfl (cB hb6) rfl rfl ?_
      refine QJ.step (y_pick_f (cB hb6) rfl) rfl ?_
      exact QJ.cut_end ⟨rfl, trivial⟩
  refine QJ.step (y_assign rfl) rfl ?_
  refine QJ.done ?_
  refine PJ.next ?_
  refine WJ.ret ?_
  obtain rfl := Option.some.inj hm
  refine PJ.sel (L' := []) [] ⟨List.nodup_nil, rfl⟩ ?_
  exact PJ.retn (vs := [.bool t4]) Try.results38 ⟨rfl, trivial⟩ ⟨rfl, rfl⟩

set_option maxRecDepth 100000 in
set_option maxHeartbeats 1000000 in
theorem ok_s_l01Small {c1 : UInt8} {r : Bool} (hm : s_l01Small c1 = some r) (w : World)  :
    Calls Try.prog 70 #[.int .u8 (UInt8.toNat c1 : Int)] w (Ret (cx w) (.bool r)) := by
  unfold s_l01Small at hm
  refine Calls.enter [.int .u8 (UInt8.toNat c1 : Int)] Try.func70 rfl Try.ntmps70 rfl ?_
  refine WJ.seq ?_
  refine WJ.quiet ?_
  refine QJ.step (y_assign rfl) rfl ?_
  refine QJ.done ?_
  refine PJ.next ?_
  refine WJ.seq ?_
  refine WJ.quiet ?_
  refine QJ.step (y_move rfl) rfl ?_
  refine QJ.step (y_bin8 c1 (97 : UInt8) rfl rfl rfl) rfl ?_
  refine QJ.step (y_move rfl) rfl ?_
  obtain ⟨t2, h3, hm⟩ := bindS hm
  refine QJ.cut 3 [(8, .bool t2)] ?_ ?_
  · rcases Bool.eq_false_or_eq_true (decide (c1 ≥ (97 : UInt8))) with hb4 | hb4
    · replace h3 := andT h3 hb4
      refine QJ.on rfl rfl (cB hb4) (y_move rfl) rfl ?_
      refine QJ.on rfl rfl (cB hb4) (y_bin8 c1 (122 : UInt8) rfl rfl rfl) rfl ?_
      refine QJ.step (y_pick_t (cB hb4) rfl) rfl ?_
      obtain rfl := Option.some.inj h3
      exact QJ.cut_end ⟨rfl, trivial⟩
    · obtain rfl := andF h3 hb4
      refine QJ.off rfl rfl (cB hb4) rfl rfl ?_
      refine QJ.off rfl rfl (cB hb4) rfl rfl ?_
      refine QJ.step (y_pick_f (cB hb4) rfl) rfl ?_
      exact QJ.cut_end ⟨rfl, trivial⟩
  refine QJ.step (y_assign rfl) rfl ?_
  refine QJ.done ?_
  refine PJ.next ?_
  refine WJ.ret ?_
  obtain rfl := Option.some.inj hm
  refine PJ.sel (L' := []) [] ⟨List.nodup_nil, rfl⟩ ?_
  exact PJ.retn (vs := [.bool t2]) Try.results70 ⟨rfl, trivial⟩ ⟨rfl, rfl⟩

set_option maxRecDepth 100000 in
set_option maxHeartbeats 1000000 in
theorem ok_s_l01Digit {c1 : UInt8} {r : Bool} (hm : s_l01Digit c1 = some r) (w : World)  :
    Calls Try.prog 71 #[.int .u8 (UInt8.toNat c1 : Int)] w (Ret (cx w) (.bool r)) := by
  unfold s_l01Digit at hm
  refine Calls.enter [.int .u8 (UInt8.toNat c1 : Int)] Try.func71 rfl Try.ntmps71 rfl ?_
  refine WJ.seq ?_
  refine WJ.quiet ?_
  refine QJ.step (y_assign rfl) rfl ?_
  refine QJ.done ?_
  refine PJ.next ?_
  refine WJ.seq ?_
  refine WJ.quiet ?_
  refine QJ.step (y_move rfl) rfl ?_
  refine QJ.step (y_bin8 c1 (48 : UInt8) rfl rfl rfl) rfl ?_
  refine QJ.step (y_move rfl) rfl ?_
  obtain ⟨t2, h3, hm⟩ := bindS hm
  refine QJ.cut 3 [(8, .bool t2)] ?_ ?_
  · rcases Bool.eq_false_or_eq_true (decide (c1 ≥ (48 : UInt8))) with hb4 | hb4
    · replace h3 := andT h3 hb4
      refine QJ.on rfl rfl (cB hb4) (y_move rfl) rfl ?_
      refine QJ.on rfl rfl (cB hb4) (y_bin8 c1 (57 : UInt8) rfl rfl rfl) rfl ?_
      refine QJ.step (y_pick_t (cB hb4) rfl) rfl ?_
      obtain rfl := Option.some.inj h3
      exact QJ.cut_end ⟨rfl, trivial⟩
    · obtain rfl := andF h3 hb4
      refine QJ.off rfl rfl (cB hb4) rfl rfl ?_
      refine QJ.off rfl rfl (cB hb4) rfl rfl ?_
      refine QJ.step (y_pick_f (cB hb4) rfl) rfl ?_
      exact QJ.cut_end ⟨rfl, trivial⟩
  refine QJ.step (y_assign rfl) rfl ?_
  refine QJ.done ?_
  refine PJ.next ?_
  refine WJ.ret ?_
  obtain rfl := Option.some.inj hm
  refine PJ.sel (L' := []) [] ⟨List.nodup_nil, rfl⟩ ?_
  exact PJ.retn (vs := [.bool t2]) Try.results71 ⟨rfl, trivial⟩ ⟨rfl, rfl⟩

set_option maxRecDepth 100000 in
set_option maxHeartbeats 1000000 in
theorem ok_s_IsName {N : Nat} {s1 : Str} {r : Bool} (hm : s_IsName N s1 = some r) (w : World)  :
    Calls Try.prog 67 #[str s1] w (Ret (cx w) (.bool r)) := by
  unfold s_IsName at hm
  refine Calls.enter [str s1] Try.func67 rfl Try.ntmps67 rfl ?_
  refine WJ.seq ?_
  refine WJ.quiet ?_
  refine QJ.step (y_assign rfl) rfl ?_
  refine QJ.done ?_
  refine PJ.next ?_
  refine WJ.seq ?_
  refine WJ.seq ?_
  refine WJ.quiet ?_
  refine QJ.step (y_move rfl) rfl ?_
  refine QJ.step (y_binS rfl rfl rfl) rfl ?_
  refine QJ.step (y_move rfl) rfl ?_
  obtain ⟨t2, h3, hm⟩ := bindS hm
  refine QJ.cut 4 [(0, str s1), (10, .bool t2)] ?_ ?_
  · rcases Bool.eq_false_or_eq_true (s1 == []) with hb4 | hb4
    · obtain rfl := orT h3 hb4
      refine QJ.off rfl rfl (cB hb4) rfl rfl ?_
      refine QJ.off rfl rfl (cB hb4) rfl rfl ?_
      refine QJ.off rfl rfl (cB hb4) rfl rfl ?_
      refine QJ.step (y_pick_t (cB hb4) rfl) rfl ?_
      exact QJ.cut_end ⟨rfl, rfl, trivial⟩
    · replace h3 := orF h3 hb4
      refine QJ.on rfl rfl (cB hb4) (y_move rfl) rfl ?_
      refine QJ.on rfl rfl (cB hb4) (y_lenStr Try.runUnderlying9 rfl) rfl ?_
      refine QJ.on rfl rfl (cB hb4) (y_bin rfl rfl rfl) rfl ?_
      refine QJ.step (y_pick_f (cB hb4) rfl) rfl ?_
      obtain rfl := Option.some.inj h3
      exact QJ.cut_end ⟨rfl, rfl, trivial⟩
  refine QJ.step (y_move rfl) rfl ?_
  obtain ⟨t5, h6, hm⟩ := bindS hm
  refine QJ.cut 5 [(0, str s1), (16, .bool t5)] ?_ ?_
  · rcases Bool.eq_false_or_eq_true t2 with hb7 | hb7
    · obtain rfl := orT h6 hb7
      refine QJ.off rfl rfl (cB hb7) rfl rfl ?_
      refine QJ.off rfl rfl (cB hb7) rfl rfl ?_
      refine QJ.off rfl rfl (cB hb7) rfl rfl ?_
      refine QJ.off rfl rfl (cB hb7) rfl rfl ?_
      refine QJ.step (y_pick_t (cB hb7) rfl) rfl ?_
      exact QJ.cut_end ⟨rfl, rfl, trivial⟩
    · replace h6 := orF h6 hb7
      refine QJ.on rfl rfl (cB hb7) (y_move rfl) rfl ?_
      obtain ⟨c8, h9, h6⟩ := bindS h6
      refine QJ.on rfl rfl (cB hb7) (y_idxStr Try.runUnderlying9 rfl rfl h9) rfl ?_
      obtain ⟨r10, h11, h6⟩ := bindS h6
      refine QJ.on rfl rfl (cB hb7) (y_call Try.call70 rfl (RetG.quiet fun w hw => ok_s_l01Small h11 w )) rfl ?_
      refine QJ.on rfl rfl (cB hb7) (y_not rfl) rfl ?_
      refine QJ.step (y_pick_f (cB hb7) rfl) rfl ?_
      obtain rfl := Option.some.inj h6
      exact QJ.cut_end ⟨rfl, rfl, trivial⟩
  refine QJ.done ?_
  refine PJ.next ?_
  refine WJ.cond (t := t5) rfl (fun hb12 => ?_) (fun hb12 => ?_)
  · replace hm := ifT hm hb12
    refine WJ.seq ?_
    refine WJ.quiet ?_
    refine QJ.step (y_assign rfl) rfl ?_
    refine QJ.done ?_
    refine PJ.next ?_
    refine WJ.ret ?_
    refine PJ.then_ret ?_
    obtain rfl := Option.some.inj hm
    refine PJ.sel (L' := []) [] ⟨List.nodup_nil, rfl⟩ ?_
    exact PJ.retn (vs := [.bool false]) Try.results67 ⟨rfl, trivial⟩ ⟨rfl, rfl⟩
  · replace hm := ifF hm hb12
    refine WJ.skip ?_
    refine PJ.next ?_
    obtain ⟨k13, hk14, hm⟩ := withK_open hm
    refine WJ.join (X := Unit) (fun (_ : Unit) => k13  = some r) (fun (_ : Unit) => []) (fun (_ : Unit) => []) ?_ ?_
    · clear hk14
      refine WJ.seq ?_
      refine WJ.quiet ?_
      refine QJ.step (y_assign rfl) rfl ?_
      refine QJ.done ?_
      refine PJ.next ?_
      refine WJ.block ?_
      refine WJ.sel (L' := (fun (x : Int) => []) 0) [] ⟨List.nodup_nil, rfl⟩ ?_
      refine WJ.sub (m' := (fun (x : Int) => [(0, str s1), (3, .int .i64 x)]) 0) ⟨rfl, rfl, trivial⟩ ?_
      refine WJ.loop (X := Int) (fun N (x : Int) => s_IsName_l1 k13 s1 N x = some r) (fun (x : Int) => [(0, str s1), (3, .int .i64 x)]) (fun (x : Int) => []) ?_ N 0 hm
      · rintro N i15 hI
        have hm := hI; clear hI
        cases N with
        | zero => cases hm
        | succ N =>
        unfold s_IsName_l1 at hm
        refine WJ.seq ?_
        refine WJ.seq ?_
        refine WJ.quiet ?_
        refine QJ.step (y_move rfl) rfl ?_
        refine QJ.step (y_move rfl) rfl ?_
        refine QJ.step (y_lenStr Try.runUnderlying9 rfl) rfl ?_
        refine QJ.step (y_bin rfl rfl rfl) rfl ?_
        refine QJ.done ?_
        refine PJ.next ?_
        refine WJ.cond (t := decide (i15 < (List.length s1 : Int))) rfl (fun hb16 => ?_) (fun hb16 => ?_)
        · replace hm := ifT hm hb16
          refine WJ.skip ?_
          refine PJ.next ?_
          refine WJ.seq ?_
          refine WJ.block ?_
          refine WJ.seq ?_
          refine WJ.quiet ?_
          refine QJ.step (y_move rfl) rfl ?_
          refine QJ.step (y_move rfl) rfl ?_
          obtain ⟨c17, h18, hm⟩ := bindS hm
          refine QJ.step (y_idxStr Try.runUnderlying9 rfl rfl h18) rfl ?_
          obtain ⟨r19, h20, hm⟩ := bindS hm
          refine QJ.step (y_call Try.call70 rfl (RetG.quiet fun w hw => ok_s_l01Small h20 w )) rfl ?_
          refine QJ.step (y_not rfl) rfl ?_
          refine QJ.step (y_move rfl) rfl ?_
          obtain ⟨t21, h22, hm⟩ := bindS hm
          refine QJ.cut 6 [(0, str s1), (3, .int .i64 i15), (34, .bool t21)] ?_ ?_
          · rcases Bool.eq_false_or_eq_true (!r19) with hb23 | hb23
            · replace h22 := andT h22 hb23
              refine QJ.on rfl rfl (cB hb23) (y_move rfl) rfl ?_
              refine QJ.on rfl rfl (cB hb23) (y_move rfl) rfl ?_
              obtain ⟨c24, h25, h22⟩ := bindS h22
              refine QJ.on rfl rfl (cB hb23) (y_idxStr Try.runUnderlying9 rfl rfl h25) rfl ?_
              obtain ⟨r26, h27, h22⟩ := bindS h22
              refine QJ.on rfl rfl (cB hb23) (y_call Try.call71 rfl (RetG.quiet fun w hw => ok_s_l01Digit h27 w )) rfl ?_
              refine QJ.on rfl rfl (cB hb23) (y_not rfl) rfl ?_
              refine QJ.step (y_pick_t (cB hb23) rfl) rfl ?_
              obtain rfl := Option.some.inj h22
              exact QJ.cut_end ⟨rfl, rfl, rfl, trivial⟩
            · obtain rfl := andF h22 hb23
              refine QJ.off rfl rfl (cB hb23) rfl rfl ?_
              refine QJ.off rfl rfl (cB hb23) rfl rfl ?_
              refine QJ.off rfl rfl (cB hb23) rfl rfl ?_
              refine QJ.off rfl rfl (cB hb23) rfl rfl ?_
              refine QJ.off rfl rfl (cB hb23) rfl rfl ?_
              refine QJ.step (y_pick_f (cB hb23) rfl) rfl ?_
              exact QJ.cut_end ⟨rfl, rfl, rfl, trivial⟩
          refine QJ.step (y_move rfl) rfl ?_
          obtain ⟨t28, h29, hm⟩ := bindS hm
          refine QJ.cut 5 [(0, str s1), (3, .int .i64 i15), (40, .bool t28)] ?_ ?_
          · rcases Bool.eq_false_or_eq_true t21 with hb30 | hb30
            · replace h29 := andT h29 hb30
              refine QJ.on rfl rfl (cB hb30) (y_move rfl) rfl ?_
              refine QJ.on rfl rfl (cB hb30) (y_move rfl) rfl ?_
              obtain ⟨c31, h32, h29⟩ := bindS h29
              refine QJ.on rfl rfl (cB hb30) (y_idxStr Try.runUnderlying9 rfl rfl h32) rfl ?_
              refine QJ.on rfl rfl (cB hb30) (y_bin8 c31 (45 : UInt8) rfl rfl rfl) rfl ?_
              refine QJ.step (y_pick_t (cB hb30) rfl) rfl ?_
              obtain rfl := Option.some.inj h29
              exact QJ.cut_end ⟨rfl, rfl, rfl, trivial⟩
            · obtain rfl := andF h29 hb30
              refine QJ.off rfl rfl (cB hb30) rfl rfl ?_
              refine QJ.off rfl rfl (cB hb30) rfl rfl ?_
              refine QJ.off rfl rfl (cB hb30) rfl rfl ?_
              refine QJ.off rfl rfl (cB hb30) rfl rfl ?_
              refine QJ.step (y_pick_f (cB hb30) rfl) rfl ?_
              exact QJ.cut_end ⟨rfl, rfl, rfl, trivial⟩
          refine QJ.done ?_
          refine PJ.next ?_
          refine WJ.cond (t := t28) rfl (fun hb33 => ?_) (fun hb33 => ?_)
          · replace hm := ifT hm hb33
            refine WJ.seq ?_
            refine WJ.quiet ?_
            refine QJ.step (y_assign rfl) rfl ?_
            refine QJ.done ?_
            refine PJ.next ?_
            refine WJ.ret ?_
            refine PJ.block_ret (PJ.then_ret (PJ.then_ret (PJ.block_ret (PJ.then_ret ?_))))
            obtain rfl := Option.some.inj hm
            refine PJ.sel (L' := []) [] ⟨List.nodup_nil, rfl⟩ ?_
            exact PJ.retn (vs := [.bool false]) Try.results67 ⟨rfl, trivial⟩ ⟨rfl, rfl⟩
          · replace hm := ifF hm hb33
            refine WJ.skip ?_
            refine PJ.block_normal (PJ.next ?_)
            refine WJ.quiet ?_
            refine QJ.step (y_move rfl) rfl ?_
            refine QJ.step (y_bin rfl rfl rfl) rfl ?_
            refine QJ.step (y_assign rfl) rfl ?_
            refine QJ.done ?_
            exact PJ.round (w64 (i15 + 1)) [] hm ⟨rfl, rfl, trivial⟩ ⟨List.nodup_nil, rfl⟩
        · replace hm := ifF hm hb16
          refine WJ.exit ?_
          refine PJ.then_exit (PJ.then_exit (PJ.block_exit ?_))
          exact PJ.joined () [] hm trivial ⟨List.nodup_nil, rfl⟩
    · rintro _ hm
      subst hk14
      refine WJ.seq ?_
      refine WJ.quiet ?_
      refine QJ.step (y_assign rfl) rfl ?_
      refine QJ.done ?_
      refine PJ.next ?_
      refine WJ.ret ?_
      obtain rfl := Option.some.inj hm
      refine PJ.sel (L' := []) [] ⟨List.nodup_nil, rfl⟩ ?_
      exact PJ.retn (vs := [.bool true]) Try.results67 ⟨rfl, trivial⟩ ⟨rfl, rfl⟩

set_option maxRecDepth 100000 in
set_option maxHeartbeats 1000000 in
theorem ok_s_l23One {N : Nat} {d1 : Defect} {tests4 : Int} {r : Bool} (hm : s_l23One N d1 tests4 = some r) (w : World) (ad2 : Addr) (ha3 : At w (cx w).Fz ad2 (fDefect.enc d1)) :
    Calls Try.prog 60 #[.pointer (some ad2), .int .i64 tests4] w (Ret (cx w) (.bool r)) := by
  unfold s_l23One at hm
  refine Calls.enter [.pointer (some ad2), .int .i64 tests4] Try.func60 rfl Try.ntmps60 rfl ?_
  refine WJ.seq ?_
  refine WJ.quiet ?_
  refine QJ.step (y_assign rfl) rfl ?_
  refine QJ.done ?_
  refine PJ.next ?_
  obtain ⟨k5, hk6, hm⟩ := withK_open hm
  refine WJ.join (X := Unit) (fun (_ : Unit) => k5  = some r) (fun (_ : Unit) => [(0, .pointer (some ad2)), (1, .int .i64 tests4)]) (fun (_ : Unit) => []) ?_ ?_
  · clear hk6
    refine WJ.seq ?_
    refine WJ.quiet ?_
    refine QJ.step (y_assign rfl) rfl ?_
    refine QJ.done ?_
    refine PJ.next ?_
    refine WJ.block ?_
    refine WJ.sel (L' := (fun (x : Int) => []) 0) [] ⟨List.nodup_nil, rfl⟩ ?_
    refine WJ.sub (m' := (fun (x : Int) => [(0, .pointer (some ad2)), (1, .int .i64 tests4), (5, .int .i64 x)]) 0) ⟨rfl, rfl, rfl, trivial⟩ ?_
    refine WJ.loop (X := Int) (fun N (x : Int) => s_l23One_l1 k5 d1 N x = some r) (fun (x : Int) => [(0, .pointer (some ad2)), (1, .int .i64 tests4), (5, .int .i64 x)]) (fun (x : Int) => []) ?_ N 0 hm
    · rintro N i7 hI
      have hm := hI; clear hI
      cases N with
      | zero => cases hm
      | succ N =>
      unfold s_l23One_l1 at hm
      refine WJ.seq ?_
      refine WJ.seq ?_
      refine WJ.quiet ?_
      refine QJ.step (y_move rfl) rfl ?_
      refine QJ.step (y_move rfl) rfl ?_
      refine QJ.step (y_nil rfl) rfl ?_
      refine QJ.step (y_fld (ad := ad2) fld69_2 rfl) rfl ?_
      refine QJ.step (y_load1 (v := str d1.signs) Try.isAgg9 (ha3.sub 2 1) St.frozenC rfl) rfl ?_
      refine QJ.step (y_lenStr Try.runUnderlying9 rfl) rfl ?_
      refine QJ.step (y_bin rfl rfl rfl) rfl ?_
      refine QJ.done ?_
      refine PJ.next ?_
      refine WJ.cond (t := decide (i7 < (List.length d1.signs : Int))) rfl (fun hb8 => ?_) (fun hb8 => ?_)
      · replace hm := ifT hm hb8
        refine WJ.skip ?_
        refine PJ.next ?_
        refine WJ.seq ?_
        refine WJ.block ?_
        refine WJ.seq ?_
        refine WJ.quiet ?_
        refine QJ.step (y_move rfl) rfl ?_
        refine QJ.step (y_nil rfl) rfl ?_
        refine QJ.step (y_fld (ad := ad2) fld69_2 rfl) rfl ?_
        refine QJ.step (y_load1 (v := str d1.signs) Try.isAgg9 (ha3.sub 2 1) St.frozenC rfl) rfl ?_
        refine QJ.step (y_move rfl) rfl ?_
        obtain ⟨c9, h10, hm⟩ := bindS hm
        refine QJ.step (y_idxStr Try.runUnderlying9 rfl rfl h10) rfl ?_
        refine QJ.step (y_bin8 c9 (48 : UInt8) rfl rfl rfl) rfl ?_
        refine QJ.step (y_move rfl) rfl ?_
        obtain ⟨t11, h12, hm⟩ := bindS hm
        refine QJ.cut 8 [(0, .pointer (some ad2)), (1, .int .i64 tests4), (5, .int .i64 i7), (30, .bool t11)] ?_ ?_
        · rcases Bool.eq_false_or_eq_true (c9 != (48 : UInt8)) with hb13 | hb13
          · replace h12 := andT h12 hb13
            refine QJ.on rfl rfl (cB hb13) (y_move rfl) rfl ?_
            refine QJ.on rfl rfl (cB hb13) (y_nil rfl) rfl ?_
            refine QJ.on rfl rfl (cB hb13) (y_fld (ad := ad2) fld69_2 rfl) rfl ?_
            refine QJ.on rfl rfl (cB hb13) (y_load1 (v := str d1.signs) Try.isAgg9 (ha3.sub 2 1) St.frozenC rfl) rfl ?_
            refine QJ.on rfl rfl (cB hb13) (y_move rfl) rfl ?_
            obtain ⟨c14, h15, h12⟩ := bindS h12
            refine QJ.on rfl rfl (cB hb13) (y_idxStr Try.runUnderlying9 rfl rfl h15) rfl ?_
            refine QJ.on rfl rfl (cB hb13) (y_bin8 c14 (49 : UInt8) rfl rfl rfl) rfl ?_
            refine QJ.step (y_pick_t (cB hb13) rfl) rfl ?_
            obtain rfl := Option.some.inj h12
            exact QJ.cut_end ⟨rfl, rfl, rfl, rfl, trivial⟩
          · obtain rfl := andF h12 hb13
            refine QJ.off rfl rfl (cB hb13) rfl rfl ?_
            refine QJ.off rfl rfl (cB hb13) rfl rfl ?_
            refine QJ.off rfl rfl (cB hb13) rfl rfl ?_
            refine QJ.off rfl rfl (cB hb13) rfl rfl ?_
            refine QJ.off rfl rfl (cB hb13) rfl rfl ?_
            refine QJ.off rfl rfl (cB hb13) rfl rfl ?_
            refine QJ.off rfl rfl (cB hb13) rfl rfl ?_
            refine QJ.step (y_pick_f (cB hb13) rfl) rfl ?_
            exact QJ.cut_end ⟨rfl, rfl, rfl, rfl, trivial⟩
        refine QJ.done ?_
        refine PJ.next ?_
        refine WJ.cond (t := t11) rfl (fun hb16 => ?_) (fun hb16 => ?_)
        · replace hm := ifT hm hb16
          refine WJ.seq ?_
          refine WJ.quiet ?_
          refine QJ.step (y_assign rfl) rfl ?_
          refine QJ.done ?_
          refine PJ.next ?_
          refine WJ.ret ?_
          refine PJ.block_ret (PJ.then_ret (PJ.then_ret (PJ.block_ret (PJ.then_ret ?_))))
          obtain rfl := Option.some.inj hm
          refine PJ.sel (L' := []) [] ⟨List.nodup_nil, rfl⟩ ?_
          exact PJ.retn (vs := [.bool false]) Try.results60 ⟨rfl, trivial⟩ ⟨rfl, rfl⟩
        · replace hm := ifF hm hb16
          refine WJ.skip ?_
          refine PJ.block_normal (PJ.next ?_)
          refine WJ.quiet ?_
          refine QJ.step (y_move rfl) rfl ?_
          refine QJ.step (y_bin rfl rfl rfl) rfl ?_
          refine QJ.step (y_assign rfl) rfl ?_
          refine QJ.done ?_
          exact PJ.round (w64 (i7 + 1)) [] hm ⟨rfl, rfl, rfl, trivial⟩ ⟨List.nodup_nil, rfl⟩
      · replace hm := ifF hm hb8
        refine WJ.exit ?_
        refine PJ.then_exit (PJ.then_exit (PJ.block_exit ?_))
        exact PJ.joined () [] hm ⟨rfl, rfl, trivial⟩ ⟨List.nodup_nil, rfl⟩
  · rintro _ hm
    subst hk6
    refine WJ.seq ?_
    refine WJ.quiet ?_
    refine QJ.step (y_move rfl) rfl ?_
    refine QJ.step (y_nil rfl) rfl ?_
    refine QJ.step (y_fld (ad := ad2) fld69_0 rfl) rfl ?_
    refine QJ.step (y_load1 (v := str d1.name) Try.isAgg9 (ha3.sub 0 1) St.frozenC rfl) rfl ?_
    obtain ⟨r17, h18, hm⟩ := bindS hm
    refine QJ.step (y_call Try.call67 rfl (RetG.quiet fun w hw => ok_s_IsName h18 w )) rfl ?_
    refine QJ.step (y_move rfl) rfl ?_
    obtain ⟨t19, h20, hm⟩ := bindS hm
    refine QJ.cut 6 [(0, .pointer (some ad2)), (1, .int .i64 tests4), (42, .bool t19)] ?_ ?_
    · rcases Bool.eq_false_or_eq_true r17 with hb21 | hb21
      · replace h20 := andT h20 hb21
        refine QJ.on rfl rfl (cB hb21) (y_move rfl) rfl ?_
        refine QJ.on rfl rfl (cB hb21) (y_nil rfl) rfl ?_
        refine QJ.on rfl rfl (cB hb21) (y_fld (ad := ad2) fld69_1 rfl) rfl ?_
        refine QJ.on rfl rfl (cB hb21) (y_load1 (v := .int .i64 d1.weight) Try.isAgg2 (ha3.sub 1 1) St.frozenC rfl) rfl ?_
        obtain ⟨r22, h23, h20⟩ := bindS h20
        refine QJ.on rfl rfl (cB hb21) (y_call Try.call38 rfl (RetG.quiet fun w hw => ok_s_l00In h23 w )) rfl ?_
        refine QJ.step (y_pick_t (cB hb21) rfl) rfl ?_
        obtain rfl := Option.some.inj h20
        exact QJ.cut_end ⟨rfl, rfl, rfl, trivial⟩
      · obtain rfl := andF h20 hb21
        refine QJ.off rfl rfl (cB hb21) rfl rfl ?_
        refine QJ.off rfl rfl (cB hb21) rfl rfl ?_
        refine QJ.off rfl rfl (cB hb21) rfl rfl ?_
        refine QJ.off rfl rfl (cB hb21) rfl rfl ?_
        refine QJ.off rfl rfl (cB hb21) rfl rfl ?_
        refine QJ.step (y_pick_f (cB hb21) rfl) rfl ?_
        exact QJ.cut_end ⟨rfl, rfl, rfl, trivial⟩
    refine QJ.step (y_move rfl) rfl ?_
    obtain ⟨t24, h25, hm⟩ := bindS hm
    refine QJ.cut 8 [(51, .bool t24)] ?_ ?_
    · rcases Bool.eq_false_or_eq_true t19 with hb26 | hb26
      · replace h25 := andT h25 hb26
        refine QJ.on rfl rfl (cB hb26) (y_move rfl) rfl ?_
        refine QJ.on rfl rfl (cB hb26) (y_nil rfl) rfl ?_
        refine QJ.on rfl rfl (cB hb26) (y_fld (ad := ad2) fld69_2 rfl) rfl ?_
        refine QJ.on rfl rfl (cB hb26) (y_load1 (v := str d1.signs) Try.isAgg9 (ha3.sub 2 1) St.frozenC rfl) rfl ?_
        refine QJ.on rfl rfl (cB hb26) (y_lenStr Try.runUnderlying9 rfl) rfl ?_
        refine QJ.on rfl rfl (cB hb26) (y_move rfl) rfl ?_
        refine QJ.on rfl rfl (cB hb26) (y_bin rfl rfl rfl) rfl ?_
        refine QJ.step (y_pick_t (cB hb26) rfl) rfl ?_
        obtain rfl := Option.some.inj h25
        exact QJ.cut_end ⟨rfl, trivial⟩
      · obtain rfl := andF h25 hb26
        refine QJ.off rfl rfl (cB hb26) rfl rfl ?_
        refine QJ.off rfl rfl (cB hb26) rfl rfl ?_
        refine QJ.off rfl rfl (cB hb26) rfl rfl ?_
        refine QJ.off rfl rfl (cB hb26) rfl rfl ?_
        refine QJ.off rfl rfl (cB hb26) rfl rfl ?_
        refine QJ.off rfl rfl (cB hb26) rfl rfl ?_
        refine QJ.off rfl rfl (cB hb26) rfl rfl ?_
        refine QJ.step (y_pick_f (cB hb26) rfl) rfl ?_
        exact QJ.cut_end ⟨rfl, trivial⟩
    refine QJ.step (y_assign rfl) rfl ?_
    refine QJ.done ?_
    refine PJ.next ?_
    refine WJ.ret ?_
    obtain rfl := Option.some.inj hm
    refine PJ.sel (L' := []) [] ⟨List.nodup_nil, rfl⟩ ?_
    exact PJ.retn (vs := [.bool t24]) Try.results60 ⟨rfl, trivial⟩ ⟨rfl, rfl⟩

set_option maxRecDepth 100000 in
set_option maxHeartbeats 1000000 in
theorem ok_s_l23Ok {N : Nat} {list1 : List Defect} {prices4 : List Int} {r : Bool} (hm : s_l23Ok N list1 prices4 = some r) (w : World) (v2 : Value) (hr3 : RdS w (cx w).Fz v2 fDefect.rp list1) (v5 : Value) (hr6 : RdS w (cx w).Fz v5 fI64.rp prices4) :
    Calls Try.prog 44 #[v2, v5] w (Ret (cx w) (.bool r)) := by
  unfold s_l23Ok at hm
  refine Calls.enter [v2, v5] Try.func44 rfl Try.ntmps44 rfl ?_
  refine WJ.seq ?_
  refine WJ.quiet ?_
  refine QJ.step (y_assign rfl) rfl ?_
  refine QJ.done ?_
  refine PJ.next ?_
  obtain ⟨k7, hk8, hm⟩ := withK_open hm
  refine WJ.join (X := Unit) (fun (_ : Unit) => k7  = some r) (fun (_ : Unit) => [(0, v2), (1, v5)]) (fun (_ : Unit) => []) ?_ ?_
  · clear hk8
    refine WJ.seq ?_
    refine WJ.quiet ?_
    refine QJ.step (y_assign rfl) rfl ?_
    refine QJ.done ?_
    refine PJ.next ?_
    refine WJ.block ?_
    refine WJ.sel (L' := (fun (x : Int) => []) 0) [] ⟨List.nodup_nil, rfl⟩ ?_
    refine WJ.sub (m' := (fun (x : Int) => [(0, v2), (1, v5), (5, .int .i64 x)]) 0) ⟨rfl, rfl, rfl, trivial⟩ ?_
    refine WJ.loop (X := Int) (fun N (x : Int) => s_l23Ok_l1 k7 prices4 N x = some r) (fun (x : Int) => [(0, v2), (1, v5), (5, .int .i64 x)]) (fun (x : Int) => []) ?_ N 0 hm
    · rintro N i9 hI
      have hm := hI; clear hI
      cases N with
      | zero => cases hm
      | succ N =>
      unfold s_l23Ok_l1 at hm
      refine WJ.seq ?_
      refine WJ.seq ?_
      refine WJ.quiet ?_
      refine QJ.step (y_move rfl) rfl ?_
      refine QJ.step (y_move rfl) rfl ?_
      refine QJ.step (y_lenS Try.runUnderlying32 hr6 rfl) rfl ?_
      refine QJ.step (y_bin rfl rfl rfl) rfl ?_
      refine QJ.done ?_
      refine PJ.next ?_
      refine WJ.cond (t := decide (i9 < (List.length prices4 : Int))) rfl (fun hb10 => ?_) (fun hb10 => ?_)
      · replace hm := ifT hm hb10
        refine WJ.skip ?_
        refine PJ.next ?_
        refine WJ.seq ?_
        refine WJ.block ?_
        refine WJ.seq ?_
        refine WJ.quiet ?_
        refine QJ.step (y_move rfl) rfl ?_
        refine QJ.step (y_move rfl) rfl ?_
        obtain ⟨e11, h12, hm⟩ := bindS hm
        obtain ⟨ad13, _, rfl, ha14, hy15⟩ := hr6.elem h12
        refine QJ.step (hy15 Try.runUnderlying32 Try.sizeOf2 rfl rfl) rfl ?_
        refine QJ.step (y_load1 (v := .int .i64 e11) Try.isAgg2 ha14 St.frozenC rfl) rfl ?_
        obtain ⟨r16, h17, hm⟩ := bindS hm
        refine QJ.step (y_call Try.call38 rfl (RetG.quiet fun w hw => ok_s_l00In h17 w )) rfl ?_
        refine QJ.step (y_not rfl) rfl ?_
        refine QJ.done ?_
        refine PJ.next ?_
        refine WJ.cond (t := !r16) rfl (fun hb18 => ?_) (fun hb18 => ?_)
        · replace hm := ifT hm hb18
          refine WJ.seq ?_
          refine WJ.quiet ?_
          refine QJ.step (y_assign rfl) rfl ?_
          refine QJ.done ?_
          refine PJ.next ?_
          refine WJ.ret ?_
          refine PJ.block_ret (PJ.then_ret (PJ.then_ret (PJ.block_ret (PJ.then_ret ?_))))
          obtain rfl := Option.some.inj hm
          refine PJ.sel (L' := []) [] ⟨List.nodup_nil, rfl⟩ ?_
          exact PJ.retn (vs := [.bool false]) Try.results44 ⟨rfl, trivial⟩ ⟨rfl, rfl⟩
        · replace hm := ifF hm hb18
          refine WJ.skip ?_
          refine PJ.block_normal (PJ.next ?_)
          refine WJ.quiet ?_
          refine QJ.step (y_move rfl) rfl ?_
          refine QJ.step (y_bin rfl rfl rfl) rfl ?_
          refine QJ.step (y_assign rfl) rfl ?_
          refine QJ.done ?_
          exact PJ.round (w64 (i9 + 1)) [] hm ⟨rfl, rfl, rfl, trivial⟩ ⟨List.nodup_nil, rfl⟩
      · replace hm := ifF hm hb10
        refine WJ.exit ?_
        refine PJ.then_exit (PJ.then_exit (PJ.block_exit ?_))
        exact PJ.joined () [] hm ⟨rfl, rfl, trivial⟩ ⟨List.nodup_nil, rfl⟩
  · rintro _ hm
    subst hk8
    obtain ⟨k19, hk20, hm⟩ := withK_open hm
    refine WJ.join (X := Unit) (fun (_ : Unit) => k19  = some r) (fun (_ : Unit) => [(0, v2), (1, v5)]) (fun (_ : Unit) => []) ?_ ?_
    · clear hk20
      refine WJ.seq ?_
      refine WJ.quiet ?_
      refine QJ.step (y_assign rfl) rfl ?_
      refine QJ.done ?_
      refine PJ.next ?_
      refine WJ.block ?_
      refine WJ.sel (L' := (fun (x : Int) => []) 0) [] ⟨List.nodup_nil, rfl⟩ ?_
      refine WJ.sub (m' := (fun (x : Int) => [(0, v2), (1, v5), (6, .int .i64 x)]) 0) ⟨rfl, rfl, rfl, trivial⟩ ?_
      refine WJ.loop (X := Int) (fun N (x : Int) => s_l23Ok_l2 k19 list1 prices4 N x = some r) (fun (x : Int) => [(0, v2), (1, v5), (6, .int .i64 x)]) (fun (x : Int) => []) ?_ N 0 hm
      · rintro N i21 hI
        have hm := hI; clear hI
        cases N with
        | zero => cases hm
        | succ N =>
        unfold s_l23Ok_l2 at hm
        refine WJ.seq ?_
        refine WJ.seq ?_
        refine WJ.quiet ?_
        refine QJ.step (y_move rfl) rfl ?_
        refine QJ.step (y_move rfl) rfl ?_
        refine QJ.step (y_lenS Try.runUnderlying36 hr3 rfl) rfl ?_
        refine QJ.step (y_bin rfl rfl rfl) rfl ?_
        refine QJ.done ?_
        refine PJ.next ?_
        refine WJ.cond (t := decide (i21 < (List.length list1 : Int))) rfl (fun hb22 => ?_) (fun hb22 => ?_)
        · replace hm := ifT hm hb22
          refine WJ.skip ?_
          refine PJ.next ?_
          obtain ⟨k24, hk24, hm⟩ := withK_open hm
          refine WJ.join (X := Unit) (fun (_ : Unit) => k24  = some r) (fun (_ : Unit) => [(0, v2), (1, v5), (6, .int .i64 i21)]) (fun (_ : Unit) => []) ?_ ?_
          · clear hk24
            refine WJ.block ?_
            refine WJ.seq ?_
            refine WJ.seq ?_
            refine WJ.quiet ?_
            refine QJ.step (y_move rfl) rfl ?_
            refine QJ.step (y_move rfl) rfl ?_
            obtain ⟨e25, h26, hm⟩ := bindS hm
            obtain ⟨ad27, _, rfl, ha28, hy29⟩ := hr3.elem h26
            refine QJ.step (hy29 Try.runUnderlying36 Try.sizeOf69 rfl rfl) rfl ?_
            refine QJ.step (y_move rfl) rfl ?_
            refine QJ.step (y_lenS Try.runUnderlying32 hr6 rfl) rfl ?_
            obtain ⟨r30, h31, hm⟩ := bindS hm
            refine QJ.step (y_call Try.call60 rfl (RetG.quiet fun w hw => ok_s_l23One h31 w _ (ha28.st hw))) rfl ?_
            refine QJ.step (y_not rfl) rfl ?_
            refine QJ.done ?_
            refine PJ.next ?_
            refine WJ.cond (t := !r30) rfl (fun hb32 => ?_) (fun hb32 => ?_)
            · replace hm := ifT hm hb32
              refine WJ.seq ?_
              refine WJ.quiet ?_
              refine QJ.step (y_assign rfl) rfl ?_
              refine QJ.done ?_
              refine PJ.next ?_
              refine WJ.ret ?_
              refine PJ.then_ret (PJ.block_ret (PJ.then_ret (PJ.then_ret (PJ.block_ret (PJ.then_ret ?_)))))
              obtain rfl := Option.some.inj hm
              refine PJ.sel (L' := []) [] ⟨List.nodup_nil, rfl⟩ ?_
              exact PJ.retn (vs := [.bool false]) Try.results44 ⟨rfl, trivial⟩ ⟨rfl, rfl⟩
            · replace hm := ifF hm hb32
              refine WJ.skip ?_
              refine PJ.next ?_
              refine WJ.seq ?_
              refine WJ.quiet ?_
              refine QJ.step (y_assign rfl) rfl ?_
              refine QJ.done ?_
              refine PJ.next ?_
              refine WJ.block ?_
              refine WJ.sel (L' := (fun (x : Int) => []) 0) [] ⟨List.nodup_nil, rfl⟩ ?_
              refine WJ.sub (m' := (fun (x : Int) => [(0, v2), (1, v5), (6, .int .i64 i21), (7, .int .i64 x)]) 0) ⟨rfl, rfl, rfl, rfl, trivial⟩ ?_
              refine WJ.loop (X := Int) (fun N (x : Int) => s_l23Ok_l3 k24 list1 i21 N x = some r) (fun (x : Int) => [(0, v2), (1, v5), (6, .int .i64 i21), (7, .int .i64 x)]) (fun (x : Int) => []) ?_ N 0 hm
              · rintro N k33 hI
                have hm := hI; clear hI
                cases N with
                | zero => cases hm
                | succ N =>
                unfold s_l23Ok_l3 at hm
                refine WJ.seq ?_
                refine WJ.seq ?_
                refine WJ.quiet ?_
                refine QJ.step (y_move rfl) rfl ?_
                refine QJ.step (y_move rfl) rfl ?_
                refine QJ.step (y_bin rfl rfl rfl) rfl ?_
                refine QJ.done ?_
                refine PJ.next ?_
                refine WJ.cond (t := decide (k33 < i21)) rfl (fun hb34 => ?_) (fun hb34 => ?_)
                · replace hm := ifT hm hb34
                  refine WJ.skip ?_
                  refine PJ.next ?_
                  refine WJ.seq ?_
                  refine WJ.block ?_
                  refine WJ.seq ?_
                  refine WJ.quiet_draw follows (by kernel_rfl) ?_
                  refine QJ.step (y_move rfl) rfl ?_
                  refine QJ.step (y_move rfl) rfl ?_
                  obtain ⟨e35, h36, hm⟩ := bindS hm
                  obtain ⟨ad37, _, rfl, ha38, hy39⟩ := hr3.elem h36
                  refine QJ.step (hy39 Try.runUnderlying36 Try.sizeOf69 rfl rfl) rfl ?_
                  refine QJ.step (y_fld (ad := ad37) fld69_0 rfl) rfl ?_
                  refine QJ.step (y_load1 (v := str e35.name) Try.isAgg9 (ha38.sub 0 1) St.frozenC rfl) rfl ?_
                  refine QJ.step (y_move rfl) rfl ?_
                  refine QJ.step (y_move rfl) rfl ?_
                  obtain ⟨e40, h41, hm⟩ := bindS hm
                  obtain ⟨ad42, _, rfl, ha43, hy44⟩ := hr3.elem h41
                  refine QJ.step (hy44 Try.runUnderlying36 Try.sizeOf69 rfl rfl) rfl ?_
                  refine QJ.step (y_fld (ad := ad42) fld69_0 rfl) rfl ?_
                  refine QJ.step (y_load1 (v := str e40.name) Try.isAgg9 (ha43.sub 0 1) St.frozenC rfl) rfl ?_
                  refine QJ.step (y_binS rfl rfl rfl) rfl ?_
                  refine QJ.done ?_
                  refine PJ.next ?_
                  refine WJ.cond (t := (e35.name == e40.name)) rfl (fun hb45 => ?_) (fun hb45 => ?_)
                  · replace hm := ifT hm hb45
                    refine WJ.seq ?_
                    refine WJ.quiet ?_
                    refine QJ.step (y_assign rfl) rfl ?_
                    refine QJ.done ?_
                    refine PJ.next ?_
                    refine WJ.ret ?_
                    refine PJ.block_ret (PJ.then_ret (PJ.then_ret (PJ.block_ret (PJ.block_ret (PJ.then_ret (PJ.then_ret (PJ.block_ret (PJ.then_ret ?_))))))))
                    obtain rfl := Option.some.inj hm
                    refine PJ.sel (L' := []) [] ⟨List.nodup_nil, rfl⟩ ?_
                    exact PJ.retn (vs := [.bool false]) Try.results44 ⟨rfl, trivial⟩ ⟨rfl, rfl⟩
                  · replace hm := ifF hm hb45
                    refine WJ.skip ?_
                    refine PJ.block_normal (PJ.next ?_)
                    refine WJ.quiet ?_
                    refine QJ.step (y_move rfl) rfl ?_
                    refine QJ.step (y_bin rfl rfl rfl) rfl ?_
                    refine QJ.step (y_assign rfl) rfl ?_
                    refine QJ.done ?_
                    exact PJ.round (w64 (k33 + 1)) [] hm ⟨rfl, rfl, rfl, rfl, trivial⟩ ⟨List.nodup_nil, rfl⟩
                · replace hm := ifF hm hb34
                  refine WJ.exit ?_
                  refine PJ.then_exit (PJ.then_exit (PJ.block_exit (PJ.block_normal ?_)))
                  exact PJ.joined () [] hm ⟨rfl, rfl, rfl, trivial⟩ ⟨List.nodup_nil, rfl⟩
          · rintro _ hm
            subst hk24
            refine WJ.quiet ?_
            refine QJ.step (y_move rfl) rfl ?_
            refine QJ.step (y_bin rfl rfl rfl) rfl ?_
            refine QJ.step (y_assign rfl) rfl ?_
            refine QJ.done ?_
            exact PJ.round (w64 (i21 + 1)) [] hm ⟨rfl, rfl, rfl, trivial⟩ ⟨List.nodup_nil, rfl⟩
        · replace hm := ifF hm hb22
          refine WJ.exit ?_
          refine PJ.then_exit (PJ.then_exit (PJ.block_exit ?_))
          exact PJ.joined () [] hm ⟨rfl, rfl, trivial⟩ ⟨List.nodup_nil, rfl⟩
    · rintro _ hm
      subst hk20
      refine WJ.seq ?_
      refine WJ.quiet ?_
      refine QJ.step (y_move rfl) rfl ?_
      refine QJ.step (y_lenS Try.runUnderlying36 hr3 rfl) rfl ?_
      refine QJ.step (y_bin rfl rfl rfl) rfl ?_
      refine QJ.step (y_move rfl) rfl ?_
      obtain ⟨t46, h47, hm⟩ := bindS hm
      refine QJ.cut 4 [(56, .bool t46)] ?_ ?_
      · rcases Bool.eq_false_or_eq_true (decide ((List.length list1 : Int) ≤ 10)) with hb48 | hb48
        · replace h47 := andT h47 hb48
          refine QJ.on rfl rfl (cB hb48) (y_move rfl) rfl ?_
          refine QJ.on rfl rfl (cB hb48) (y_lenS Try.runUnderlying32 hr6 rfl) rfl ?_
          refine QJ.on rfl rfl (cB hb48) (y_bin rfl rfl rfl) rfl ?_
          refine QJ.step (y_pick_t (cB hb48) rfl) rfl ?_
          obtain rfl := Option.some.inj h47
          exact QJ.cut_end ⟨rfl, trivial⟩
        · obtain rfl := andF h47 hb48
          refine QJ.off rfl rfl (cB hb48) rfl rfl ?_
          refine QJ.off rfl rfl (cB hb48) rfl rfl ?_
          refine QJ.off rfl rfl (cB hb48) rfl rfl ?_
          refine QJ.step (y_pick_f (cB hb48) rfl) rfl ?_
          exact QJ.cut_end ⟨rfl, trivial⟩
      refine QJ.step (y_assign rfl) rfl ?_
      refine QJ.done ?_
      refine PJ.next ?_
      refine WJ.ret ?_
      obtain rfl := Option.some.inj hm
      refine PJ.sel (L' := []) [] ⟨List.nodup_nil, rfl⟩ ?_
      exact PJ.retn (vs := [.bool t46]) Try.results44 ⟨rfl, trivial⟩ ⟨rfl, rfl⟩

set_option maxRecDepth 100000 in
set_option maxHeartbeats 1000000 in
theorem ok_s_l05Index {N : Nat} {s1 : Str} {c2 : UInt8} {r : Int} (hm : s_l05Index N s1 c2 = some r) (w : World)  :
    Calls Try.prog 69 #[str s1, .int .u8 (UInt8.toNat c2 : Int)] w (Ret (cx w) (.int .i64 r)) := by
  unfold s_l05Index at hm
  refine Calls.enter [str s1, .int .u8 (UInt8.toNat c2 : Int)] Try.func69 rfl Try.ntmps69 rfl ?_
  refine WJ.seq ?_
  refine WJ.quiet ?_
  refine QJ.step (y_assign rfl) rfl ?_
  refine QJ.done ?_
  refine PJ.next ?_
  obtain ⟨k3, hk4, hm⟩ := withK_open hm
  refine WJ.join (X := Unit) (fun (_ : Unit) => k3  = some r) (fun (_ : Unit) => []) (fun (_ : Unit) => []) ?_ ?_
  · clear hk4
    refine WJ.seq ?_
    refine WJ.quiet ?_
    refine QJ.step (y_assign rfl) rfl ?_
    refine QJ.done ?_
    refine PJ.next ?_
    refine WJ.block ?_
    refine WJ.sel (L' := (fun (x : Int) => []) 0) [] ⟨List.nodup_nil, rfl⟩ ?_
    refine WJ.sub (m' := (fun (x : Int) => [(0, str s1), (1, .int .u8 (UInt8.toNat c2 : Int)), (5, .int .i64 x)]) 0) ⟨rfl, rfl, rfl, trivial⟩ ?_
    refine WJ.loop (X := Int) (fun N (x : Int) => s_l05Index_l1 k3 s1 c2 N x = some r) (fun (x : Int) => [(0, str s1), (1, .int .u8 (UInt8.toNat c2 : Int)), (5, .int .i64 x)]) (fun (x : Int) => []) ?_ N 0 hm
    · rintro N i5 hI
      have hm := hI; clear hI
      cases N with
      | zero => cases hm
      | succ N =>
      unfold s_l05Index_l1 at hm
      refine WJ.seq ?_
      refine WJ.seq ?_
      refine WJ.quiet ?_
      refine QJ.step (y_move rfl) rfl ?_
      refine QJ.step (y_move rfl) rfl ?_
      refine QJ.step (y_lenStr Try.runUnderlying9 rfl) rfl ?_
      refine QJ.step (y_bin rfl rfl rfl) rfl ?_
      refine QJ.done ?_
      refine PJ.next ?_
      refine WJ.cond (t := decide (i5 < (List.length s1 : Int))) rfl (fun hb6 => ?_) (fun hb6 => ?_)
      · replace hm := ifT hm hb6
        refine WJ.skip ?_
        refine PJ.next ?_
        refine WJ.seq ?_
        refine WJ.block ?_
        refine WJ.seq ?_
        refine WJ.quiet ?_
        refine QJ.step (y_move rfl) rfl ?_
        refine QJ.step (y_move rfl) rfl ?_
        obtain ⟨c7, h8, hm⟩ := bindS hm
        refine QJ.step (y_idxStr Try.runUnderlying9 rfl rfl h8) rfl ?_
        refine QJ.step (y_move rfl) rfl ?_
        refine QJ.step (y_bin8 c7 c2 rfl rfl rfl) rfl ?_
        refine QJ.done ?_
        refine PJ.next ?_
        refine WJ.cond (t := (c7 == c2)) rfl (fun hb9 => ?_) (fun hb9 => ?_)
        · replace hm := ifT hm hb9
          refine WJ.seq ?_
          refine WJ.quiet ?_
          refine QJ.step (y_move rfl) rfl ?_
          refine QJ.step (y_assign rfl) rfl ?_
          refine QJ.done ?_
          refine PJ.next ?_
          refine WJ.ret ?_
          refine PJ.block_ret (PJ.then_ret (PJ.then_ret (PJ.block_ret (PJ.then_ret ?_))))
          obtain rfl := Option.some.inj hm
          refine PJ.sel (L' := []) [] ⟨List.nodup_nil, rfl⟩ ?_
          exact PJ.retn (vs := [.int .i64 i5]) Try.results69 ⟨rfl, trivial⟩ ⟨rfl, rfl⟩
        · replace hm := ifF hm hb9
          refine WJ.skip ?_
          refine PJ.block_normal (PJ.next ?_)
          refine WJ.quiet ?_
          refine QJ.step (y_move rfl) rfl ?_
          refine QJ.step (y_bin rfl rfl rfl) rfl ?_
          refine QJ.step (y_assign rfl) rfl ?_
          refine QJ.done ?_
          exact PJ.round (w64 (i5 + 1)) [] hm ⟨rfl, rfl, rfl, trivial⟩ ⟨List.nodup_nil, rfl⟩
      · replace hm := ifF hm hb6
        refine WJ.exit ?_
        refine PJ.then_exit (PJ.then_exit (PJ.block_exit ?_))
        exact PJ.joined () [] hm trivial ⟨List.nodup_nil, rfl⟩
  · rintro _ hm
    subst hk4
    refine WJ.seq ?_
    refine WJ.quiet ?_
    refine QJ.step (y_assign rfl) rfl ?_
    refine QJ.done ?_
    refine PJ.next ?_
    refine WJ.ret ?_
    obtain rfl := Option.some.inj hm
    refine PJ.sel (L' := []) [] ⟨List.nodup_nil, rfl⟩ ?_
    exact PJ.retn (vs := [.int .i64 (-1)]) Try.results69 ⟨rfl, trivial⟩ ⟨rfl, rfl⟩

set_option maxRecDepth 100000 in
set_option maxHeartbeats 1000000 in
theorem ok_s_l23Answers {N : Nat} {answers1 : Str} {tests2 : Int} {r : Bool} (hm : s_l23Answers N answers1 tests2 = some r) (w : World)  :
    Calls Try.prog 65 #[str answers1, .int .i64 tests2] w (Ret (cx w) (.bool r)) := by
  unfold s_l23Answers at hm
  refine Calls.enter [str answers1, .int .i64 tests2] Try.func65 rfl Try.ntmps65 rfl ?_
  refine WJ.seq ?_
  refine WJ.quiet ?_
  refine QJ.step (y_assign rfl) rfl ?_
  refine QJ.done ?_
  refine PJ.next ?_
  obtain ⟨k3, hk4, hm⟩ := withK_open hm
  refine WJ.join (X := Unit) (fun (_ : Unit) => k3  = some r) (fun (_ : Unit) => [(0, str answers1), (1, .int .i64 tests2)]) (fun (_ : Unit) => []) ?_ ?_
  · clear hk4
    refine WJ.seq ?_
    refine WJ.quiet ?_
    refine QJ.step (y_assign rfl) rfl ?_
    refine QJ.done ?_
    refine PJ.next ?_
    refine WJ.block ?_
    refine WJ.sel (L' := (fun (x : Int) => []) 0) [] ⟨List.nodup_nil, rfl⟩ ?_
    refine WJ.sub (m' := (fun (x : Int) => [(0, str answers1), (1, .int .i64 tests2), (5, .int .i64 x)]) 0) ⟨rfl, rfl, rfl, trivial⟩ ?_
    refine WJ.loop (X := Int) (fun N (x : Int) => s_l23Answers_l1 k3 answers1 N x = some r) (fun (x : Int) => [(0, str answers1), (1, .int .i64 tests2), (5, .int .i64 x)]) (fun (x : Int) => []) ?_ N 0 hm
    · rintro N i5 hI
      have hm := hI; clear hI
      cases N with
      | zero => cases hm
      | succ N =>
      unfold s_l23Answers_l1 at hm
      refine WJ.seq ?_
      refine WJ.seq ?_
      refine WJ.quiet ?_
      refine QJ.step (y_move rfl) rfl ?_
      refine QJ.step (y_move rfl) rfl ?_
      refine QJ.step (y_lenStr Try.runUnderlying9 rfl) rfl ?_
      refine QJ.step (y_bin rfl rfl rfl) rfl ?_
      refine QJ.done ?_
      refine PJ.next ?_
      refine WJ.cond (t := decide (i5 < (List.length answers1 : Int))) rfl (fun hb6 => ?_) (fun hb6 => ?_)
      · replace hm := ifT hm hb6
        refine WJ.skip ?_
        refine PJ.next ?_
        refine WJ.seq ?_
        refine WJ.block ?_
        refine WJ.seq ?_
        refine WJ.quiet ?_
        refine QJ.step (y_move rfl) rfl ?_
        refine QJ.step (y_move rfl) rfl ?_
        obtain ⟨c7, h8, hm⟩ := bindS hm
        refine QJ.step (y_idxStr Try.runUnderlying9 rfl rfl h8) rfl ?_
        obtain ⟨r9, h10, hm⟩ := bindS hm
        refine QJ.step (y_call Try.call69 rfl (RetG.quiet fun w hw => ok_s_l05Index h10 w )) rfl ?_
        refine QJ.step (y_bin rfl rfl rfl) rfl ?_
        refine QJ.done ?_
        refine PJ.next ?_
        refine WJ.cond (t := decide (r9 < 0)) rfl (fun hb11 => ?_) (fun hb11 => ?_)
        · replace hm := ifT hm hb11
          refine WJ.seq ?_
          refine WJ.quiet ?_
          refine QJ.step (y_assign rfl) rfl ?_
          refine QJ.done ?_
          refine PJ.next ?_
          refine WJ.ret ?_
          refine PJ.block_ret (PJ.then_ret (PJ.then_ret (PJ.block_ret (PJ.then_ret ?_))))
          obtain rfl := Option.some.inj hm
          refine PJ.sel (L' := []) [] ⟨List.nodup_nil, rfl⟩ ?_
          exact PJ.retn (vs := [.bool false]) Try.results65 ⟨rfl, trivial⟩ ⟨rfl, rfl⟩
        · replace hm := ifF hm hb11
          refine WJ.skip ?_
          refine PJ.block_normal (PJ.next ?_)
          refine WJ.quiet ?_
          refine QJ.step (y_move rfl) rfl ?_
          refine QJ.step (y_bin rfl rfl rfl) rfl ?_
          refine QJ.step (y_assign rfl) rfl ?_
          refine QJ.done ?_
          exact PJ.round (w64 (i5 + 1)) [] hm ⟨rfl, rfl, rfl, trivial⟩ ⟨List.nodup_nil, rfl⟩
      · replace hm := ifF hm hb6
        refine WJ.exit ?_
        refine PJ.then_exit (PJ.then_exit (PJ.block_exit ?_))
        exact PJ.joined () [] hm ⟨rfl, rfl, trivial⟩ ⟨List.nodup_nil, rfl⟩
  · rintro _ hm
    subst hk4
    refine WJ.seq ?_
    refine WJ.quiet ?_
    refine QJ.step (y_move rfl) rfl ?_
    refine QJ.step (y_lenStr Try.runUnderlying9 rfl) rfl ?_
    refine QJ.step (y_move rfl) rfl ?_
    refine QJ.step (y_bin rfl rfl rfl) rfl ?_
    refine QJ.step (y_assign rfl) rfl ?_
    refine QJ.done ?_
    refine PJ.next ?_
    refine WJ.ret ?_
    obtain rfl := Option.some.inj hm
    refine PJ.sel (L' := []) [] ⟨List.nodup_nil, rfl⟩ ?_
    exact PJ.retn (vs := [.bool ((List.length answers1 : Int) == tests2)]) Try.results65 ⟨rfl, trivial⟩ ⟨rfl, rfl⟩

set_option maxRecDepth 100000 in
set_option maxHeartbeats 1000000 in
theorem ok_s_l23Code {N : Nat} {list1 : List Defect} {prices4 : List Int} {answers7 : Str} {r : Int} (hm : s_l23Code N list1 prices4 answers7 = some r) (w : World) (v2 : Value) (hr3 : RdS w (cx w).Fz v2 fDefect.rp list1) (v5 : Value) (hr6 : RdS w (cx w).Fz v5 fI64.rp prices4) :
    Calls Try.prog 55 #[v2, v5, str answers7] w (Ret (cx w) (.int .i64 r)) := by
  unfold s_l23Code at hm
  refine Calls.enter [v2, v5, str answers7] Try.func55 rfl Try.ntmps55 rfl ?_
  refine WJ.seq ?_
  refine WJ.quiet ?_
  refine QJ.step (y_assign rfl) rfl ?_
  refine QJ.done ?_
  refine PJ.next ?_
  refine WJ.seq ?_
  refine WJ.seq ?_
  refine WJ.quiet ?_
  refine QJ.step (y_move rfl) rfl ?_
  refine QJ.step (y_move rfl) rfl ?_
  obtain ⟨r8, h9, hm⟩ := bindS hm
  refine QJ.step (y_call Try.call44 rfl (RetG.quiet fun w hw => ok_s_l23Ok h9 w _ (hr3.st hw) _ (hr6.st hw))) rfl ?_
  refine QJ.step (y_not rfl) rfl ?_
  refine QJ.done ?_
  refine PJ.next ?_
  refine WJ.cond (t := !r8) rfl (fun hb10 => ?_) (fun hb10 => ?_)
  · replace hm := ifT hm hb10
    refine WJ.seq ?_
    refine WJ.quiet ?_
    refine QJ.step (y_assign rfl) rfl ?_
    refine QJ.done ?_
    refine PJ.next ?_
    refine WJ.ret ?_
    refine PJ.then_ret ?_
    obtain rfl := Option.some.inj hm
    refine PJ.sel (L' := []) [] ⟨List.nodup_nil, rfl⟩ ?_
    exact PJ.retn (vs := [.int .i64 1]) Try.results55 ⟨rfl, trivial⟩ ⟨rfl, rfl⟩
  · replace hm := ifF hm hb10
    refine WJ.skip ?_
    refine PJ.next ?_
    refine WJ.seq ?_
    refine WJ.seq ?_
    refine WJ.quiet ?_
    refine QJ.step (y_move rfl) rfl ?_
    refine QJ.step (y_move rfl) rfl ?_
    refine QJ.step (y_lenS Try.runUnderlying32 hr6 rfl) rfl ?_
    obtain ⟨r11, h12, hm⟩ := bindS hm
    refine QJ.step (y_call Try.call65 rfl (RetG.quiet fun w hw => ok_s_l23Answers h12 w )) rfl ?_
    refine QJ.step (y_not rfl) rfl ?_
    refine QJ.done ?_
    refine PJ.next ?_
    refine WJ.cond (t := !r11) rfl (fun hb13 => ?_) (fun hb13 => ?_)
    · replace hm := ifT hm hb13
      refine WJ.seq ?_
      refine WJ.quiet ?_
      refine QJ.step (y_assign rfl) rfl ?_
      refine QJ.done ?_
      refine PJ.next ?_
      refine WJ.ret ?_
      refine PJ.then_ret ?_
      obtain rfl := Option.some.inj hm
      refine PJ.sel (L' := []) [] ⟨List.nodup_nil, rfl⟩ ?_
      exact PJ.retn (vs := [.int .i64 2]) Try.results55 ⟨rfl, trivial⟩ ⟨rfl, rfl⟩
    · replace hm := ifF hm hb13
      refine WJ.skip ?_
      refine PJ.next ?_
      refine WJ.seq ?_
      refine WJ.quiet ?_
      refine QJ.step (y_assign rfl) rfl ?_
      refine QJ.done ?_
      refine PJ.next ?_
      refine WJ.ret ?_
      obtain rfl := Option.some.inj hm
      refine PJ.sel (L' := []) [] ⟨List.nodup_nil, rfl⟩ ?_
      exact PJ.retn (vs := [.int .i64 0]) Try.results55 ⟨rfl, trivial⟩ ⟨rfl, rfl⟩

set_option maxRecDepth 100000 in
set_option maxHeartbeats 1000000 in
theorem ok_s_l23Fit {N : Nat} {list1 : List Defect} {answers4 : Str} {r : (List Int)} (hm : s_l23Fit N list1 answers4 = some r) (w : World) (v2 : Value) (hr3 : RdS w (cx w).Fz v2 fDefect.rp list1) :
    Calls Try.prog 56 #[v2, str answers4] w (RetG (cx w) fun u L => ∃ (u1 : Value), (u = u1 ∧ L = [row u1 2 fI64 r])) := by
  unfold s_l23Fit at hm
  refine Calls.enter [v2, str answers4] Try.func56 rfl Try.ntmps56 rfl ?_
  refine WJ.seq ?_
  refine WJ.quiet ?_
  refine QJ.step (y_assign rfl) rfl ?_
  refine QJ.done ?_
  refine PJ.next ?_
  refine WJ.seq ?_
  refine WJ.reg ?_
  refine SJ.buildSlice (R := fI64) (os := []) [] Try.runUnderlying32 Try.sizeOf2 Try.zeroValue2 rfl rfl rfl rfl rfl rfl fun v5 => ?_
  refine SJ.q (y_assign rfl) rfl ?_
  refine SJ.nil ?_
  refine PJ.next ?_
  obtain ⟨k8, hk9, hm⟩ := withK_open hm
  refine WJ.join (X := (List Int) × Value) (fun (x : (List Int) × Value) => k8 x.1 = some r) (fun (x : (List Int) × Value) => [(5, x.2)]) (fun (x : (List Int) × Value) => [row x.2 2 fI64 x.1]) ?_ ?_
  · clear hk9
    refine WJ.seq ?_
    refine WJ.quiet ?_
    refine QJ.step (y_assign rfl) rfl ?_
    refine QJ.done ?_
    refine PJ.next ?_
    refine WJ.block ?_
    refine WJ.sel (L' := (fun (x : (List Int) × Value × Int) => [row x.2.1 2 fI64 x.1]) ([], v5, 0)) [0] ⟨by decide, rfl⟩ ?_
    refine WJ.sub (m' := (fun (x : (List Int) × Value × Int) => [(0, v2), (1, str answers4), (5, x.2.1), (6, .int .i64 x.2.2)]) ([], v5, 0)) ⟨rfl, rfl, rfl, rfl, trivial⟩ ?_
    refine WJ.loop (X := (List Int) × Value × Int) (fun N (x : (List Int) × Value × Int) => s_l23Fit_l1 k8 list1 answers4 N x.1 x.2.2 = some r) (fun (x : (List Int) × Value × Int) => [(0, v2), (1, str answers4), (5, x.2.1), (6, .int .i64 x.2.2)]) (fun (x : (List Int) × Value × Int) => [row x.2.1 2 fI64 x.1]) ?_ N ([], v5, 0) hm
    · rintro N ⟨l10, v11, i12⟩ hI
      have hm := hI; clear hI
      cases N with
      | zero => cases hm
      | succ N =>
      unfold s_l23Fit_l1 at hm
      refine WJ.seq ?_
      refine WJ.seq ?_
      refine WJ.quiet ?_
      refine QJ.step (y_move rfl) rfl ?_
      refine QJ.step (y_move rfl) rfl ?_
      refine QJ.step (y_lenS Try.runUnderlying36 hr3 rfl) rfl ?_
      refine QJ.step (y_bin rfl rfl rfl) rfl ?_
      refine QJ.done ?_
      refine PJ.next ?_
      refine WJ.cond (t := decide (i12 < (List.length list1 : Int))) rfl (fun hb13 => ?_) (fun hb13 => ?_)
      · replace hm := ifT hm hb13
        refine WJ.skip ?_
        refine PJ.next ?_
        obtain ⟨k17, hk17, hm⟩ := withK_open hm
        refine WJ.join (X := (List Int) × Value) (fun (x : (List Int) × Value) => k17 x.1 = some r) (fun (x : (List Int) × Value) => [(0, v2), (1, str answers4), (5, x.2), (6, .int .i64 i12)]) (fun (x : (List Int) × Value) => [row x.2 2 fI64 x.1]) ?_ ?_
        · clear hk17
          refine WJ.block ?_
          refine WJ.seq ?_
          refine WJ.quiet ?_
          refine QJ.step (y_assign rfl) rfl ?_
          refine QJ.done ?_
          refine PJ.next ?_
          obtain ⟨k21, hk20, hm⟩ := withK_open hm
          refine WJ.join (X := Bool) (fun (x : Bool) => k21 x = some r) (fun (x : Bool) => [(0, v2), (1, str answers4), (5, v11), (6, .int .i64 i12), (7, .bool x)]) (fun (x : Bool) => [row v11 2 fI64 l10]) ?_ ?_
          · clear hk20
            refine WJ.seq ?_
            refine WJ.quiet ?_
            refine QJ.step (y_assign rfl) rfl ?_
            refine QJ.done ?_
            refine PJ.next ?_
            refine WJ.block ?_
            refine WJ.sel (L' := (fun (x : Bool × Int) => [row v11 2 fI64 l10]) (true, 0)) [0] ⟨by decide, rfl⟩ ?_
            refine WJ.sub (m' := (fun (x : Bool × Int) => [(0, v2), (1, str answers4), (5, v11), (6, .int .i64 i12), (7, .bool x.1), (8, .int .i64 x.2)]) (true, 0)) ⟨rfl, rfl, rfl, rfl, rfl, rfl, trivial⟩ ?_
            refine WJ.loop (X := Bool × Int) (fun N (x : Bool × Int) => s_l23Fit_l2 k21 list1 answers4 i12 N x.1 x.2 = some r) (fun (x : Bool × Int) => [(0, v2), (1, str answers4), (5, v11), (6, .int .i64 i12), (7, .bool x.1), (8, .int .i64 x.2)]) (fun (x : Bool × Int) => [row v11 2 fI64 l10]) ?_ N (true, 0) hm
            · rintro N ⟨fits21, k22⟩ hI
              have hm := hI; clear hI
              cases N with
              | zero => cases hm
              | succ N =>
              unfold s_l23Fit_l2 at hm
              refine WJ.seq ?_
              refine WJ.seq ?_
              refine WJ.quiet ?_
              refine QJ.step (y_move rfl) rfl ?_
              refine QJ.step (y_move rfl) rfl ?_
              refine QJ.step (y_lenStr Try.runUnderlying9 rfl) rfl ?_
              refine QJ.step (y_bin rfl rfl rfl) rfl ?_
              refine QJ.done ?_
              refine PJ.next ?_
              refine WJ.cond (t := decide (k22 < (List.length answers4 : Int))) rfl (fun hb23 => ?_) (fun hb23 => ?_)
              · replace hm := ifT hm hb23
                refine WJ.skip ?_
                refine PJ.next ?_
                refine WJ.seq ?_
                refine WJ.block ?_
                refine WJ.quiet_draw follows (by kernel_rfl) ?_
                refine QJ.step (y_move rfl) rfl ?_
                refine QJ.step (y_move rfl) rfl ?_
                obtain ⟨t24, h25, hm⟩ := bindS hm
                refine QJ.cut 18 [(0, v2), (1, str answers4), (5, v11), (6, .int .i64 i12), (8, .int .i64 k22), (41, .bool t24)] ?_ ?_
                · rcases Bool.eq_false_or_eq_true fits21 with hb26 | hb26
                  · replace h25 := andT h25 hb26
                    refine QJ.on rfl rfl (cB hb26) (y_move rfl) rfl ?_
                    refine QJ.on rfl rfl (cB hb26) (y_move rfl) rfl ?_
                    obtain ⟨c27, h28, h25⟩ := bindS h25
                    refine QJ.on rfl rfl (cB hb26) (y_idxStr Try.runUnderlying9 rfl rfl h28) rfl ?_
                    refine QJ.on rfl rfl (cB hb26) (y_bin8 c27 (63 : UInt8) rfl rfl rfl) rfl ?_
                    refine QJ.on rfl rfl (cB hb26) (y_move rfl) rfl ?_
                    obtain ⟨t29, h30, h25⟩ := bindS h25
                    refine QJ.cut 12 [(0, v2), (1, str answers4), (5, v11), (6, .int .i64 i12), (7, .bool fits21), (8, .int .i64 k22), (23, .bool fits21), (24, str answers4), (25, .int .i64 k22), (26, .int .u8 (UInt8.toNat c27 : Int)), (27, .bool (c27 == (63 : UInt8))), (28, .bool (c27 == (63 : UInt8))), (40, .bool t29)] ?_ ?_
                    · rcases Bool.eq_false_or_eq_true (c27 == (63 : UInt8)) with hb31 | hb31
                      · obtain rfl := orT h30 hb31
                        refine QJ.off rfl rfl (cB hb31) rfl rfl ?_
                        refine QJ.off rfl rfl (cB hb31) rfl rfl ?_
                        refine QJ.off rfl rfl (cB hb31) rfl rfl ?_
                        refine QJ.off rfl rfl (cB hb31) rfl rfl ?_
                        refine QJ.off rfl rfl (cB hb31) rfl rfl ?_
                        refine QJ.off rfl rfl (cB hb31) rfl rfl ?_
                        refine QJ.off rfl rfl (cB hb31) rfl rfl ?_
                        refine QJ.off rfl rfl (cB hb31) rfl rfl ?_
                        refine QJ.off rfl rfl (cB hb31) rfl rfl ?_
                        refine QJ.off rfl rfl (cB hb31) rfl rfl ?_
                        refine QJ.off rfl rfl (cB hb31) rfl rfl ?_
                        refine QJ.on rfl rfl (cB hb26) (y_pick_t (cB hb31) rfl) rfl ?_
                        exact QJ.cut_end ⟨rfl, rfl, rfl, rfl, rfl, rfl, rfl, rfl, rfl, rfl, rfl, rfl, rfl, trivial⟩
                      · replace h30 := orF h30 hb31
                        refine QJ.on rfl rfl (cB hb31) (y_move rfl) rfl ?_
                        refine QJ.on rfl rfl (cB hb31) (y_move rfl) rfl ?_
                        obtain ⟨c32, h33, h30⟩ := bindS h30
                        refine QJ.on rfl rfl (cB hb31) (y_idxStr Try.runUnderlying9 rfl rfl h33) rfl ?_
                        refine QJ.on rfl rfl (cB hb31) (y_move rfl) rfl ?_
                        refine QJ.on rfl rfl (cB hb31) (y_move rfl) rfl ?_
                        obtain ⟨e34, h35, h30⟩ := bindS h30
                        obtain ⟨ad36, _, rfl, ha37, hy38⟩ := hr3.elem h35
                        refine QJ.on rfl rfl (cB hb31) (hy38 Try.runUnderlying36 Try.sizeOf69 rfl rfl) rfl ?_
                        refine QJ.on rfl rfl (cB hb31) (y_fld (ad := ad36) fld69_2 rfl) rfl ?_
                        refine QJ.on rfl rfl (cB hb31) (y_load1 (v := str e34.signs) Try.isAgg9 (ha37.sub 2 1) St.frozenC rfl) rfl ?_
                        refine QJ.on rfl rfl (cB hb31) (y_move rfl) rfl ?_
                        obtain ⟨c39, h40, h30⟩ := bindS h30
                        refine QJ.on rfl rfl (cB hb31) (y_idxStr Try.runUnderlying9 rfl rfl h40) rfl ?_
                        refine QJ.on rfl rfl (cB hb31) (y_bin8 c32 c39 rfl rfl rfl) rfl ?_
                        refine QJ.on rfl rfl (cB hb26) (y_pick_f (cB hb31) rfl) rfl ?_
                        obtain rfl := Option.some.inj h30
                        exact QJ.cut_end ⟨rfl, rfl, rfl, rfl, rfl, rfl, rfl, rfl, rfl, rfl, rfl, rfl, rfl, trivial⟩
                    refine QJ.step (y_pick_t (cB hb26) rfl) rfl ?_
                    obtain rfl := Option.some.inj h25
                    exact QJ.cut_end ⟨rfl, rfl, rfl, rfl, rfl, rfl, trivial⟩
                  · obtain rfl := andF h25 hb26
                    refine QJ.off rfl rfl (cB hb26) rfl rfl ?_
                    refine QJ.off rfl rfl (cB hb26) rfl rfl ?_
                    refine QJ.off rfl rfl (cB hb26) rfl rfl ?_
                    refine QJ.off rfl rfl (cB hb26) rfl rfl ?_
                    refine QJ.off rfl rfl (cB hb26) rfl rfl ?_
                    refine QJ.off_undef rfl rfl rfl rfl ?_
                    refine QJ.off_undef rfl rfl rfl rfl ?_
                    refine QJ.off_undef rfl rfl rfl rfl ?_
                    refine QJ.off_undef rfl rfl rfl rfl ?_
                    refine QJ.off_undef rfl rfl rfl rfl ?_
                    refine QJ.off_undef rfl rfl rfl rfl ?_
                    refine QJ.off_undef rfl rfl rfl rfl ?_
                    refine QJ.off_undef rfl rfl rfl rfl ?_
                    refine QJ.off_undef rfl rfl rfl rfl ?_
                    refine QJ.off_undef rfl rfl rfl rfl ?_
                    refine QJ.off_undef rfl rfl rfl rfl ?_
                    refine QJ.off rfl rfl (cB hb26) rfl rfl ?_
                    refine QJ.step (y_pick_f (cB hb26) rfl) rfl ?_
                    exact QJ.cut_end ⟨rfl, rfl, rfl, rfl, rfl, rfl, trivial⟩
                refine QJ.step (y_assign rfl) rfl ?_
                refine QJ.done ?_
                refine PJ.block_normal (PJ.next ?_)
                refine WJ.quiet ?_
                refine QJ.step (y_move rfl) rfl ?_
                refine QJ.step (y_bin rfl rfl rfl) rfl ?_
                refine QJ.step (y_assign rfl) rfl ?_
                refine QJ.done ?_
                exact PJ.round (t24, w64 (k22 + 1)) [0] hm ⟨rfl, rfl, rfl, rfl, rfl, rfl, trivial⟩ ⟨by decide, rfl⟩
              · replace hm := ifF hm hb23
                refine WJ.exit ?_
                refine PJ.then_exit (PJ.then_exit (PJ.block_exit ?_))
                exact PJ.joined fits21 [0] hm ⟨rfl, rfl, rfl, rfl, rfl, trivial⟩ ⟨by decide, rfl⟩
          · rintro fits18 hm
            subst hk20
            refine WJ.seq ?_
            refine WJ.quiet ?_
            refine QJ.step (y_move rfl) rfl ?_
            refine QJ.done ?_
            refine PJ.next ?_
            refine WJ.cond (t := fits18) rfl (fun hb41 => ?_) (fun hb41 => ?_)
            · replace hm := ifT hm hb41
              refine WJ.reg ?_
              refine SJ.q (y_move rfl) rfl ?_
              refine SJ.q (y_move rfl) rfl ?_
              refine SJ.buildSlice (R := fI64) (os := [.tmp 44]) [i12] Try.runUnderlying32 Try.sizeOf2 Try.zeroValue2 rfl rfl rfl rfl rfl rfl fun v42 => ?_
              obtain ⟨l43, h44, hm⟩ := bindS hm
              refine SJ.append (k := 1) (R := fI64) h44 rfl Try.underlying32 el2 rfl rfl rfl (fun w hw => (hw.row_rd (k := 0) rfl)) rfl fun v45 => ?_
              refine SJ.q (y_assign rfl) rfl ?_
              refine SJ.nil ?_
              refine PJ.block_normal ?_
              exact PJ.joined (l43, v45) [1] hm ⟨rfl, rfl, rfl, rfl, trivial⟩ ⟨by decide, rfl⟩
            · replace hm := ifF hm hb41
              refine WJ.skip ?_
              refine PJ.block_normal ?_
              exact PJ.joined (l10, v11) [0] hm ⟨rfl, rfl, rfl, rfl, trivial⟩ ⟨by decide, rfl⟩
        · rintro ⟨l14, v15⟩ hm
          subst hk17
          refine WJ.quiet ?_
          refine QJ.step (y_move rfl) rfl ?_
          refine QJ.step (y_bin rfl rfl rfl) rfl ?_
          refine QJ.step (y_assign rfl) rfl ?_
          refine QJ.done ?_
          exact PJ.round (l14, v15, w64 (i12 + 1)) [0] hm ⟨rfl, rfl, rfl, rfl, trivial⟩ ⟨by decide, rfl⟩
      · replace hm := ifF hm hb13
        refine WJ.exit ?_
        refine PJ.then_exit (PJ.then_exit (PJ.block_exit ?_))
        exact PJ.joined (l10, v11) [0] hm ⟨rfl, trivial⟩ ⟨by decide, rfl⟩
  · rintro ⟨l6, v7⟩ hm
    subst hk9
    refine WJ.seq ?_
    refine WJ.quiet ?_
    refine QJ.step (y_move rfl) rfl ?_
    refine QJ.step (y_assign rfl) rfl ?_
    refine QJ.done ?_
    refine PJ.next ?_
    refine WJ.ret ?_
    obtain rfl := Option.some.inj hm
    refine PJ.sel (L' := [row v7 2 fI64 l6]) [0] ⟨by decide, rfl⟩ ?_
    exact PJ.retn (vs := [v7]) Try.results56 ⟨rfl, trivial⟩ ⟨_, rfl, rfl⟩

set_option maxRecDepth 100000 in
set_option maxHeartbeats 1000000 in
theorem ok_s_PossibleDefects {N : Nat} {list1 : List Defect} {prices4 : List Int} {answers7 : Str} {r : (List Int) × Int} (hm : s_PossibleDefects N list1 prices4 answers7 = some r) (w : World) (v2 : Value) (hr3 : RdS w (cx w).Fz v2 fDefect.rp list1) (v5 : Value) (hr6 : RdS w (cx w).Fz v5 fI64.rp prices4) :
    Calls Try.prog 33 #[v2, v5, str answers7] w (RetG (cx w) fun u L => ∃ (u1 : Value), (u = tup [u1, .int .i64 r.2] ∧ L = [row u1 2 fI64 r.1])) := by
  unfold s_PossibleDefects at hm
  refine Calls.enter [v2, v5, str answers7] Try.func33 rfl Try.ntmps33 rfl ?_
  refine WJ.seq ?_
  refine WJ.quiet ?_
  refine QJ.step (y_assign rfl) rfl ?_
  refine QJ.step (y_assign rfl) rfl ?_
  refine QJ.done ?_
  refine PJ.next ?_
  refine WJ.seq ?_
  refine WJ.quiet ?_
  refine QJ.step (y_move rfl) rfl ?_
  refine QJ.step (y_move rfl) rfl ?_
  refine QJ.step (y_move rfl) rfl ?_
  obtain ⟨r8, h9, hm⟩ := bindS hm
  refine QJ.step (y_call Try.call55 rfl (RetG.quiet fun w hw => ok_s_l23Code h9 w _ (hr3.st hw) _ (hr6.st hw))) rfl ?_
  refine QJ.step (y_assign rfl) rfl ?_
  refine QJ.done ?_
  refine PJ.next ?_
  refine WJ.seq ?_
  refine WJ.seq ?_
  refine WJ.quiet ?_
  refine QJ.step (y_move rfl) rfl ?_
  refine QJ.step (y_bin rfl rfl rfl) rfl ?_
  refine QJ.done ?_
  refine PJ.next ?_
  refine WJ.cond (t := (r8 != 0)) rfl (fun hb10 => ?_) (fun hb10 => ?_)
  · replace hm := ifT hm hb10
    refine WJ.seq ?_
    refine WJ.quiet ?_
    refine QJ.step (y_move rfl) rfl ?_
    refine QJ.step (y_assign rfl) rfl ?_
    refine QJ.step (y_assign rfl) rfl ?_
    refine QJ.done ?_
    refine PJ.next ?_
    refine WJ.ret ?_
    refine PJ.then_ret ?_
    refine PJ.nil_row 2 fI64 ?_
    obtain rfl := Option.some.inj hm
    refine PJ.sel (L' := [row (.slice none 0 0) 2 fI64 []]) [0] ⟨by decide, rfl⟩ ?_
    exact PJ.retn (vs := [(.slice none 0 0), .int .i64 r8]) Try.results33 ⟨rfl, rfl, trivial⟩ ⟨_, rfl, rfl⟩
  · replace hm := ifF hm hb10
    refine WJ.skip ?_
    refine PJ.next ?_
    refine WJ.seq ?_
    refine WJ.reg ?_
    refine SJ.q (y_move rfl) rfl ?_
    refine SJ.q (y_move rfl) rfl ?_
    obtain ⟨r11, h12, hm⟩ := bindS hm
    refine SJ.call Try.call56 rfl (fun w hw => ok_s_l23Fit h12 w _ (hr3.st hw)) rfl ?_
    rintro v13 _ ⟨_, rfl, rfl⟩
    refine SJ.q (y_assign rfl) rfl ?_
    refine SJ.q (y_assign rfl) rfl ?_
    refine SJ.nil ?_
    refine PJ.next ?_
    refine WJ.ret ?_
    obtain rfl := Option.some.inj hm
    refine PJ.sel (L' := [row v13 2 fI64 r11]) [0] ⟨by decide, rfl⟩ ?_
    exact PJ.retn (vs := [v13, .int .i64 0]) Try.results33 ⟨rfl, rfl, trivial⟩ ⟨_, rfl, rfl⟩

set_option maxRecDepth 100000 in
set_option maxHeartbeats 1000000 in
theorem ok_i_between {n1 : Int} {low2 : Int} {high3 : Int} {r : Bool} (hm : i_between n1 low2 high3 = some r) (w : World)  :
    Calls Try.prog 40 #[.int .i64 n1, .int .i64 low2, .int .i64 high3] w (Ret (cx w) (.bool r)) := by
  unfold i_between at hm
  refine Calls.enter [.int .i64 n1, .int .i64 low2, .int .i64 high3] Try.func40 rfl Try.ntmps40 rfl ?_
  refine WJ.seq ?_
  refine WJ.quiet ?_
  refine QJ.step (y_assign rfl) rfl ?_
  refine QJ.done ?_
  refine PJ.next ?_
  refine WJ.seq ?_
  refine WJ.quiet ?_
  refine QJ.step (y_move rfl) rfl ?_
  refine QJ.step (y_move rfl) rfl ?_
  refine QJ.step (y_bin rfl rfl rfl) rfl ?_
  refine QJ.step (y_move rfl) rfl ?_
  obtain ⟨t4, h5, hm⟩ := bindS hm
  refine QJ.cut 4 [(14, .bool t4)] ?_ ?_
  · rcases Bool.eq_false_or_eq_true (decide (n1 ≥ low2)) with hb6 | hb6
    · replace h5 := andT h5 hb6
      refine QJ.on rfl rfl (cB hb6) (y_move rfl) rfl ?_
      refine QJ.on rfl rfl (cB hb6) (y_move rfl) rfl ?_
      refine QJ.on rfl rfl (cB hb6) (y_bin rfl rfl rfl) rfl ?_
      refine QJ.step (y_pick_t (cB hb6) rfl) rfl ?_
      obtain rfl := Option.some.inj h5
      exact QJ.cut_end ⟨rfl, trivial⟩
    · obtain rfl := andF h5 hb6
      refine QJ.off rfl rfl (cB hb6) rfl rfl ?_
      refine QJ.off rfl rfl (cB hb6) rfl rfl ?_
      refine QJ.off rfl rfl (cB hb6) rfl rfl ?_
      refine QJ.step (y_pick_f (cB hb6) rfl) rfl ?_
      exact QJ.cut_end ⟨rfl, trivial⟩
  refine QJ.step (y_assign rfl) rfl ?_
  refine QJ.done ?_
  refine PJ.next ?_
  refine WJ.ret ?_
  obtain rfl := Option.some.inj hm
  refine PJ.sel (L' := []) [] ⟨List.nodup_nil, rfl⟩ ?_
  exact PJ.retn (vs := [.bool t4]) Try.results40 ⟨rfl, trivial⟩ ⟨rfl, rfl⟩

set_option maxRecDepth 100000 in
set_option maxHeartbeats 1000000 in
theorem ok_i_isDigit {b1 : UInt8} {r : Bool} (hm : i_isDigit b1 = some r) (w : World)  :
    Calls Try.prog 68 #[.int .u8 (UInt8.toNat b1 : Int)] w (Ret (cx w) (.bool r)) := by
  unfold i_isDigit at hm
  refine Calls.enter [.int .u8 (UInt8.toNat b1 : Int)] Try.func68 rfl Try.ntmps68 rfl ?_
  refine WJ.seq ?_
  refine WJ.quiet ?_
  refine QJ.step (y_assign rfl) rfl ?_
  refine QJ.done ?_
  refine PJ.next ?_
  refine WJ.seq ?_
  refine WJ.quiet ?_
  refine QJ.step (y_move rfl) rfl ?_
  refine QJ.step (y_bin8 b1 (48 : UInt8) rfl rfl rfl) rfl ?_
  refine QJ.step (y_move rfl) rfl ?_
  obtain ⟨t2, h3, hm⟩ := bindS hm
  refine QJ.cut 3 [(8, .bool t2)] ?_ ?_
  · rcases Bool.eq_false_or_eq_true (decide (b1 ≥ (48 : UInt8))) with hb4 | hb4
    · replace h3 := andT h3 hb4
      refine QJ.on rfl rfl (cB hb4) (y_move rfl) rfl ?_
      refine QJ.on rfl rfl (cB hb4) (y_bin8 b1 (57 : UInt8) rfl rfl rfl) rfl ?_
      refine QJ.step (y_pick_t (cB hb4) rfl) rfl ?_
      obtain rfl := Option.some.inj h3
      exact QJ.cut_end ⟨rfl, trivial⟩
    · obtain rfl := andF h3 hb4
      refine QJ.off rfl rfl (cB hb4) rfl rfl ?_
      refine QJ.off rfl rfl (cB hb4) rfl rfl ?_
      refine QJ.step (y_pick_f (cB hb4) rfl) rfl ?_
      exact QJ.cut_end ⟨rfl, trivial⟩
  refine QJ.step (y_assign rfl) rfl ?_
  refine QJ.done ?_
  refine PJ.next ?_
  refine WJ.ret ?_
  obtain rfl := Option.some.inj hm
  refine PJ.sel (L' := []) [] ⟨List.nodup_nil, rfl⟩ ?_
  exact PJ.retn (vs := [.bool t2]) Try.results68 ⟨rfl, trivial⟩ ⟨rfl, rfl⟩

set_option maxRecDepth 100000 in
set_option maxHeartbeats 1000000 in
theorem ok_i_IsName {N : Nat} {s1 : Str} {r : Bool} (hm : i_IsName N s1 = some r) (w : World)  :
    Calls Try.prog 61 #[str s1] w (Ret (cx w) (.bool r)) := by
  unfold i_IsName at hm
  refine Calls.enter [str s1] Try.func61 rfl Try.ntmps61 rfl ?_
  refine WJ.seq ?_
  refine WJ.quiet ?_
  refine QJ.step (y_assign rfl) rfl ?_
  refine QJ.done ?_
  refine PJ.next ?_
  refine WJ.seq ?_
  refine WJ.seq ?_
  refine WJ.quiet ?_
  refine QJ.step (y_move rfl) rfl ?_
  refine QJ.step (y_lenStr Try.runUnderlying9 rfl) rfl ?_
  refine QJ.step (y_bin rfl rfl rfl) rfl ?_
  refine QJ.step (y_move rfl) rfl ?_
  obtain ⟨t2, h3, hm⟩ := bindS hm
  refine QJ.cut 4 [(0, str s1), (12, .bool t2)] ?_ ?_
  · rcases Bool.eq_false_or_eq_true ((List.length s1 : Int) == 0) with hb4 | hb4
    · obtain rfl := orT h3 hb4
      refine QJ.off rfl rfl (cB hb4) rfl rfl ?_
      refine QJ.off rfl rfl (cB hb4) rfl rfl ?_
      refine QJ.off rfl rfl (cB hb4) rfl rfl ?_
      refine QJ.step (y_pick_t (cB hb4) rfl) rfl ?_
      exact QJ.cut_end ⟨rfl, rfl, trivial⟩
    · replace h3 := orF h3 hb4
      refine QJ.on rfl rfl (cB hb4) (y_move rfl) rfl ?_
      refine QJ.on rfl rfl (cB hb4) (y_lenStr Try.runUnderlying9 rfl) rfl ?_
      refine QJ.on rfl rfl (cB hb4) (y_bin rfl rfl rfl) rfl ?_
      refine QJ.step (y_pick_f (cB hb4) rfl) rfl ?_
      obtain rfl := Option.some.inj h3
      exact QJ.cut_end ⟨rfl, rfl, trivial⟩
  refine QJ.done ?_
  refine PJ.next ?_
  refine WJ.cond (t := t2) rfl (fun hb5 => ?_) (fun hb5 => ?_)
  · replace hm := ifT hm hb5
    refine WJ.seq ?_
    refine WJ.quiet ?_
    refine QJ.step (y_assign rfl) rfl ?_
    refine QJ.done ?_
    refine PJ.next ?_
    refine WJ.ret ?_
    refine PJ.then_ret ?_
    obtain rfl := Option.some.inj hm
    refine PJ.sel (L' := []) [] ⟨List.nodup_nil, rfl⟩ ?_
    exact PJ.retn (vs := [.bool false]) Try.results61 ⟨rfl, trivial⟩ ⟨rfl, rfl⟩
  · replace hm := ifF hm hb5
    refine WJ.skip ?_
    refine PJ.next ?_
    obtain ⟨k6, hk7, hm⟩ := withK_open hm
    refine WJ.join (X := Unit) (fun (_ : Unit) => k6  = some r) (fun (_ : Unit) => []) (fun (_ : Unit) => []) ?_ ?_
    · clear hk7
      refine WJ.seq ?_
      refine WJ.quiet ?_
      refine QJ.step (y_move rfl) rfl ?_
      refine QJ.step (y_lenStr Try.runUnderlying9 rfl) rfl ?_
      refine QJ.step (y_move rfl) rfl ?_
      refine QJ.done ?_
      refine PJ.next ?_
      refine WJ.block ?_
      refine WJ.sel (L' := (fun (x : Int) => []) 0) [] ⟨List.nodup_nil, rfl⟩ ?_
      refine WJ.sub (m' := (fun (x : Int) => [(0, str s1), (14, .int .i64 (List.length s1 : Int)), (15, .int .i64 x)]) 0) ⟨rfl, rfl, rfl, trivial⟩ ?_
      refine WJ.loop (X := Int) (fun N (x : Int) => i_IsName_l1 k6 s1 N x = some r) (fun (x : Int) => [(0, str s1), (14, .int .i64 (List.length s1 : Int)), (15, .int .i64 x)]) (fun (x : Int) => []) ?_ N 0 hm
      · rintro N x8 hI
        have hm := hI; clear hI
        cases N with
        | zero => cases hm
        | succ N =>
        unfold i_IsName_l1 at hm
        refine WJ.seq ?_
        refine WJ.quiet ?_
        refine QJ.step (y_bin rfl rfl rfl) rfl ?_
        refine QJ.done ?_
        refine PJ.next ?_
        refine WJ.seq ?_
        refine WJ.cond (t := decide (x8 < (List.length s1 : Int))) rfl (fun hb9 => ?_) (fun hb9 => ?_)
        · replace hm := ifT hm hb9
          refine WJ.skip ?_
          refine PJ.next ?_
          refine WJ.seq ?_
          refine WJ.block ?_
          refine WJ.seq ?_
          refine WJ.quiet ?_
          refine QJ.step (y_move rfl) rfl ?_
          refine QJ.step (y_assign rfl) rfl ?_
          refine QJ.done ?_
          refine PJ.next ?_
          refine WJ.seq ?_
          refine WJ.quiet ?_
          refine QJ.step (y_move rfl) rfl ?_
          refine QJ.step (y_move rfl) rfl ?_
          obtain ⟨c10, h11, hm⟩ := bindS hm
          refine QJ.step (y_idxStr Try.runUnderlying9 rfl rfl h11) rfl ?_
          refine QJ.step (y_bin8 c10 (97 : UInt8) rfl rfl rfl) rfl ?_
          refine QJ.step (y_move rfl) rfl ?_
          obtain ⟨t12, h13, hm⟩ := bindS hm
          refine QJ.cut 5 [(0, str s1), (3, .int .i64 x8), (14, .int .i64 (List.length s1 : Int)), (15, .int .i64 x8), (27, .bool t12)] ?_ ?_
          · rcases Bool.eq_false_or_eq_true (decide (c10 ≥ (97 : UInt8))) with hb14 | hb14
            · replace h13 := andT h13 hb14
              refine QJ.on rfl rfl (cB hb14) (y_move rfl) rfl ?_
              refine QJ.on rfl rfl (cB hb14) (y_move rfl) rfl ?_
              obtain ⟨c15, h16, h13⟩ := bindS h13
              refine QJ.on rfl rfl (cB hb14) (y_idxStr Try.runUnderlying9 rfl rfl h16) rfl ?_
              refine QJ.on rfl rfl (cB hb14) (y_bin8 c15 (122 : UInt8) rfl rfl rfl) rfl ?_
              refine QJ.step (y_pick_t (cB hb14) rfl) rfl ?_
              obtain rfl := Option.some.inj h13
              exact QJ.cut_end ⟨rfl, rfl, rfl, rfl, rfl, trivial⟩
            · obtain rfl := andF h13 hb14
              refine QJ.off rfl rfl (cB hb14) rfl rfl ?_
              refine QJ.off rfl rfl (cB hb14) rfl rfl ?_
              refine QJ.off rfl rfl (cB hb14) rfl rfl ?_
              refine QJ.off rfl rfl (cB hb14) rfl rfl ?_
              refine QJ.step (y_pick_f (cB hb14) rfl) rfl ?_
              exact QJ.cut_end ⟨rfl, rfl, rfl, rfl, rfl, trivial⟩
          refine QJ.step (y_assign rfl) rfl ?_
          refine QJ.done ?_
          refine PJ.next ?_
          refine WJ.seq ?_
          refine WJ.quiet ?_
          refine QJ.step (y_move rfl) rfl ?_
          refine QJ.step (y_not rfl) rfl ?_
          refine QJ.step (y_move rfl) rfl ?_
          obtain ⟨t17, h18, hm⟩ := bindS hm
          refine QJ.cut 16 [(0, str s1), (14, .int .i64 (List.length s1 : Int)), (15, .int .i64 x8), (46, .bool t17)] ?_ ?_
          · rcases Bool.eq_false_or_eq_true (!t12) with hb19 | hb19
            · replace h18 := andT h18 hb19
              refine QJ.on rfl rfl (cB hb19) (y_move rfl) rfl ?_
              refine QJ.on rfl rfl (cB hb19) (y_bin rfl rfl rfl) rfl ?_
              refine QJ.on rfl rfl (cB hb19) (y_move rfl) rfl ?_
              obtain ⟨t20, h21, h18⟩ := bindS h18
              refine QJ.cut 12 [(0, str s1), (14, .int .i64 (List.length s1 : Int)), (15, .int .i64 x8), (30, .bool (!t12)), (31, .int .i64 x8), (32, .bool (x8 == 0)), (33, .bool (x8 == 0)), (45, .bool t20)] ?_ ?_
              · rcases Bool.eq_false_or_eq_true (x8 == 0) with hb22 | hb22
                · obtain rfl := orT h21 hb22
                  refine QJ.off rfl rfl (cB hb22) rfl rfl ?_
                  refine QJ.off rfl rfl (cB hb22) rfl rfl ?_
                  refine QJ.off rfl rfl (cB hb22) rfl rfl ?_
                  refine QJ.off rfl rfl (cB hb22) rfl rfl ?_
                  refine QJ.off rfl rfl (cB hb22) rfl rfl ?_
                  refine QJ.off_undef rfl rfl rfl rfl ?_
                  refine QJ.off_undef rfl rfl rfl rfl ?_
                  refine QJ.off_undef rfl rfl rfl rfl ?_
                  refine QJ.off_undef rfl rfl rfl rfl ?_
                  refine QJ.off_undef rfl rfl rfl rfl ?_
                  refine QJ.off rfl rfl (cB hb22) rfl rfl ?_
                  refine QJ.on rfl rfl (cB hb19) (y_pick_t (cB hb22) rfl) rfl ?_
                  exact QJ.cut_end ⟨rfl, rfl, rfl, rfl, rfl, rfl, rfl, rfl, trivial⟩
                · replace h21 := orF h21 hb22
                  refine QJ.on rfl rfl (cB hb22) (y_move rfl) rfl ?_
                  refine QJ.on rfl rfl (cB hb22) (y_move rfl) rfl ?_
                  obtain ⟨c23, h24, h21⟩ := bindS h21
                  refine QJ.on rfl rfl (cB hb22) (y_idxStr Try.runUnderlying9 rfl rfl h24) rfl ?_
                  refine QJ.on rfl rfl (cB hb22) (y_bin8 c23 (45 : UInt8) rfl rfl rfl) rfl ?_
                  refine QJ.on rfl rfl (cB hb22) (y_move rfl) rfl ?_
                  obtain ⟨t25, h26, h21⟩ := bindS h21
                  refine QJ.cut 6 [(0, str s1), (14, .int .i64 (List.length s1 : Int)), (15, .int .i64 x8), (30, .bool (!t12)), (31, .int .i64 x8), (32, .bool (x8 == 0)), (33, .bool (x8 == 0)), (34, str s1), (35, .int .i64 x8), (36, .int .u8 (UInt8.toNat c23 : Int)), (37, .bool (c23 != (45 : UInt8))), (38, .bool (c23 != (45 : UInt8))), (44, .bool t25)] ?_ ?_
                  · rcases Bool.eq_false_or_eq_true (c23 != (45 : UInt8)) with hb27 | hb27
                    · replace h26 := andT h26 hb27
                      refine QJ.on rfl rfl (cB hb27) (y_move rfl) rfl ?_
                      refine QJ.on rfl rfl (cB hb27) (y_move rfl) rfl ?_
                      obtain ⟨c28, h29, h26⟩ := bindS h26
                      refine QJ.on rfl rfl (cB hb27) (y_idxStr Try.runUnderlying9 rfl rfl h29) rfl ?_
                      obtain ⟨r30, h31, h26⟩ := bindS h26
                      refine QJ.on rfl rfl (cB hb27) (y_call Try.call68 rfl (RetG.quiet fun w hw => ok_i_isDigit h31 w )) rfl ?_
                      refine QJ.on rfl rfl (cB hb27) (y_not rfl) rfl ?_
                      refine QJ.on rfl rfl (cB hb22) (y_pick_t (cB hb27) rfl) rfl ?_
                      obtain rfl := Option.some.inj h26
                      exact QJ.cut_end ⟨rfl, rfl, rfl, rfl, rfl, rfl, rfl, rfl, rfl, rfl, rfl, rfl, rfl, trivial⟩
                    · obtain rfl := andF h26 hb27
                      refine QJ.off rfl rfl (cB hb27) rfl rfl ?_
                      refine QJ.off rfl rfl (cB hb27) rfl rfl ?_
                      refine QJ.off rfl rfl (cB hb27) rfl rfl ?_
                      refine QJ.off rfl rfl (cB hb27) rfl rfl ?_
                      refine QJ.off rfl rfl (cB hb27) rfl rfl ?_
                      refine QJ.on rfl rfl (cB hb22) (y_pick_f (cB hb27) rfl) rfl ?_
                      exact QJ.cut_end ⟨rfl, rfl, rfl, rfl, rfl, rfl, rfl, rfl, rfl, rfl, rfl, rfl, rfl, trivial⟩
                  refine QJ.on rfl rfl (cB hb19) (y_pick_f (cB hb22) rfl) rfl ?_
                  obtain rfl := Option.some.inj h21
                  exact QJ.cut_end ⟨rfl, rfl, rfl, rfl, rfl, rfl, rfl, rfl, trivial⟩
              refine QJ.step (y_pick_t (cB hb19) rfl) rfl ?_
              obtain rfl := Option.some.inj h18
              exact QJ.cut_end ⟨rfl, rfl, rfl, rfl, trivial⟩
            · obtain rfl := andF h18 hb19
              refine QJ.off rfl rfl (cB hb19) rfl rfl ?_
              refine QJ.off rfl rfl (cB hb19) rfl rfl ?_
              refine QJ.off rfl rfl (cB hb19) rfl rfl ?_
              refine QJ.off_undef rfl rfl rfl rfl ?_
              refine QJ.off_undef rfl rfl rfl rfl ?_
              refine QJ.off_undef rfl rfl rfl rfl ?_
              refine QJ.off_undef rfl rfl rfl rfl ?_
              refine QJ.off_undef rfl rfl rfl rfl ?_
              refine QJ.off_undef rfl rfl rfl rfl ?_
              refine QJ.off_undef rfl rfl rfl rfl ?_
              refine QJ.off_undef rfl rfl rfl rfl ?_
              refine QJ.off_undef rfl rfl rfl rfl ?_
              refine QJ.off_undef rfl rfl rfl rfl ?_
              refine QJ.off_undef rfl rfl rfl rfl ?_
              refine QJ.off rfl rfl (cB hb19) rfl rfl ?_
              refine QJ.step (y_pick_f (cB hb19) rfl) rfl ?_
              exact QJ.cut_end ⟨rfl, rfl, rfl, rfl, trivial⟩
          refine QJ.done ?_
          refine PJ.next ?_
          refine WJ.cond (t := t17) rfl (fun hb32 => ?_) (fun hb32 => ?_)
          · replace hm := ifT hm hb32
            refine WJ.seq ?_
            refine WJ.quiet ?_
            refine QJ.step (y_assign rfl) rfl ?_
            refine QJ.done ?_
            refine PJ.next ?_
            refine WJ.ret ?_
            refine PJ.block_ret (PJ.then_ret (PJ.then_ret (PJ.block_ret (PJ.then_ret ?_))))
            obtain rfl := Option.some.inj hm
            refine PJ.sel (L' := []) [] ⟨List.nodup_nil, rfl⟩ ?_
            exact PJ.retn (vs := [.bool false]) Try.results61 ⟨rfl, trivial⟩ ⟨rfl, rfl⟩
          · replace hm := ifF hm hb32
            refine WJ.skip ?_
            refine PJ.block_normal (PJ.next ?_)
            refine WJ.quiet ?_
            refine QJ.step (y_bin rfl rfl rfl) rfl ?_
            refine QJ.step (y_move rfl) rfl ?_
            refine QJ.done ?_
            exact PJ.round (w64 (x8 + 1)) [] hm ⟨rfl, rfl, rfl, trivial⟩ ⟨List.nodup_nil, rfl⟩
        · replace hm := ifF hm hb9
          refine WJ.exit ?_
          refine PJ.then_exit (PJ.then_exit (PJ.block_exit ?_))
          exact PJ.joined () [] hm trivial ⟨List.nodup_nil, rfl⟩
    · rintro _ hm
      subst hk7
      refine WJ.seq ?_
      refine WJ.quiet ?_
      refine QJ.step (y_assign rfl) rfl ?_
      refine QJ.done ?_
      refine PJ.next ?_
      refine WJ.ret ?_
      obtain rfl := Option.some.inj hm
      refine PJ.sel (L' := []) [] ⟨List.nodup_nil, rfl⟩ ?_
      exact PJ.retn (vs := [.bool true]) Try.results61 ⟨rfl, trivial⟩ ⟨rfl, rfl⟩

set_option maxRecDepth 100000 in
set_option maxHeartbeats 1000000 in
theorem ok_i_ValidDefects {N : Nat} {list1 : List Defect} {x4 : List Int} {r : Bool} (hm : i_ValidDefects N list1 x4 = some r) (w : World) (v2 : Value) (hr3 : RdS w (cx w).Fz v2 fDefect.rp list1) (v5 : Value) (hr6 : RdS w (cx w).Fz v5 fI64.rp x4) :
    Calls Try.prog 47 #[v2, v5] w (Ret (cx w) (.bool r)) := by
  unfold i_ValidDefects at hm
  refine Calls.enter [v2, v5] Try.func47 rfl Try.ntmps47 rfl ?_
  refine WJ.seq ?_
  refine WJ.quiet ?_
  refine QJ.step (y_assign rfl) rfl ?_
  refine QJ.done ?_
  refine PJ.next ?_
  refine WJ.seq ?_
  refine WJ.seq ?_
  refine WJ.quiet ?_
  refine QJ.step (y_move rfl) rfl ?_
  refine QJ.step (y_lenS Try.runUnderlying32 hr6 rfl) rfl ?_
  refine QJ.step (y_bin rfl rfl rfl) rfl ?_
  refine QJ.step (y_move rfl) rfl ?_
  obtain ⟨t7, h8, hm⟩ := bindS hm
  refine QJ.cut 4 [(0, v2), (1, v5), (18, .bool t7)] ?_ ?_
  · rcases Bool.eq_false_or_eq_true (decide ((List.length x4 : Int) > 6)) with hb9 | hb9
    · obtain rfl := orT h8 hb9
      refine QJ.off rfl rfl (cB hb9) rfl rfl ?_
      refine QJ.off rfl rfl (cB hb9) rfl rfl ?_
      refine QJ.off rfl rfl (cB hb9) rfl rfl ?_
      refine QJ.step (y_pick_t (cB hb9) rfl) rfl ?_
      exact QJ.cut_end ⟨rfl, rfl, rfl, trivial⟩
    · replace h8 := orF h8 hb9
      refine QJ.on rfl rfl (cB hb9) (y_move rfl) rfl ?_
      refine QJ.on rfl rfl (cB hb9) (y_lenS Try.runUnderlying36 hr3 rfl) rfl ?_
      refine QJ.on rfl rfl (cB hb9) (y_bin rfl rfl rfl) rfl ?_
      refine QJ.step (y_pick_f (cB hb9) rfl) rfl ?_
      obtain rfl := Option.some.inj h8
      exact QJ.cut_end ⟨rfl, rfl, rfl, trivial⟩
  refine QJ.done ?_
  refine PJ.next ?_
  refine WJ.cond (t := t7) rfl (fun hb10 => ?_) (fun hb10 => ?_)
  · replace hm := ifT hm hb10
    refine WJ.seq ?_
    refine WJ.quiet ?_
    refine QJ.step (y_assign rfl) rfl ?_
    refine QJ.done ?_
    refine PJ.next ?_
    refine WJ.ret ?_
    refine PJ.then_ret ?_
    obtain rfl := Option.some.inj hm
    refine PJ.sel (L' := []) [] ⟨List.nodup_nil, rfl⟩ ?_
    exact PJ.retn (vs := [.bool false]) Try.results47 ⟨rfl, trivial⟩ ⟨rfl, rfl⟩
  · replace hm := ifF hm hb10
    refine WJ.skip ?_
    refine PJ.next ?_
    obtain ⟨k11, hk12, hm⟩ := withK_open hm
    refine WJ.join (X := Unit) (fun (_ : Unit) => k11  = some r) (fun (_ : Unit) => [(0, v2), (1, v5)]) (fun (_ : Unit) => []) ?_ ?_
    · clear hk12
      refine WJ.seq ?_
      refine WJ.quiet ?_
      refine QJ.step (y_move rfl) rfl ?_
      refine QJ.step (y_lenS Try.runUnderlying32 hr6 rfl) rfl ?_
      refine QJ.step (y_move rfl) rfl ?_
      refine QJ.done ?_
      refine PJ.next ?_
      refine WJ.block ?_
      refine WJ.sel (L' := (fun (x : Int) => []) 0) [] ⟨List.nodup_nil, rfl⟩ ?_
      refine WJ.sub (m' := (fun (x : Int) => [(0, v2), (1, v5), (19, v5), (20, .int .i64 (List.length x4 : Int)), (21, .int .i64 x)]) 0) ⟨rfl, rfl, rfl, rfl, rfl, trivial⟩ ?_
      refine WJ.loop (X := Int) (fun N (x : Int) => i_ValidDefects_l1 k11 x4 N x = some r) (fun (x : Int) => [(0, v2), (1, v5), (19, v5), (20, .int .i64 (List.length x4 : Int)), (21, .int .i64 x)]) (fun (x : Int) => []) ?_ N 0 hm
      · rintro N x13 hI
        have hm := hI; clear hI
        cases N with
        | zero => cases hm
        | succ N =>
        unfold i_ValidDefects_l1 at hm
        refine WJ.seq ?_
        refine WJ.quiet ?_
        refine QJ.step (y_bin rfl rfl rfl) rfl ?_
        refine QJ.done ?_
        refine PJ.next ?_
        refine WJ.seq ?_
        refine WJ.cond (t := decide (x13 < (List.length x4 : Int))) rfl (fun hb14 => ?_) (fun hb14 => ?_)
        · replace hm := ifT hm hb14
          refine WJ.skip ?_
          refine PJ.next ?_
          refine WJ.seq ?_
          refine WJ.block ?_
          refine WJ.seq ?_
          refine WJ.quiet ?_
          obtain ⟨e15, h16, hm⟩ := bindS hm
          obtain ⟨ad17, _, rfl, ha18, hy19⟩ := hr6.elem h16
          refine QJ.step (hy19 Try.runUnderlying32 Try.sizeOf2 rfl rfl) rfl ?_
          refine QJ.step (y_load1 (v := .int .i64 e15) Try.isAgg2 ha18 St.frozenC rfl) rfl ?_
          refine QJ.step (y_assign rfl) rfl ?_
          refine QJ.done ?_
          refine PJ.next ?_
          refine WJ.seq ?_
          refine WJ.quiet ?_
          refine QJ.step (y_move rfl) rfl ?_
          obtain ⟨r20, h21, hm⟩ := bindS hm
          refine QJ.step (y_call Try.call40 rfl (RetG.quiet fun w hw => ok_i_between h21 w )) rfl ?_
          refine QJ.step (y_not rfl) rfl ?_
          refine QJ.done ?_
          refine PJ.next ?_
          refine WJ.cond (t := !r20) rfl (fun hb22 => ?_) (fun hb22 => ?_)
          · replace hm := ifT hm hb22
            refine WJ.seq ?_
            refine WJ.quiet ?_
            refine QJ.step (y_assign rfl) rfl ?_
            refine QJ.done ?_
            refine PJ.next ?_
            refine WJ.ret ?_
            refine PJ.block_ret (PJ.then_ret (PJ.then_ret (PJ.block_ret (PJ.then_ret ?_))))
            obtain rfl := Option.some.inj hm
            refine PJ.sel (L' := []) [] ⟨List.nodup_nil, rfl⟩ ?_
            exact PJ.retn (vs := [.bool false]) Try.results47 ⟨rfl, trivial⟩ ⟨rfl, rfl⟩
          · replace hm := ifF hm hb22
            refine WJ.skip ?_
            refine PJ.block_normal (PJ.next ?_)
            refine WJ.quiet ?_
            refine QJ.step (y_bin rfl rfl rfl) rfl ?_
            refine QJ.step (y_move rfl) rfl ?_
            refine QJ.done ?_
            exact PJ.round (w64 (x13 + 1)) [] hm ⟨rfl, rfl, rfl, rfl, rfl, trivial⟩ ⟨List.nodup_nil, rfl⟩
        · replace hm := ifF hm hb14
          refine WJ.exit ?_
          refine PJ.then_exit (PJ.then_exit (PJ.block_exit ?_))
          exact PJ.joined () [] hm ⟨rfl, rfl, trivial⟩ ⟨List.nodup_nil, rfl⟩
    · rintro _ hm
      subst hk12
      refine WJ.seq ?_
      refine WJ.reg ?_
      refine SJ.makeMap rfl fun g23 => ?_
      refine SJ.q (y_assign rfl) rfl ?_
      refine SJ.nil ?_
      refine PJ.next ?_
      obtain ⟨k24, hk25, hm⟩ := withK_open hm
      refine WJ.join (X := Unit) (fun (_ : Unit) => k24  = some r) (fun (_ : Unit) => []) (fun (_ : Unit) => []) ?_ ?_
      · clear hk25
        refine WJ.seq ?_
        refine WJ.quiet ?_
        refine QJ.step (y_move rfl) rfl ?_
        refine QJ.step (y_lenS Try.runUnderlying36 hr3 rfl) rfl ?_
        refine QJ.step (y_move rfl) rfl ?_
        refine QJ.done ?_
        refine PJ.next ?_
        refine WJ.block ?_
        refine WJ.sel (L' := (fun (x : (List (Str × Bool)) × Int) => [mp g23 x.1]) ([], 0)) [0] ⟨by decide, rfl⟩ ?_
        refine WJ.sub (m' := (fun (x : (List (Str × Bool)) × Int) => [(1, v5), (7, .map (some g23)), (30, v2), (31, .int .i64 (List.length list1 : Int)), (32, .int .i64 x.2)]) ([], 0)) ⟨rfl, rfl, rfl, rfl, rfl, trivial⟩ ?_
        refine WJ.loop (X := (List (Str × Bool)) × Int) (fun N (x : (List (Str × Bool)) × Int) => i_ValidDefects_l2 k24 list1 x4 N x.1 x.2 = some r) (fun (x : (List (Str × Bool)) × Int) => [(1, v5), (7, .map (some g23)), (30, v2), (31, .int .i64 (List.length list1 : Int)), (32, .int .i64 x.2)]) (fun (x : (List (Str × Bool)) × Int) => [mp g23 x.1]) ?_ N ([], 0) hm
        · rintro N ⟨mp26, x27⟩ hI
          have hm := hI; clear hI
          cases N with
          | zero => cases hm
          | succ N =>
          unfold i_ValidDefects_l2 at hm
          refine WJ.seq ?_
          refine WJ.quiet ?_
          refine QJ.step (y_bin rfl rfl rfl) rfl ?_
          refine QJ.done ?_
          refine PJ.next ?_
          refine WJ.seq ?_
          refine WJ.cond (t := decide (x27 < (List.length list1 : Int))) rfl (fun hb28 => ?_) (fun hb28 => ?_)
          · replace hm := ifT hm hb28
            refine WJ.skip ?_
            refine PJ.next ?_
            obtain ⟨k31, hk31, hm⟩ := withK_open hm
            refine WJ.join (X := (List (Str × Bool))) (fun (x : (List (Str × Bool))) => k31 x = some r) (fun (x : (List (Str × Bool))) => [(1, v5), (7, .map (some g23)), (30, v2), (31, .int .i64 (List.length list1 : Int)), (32, .int .i64 x27)]) (fun (x : (List (Str × Bool))) => [mp g23 x]) ?_ ?_
            · clear hk31
              refine WJ.block ?_
              refine WJ.seq ?_
              refine WJ.reg ?_
              obtain ⟨e32, h33, hm⟩ := bindS hm
              obtain ⟨ad34, _, rfl, ha35, hy36⟩ := hr3.elem h33
              refine SJ.q (hy36 Try.runUnderlying36 Try.sizeOf69 rfl rfl) rfl ?_
              refine SJ.q (y_loadN Try.isAgg69 Try.sizeOf69 rfl ha35 St.frozenC rfl) rfl ?_
              refine SJ.alloc (cs := [str [], .int .i64 0, str []]) Try.zeroValue69 rfl rfl fun g37 => ?_
              refine SJ.storeL (k := 0) (off := 0) (us := [str e32.name, .int .i64 e32.weight, str e32.signs]) rfl rfl rfl rfl Try.sizeOf69 rfl rfl ?_
              refine SJ.nil ?_
              refine PJ.next ?_
              refine WJ.seq ?_
              refine WJ.seq ?_
              refine WJ.quiet ?_
              refine QJ.step (y_fldB (o := 0) fld69_0 rfl) rfl ?_
              refine QJ.step (y_loadB (k := 0) (off := 0) (v := str e32.name) rfl Try.isAgg9 rfl rfl) rfl ?_
              obtain ⟨r38, h39, hm⟩ := bindS hm
              refine QJ.step (y_call Try.call61 rfl (RetG.quiet fun w hw => ok_i_IsName h39 w )) rfl ?_
              refine QJ.step (y_not rfl) rfl ?_
              refine QJ.step (y_move rfl) rfl ?_
              obtain ⟨t40, h41, hm⟩ := bindS hm
              refine QJ.cut 5 [(1, v5), (7, .map (some g23)), (9, pt g37 0), (30, v2), (31, .int .i64 (List.length list1 : Int)), (32, .int .i64 x27), (45, .bool t40)] ?_ ?_
              · rcases Bool.eq_false_or_eq_true (!r38) with hb42 | hb42
                · obtain rfl := orT h41 hb42
                  refine QJ.off rfl rfl (cB hb42) rfl rfl ?_
                  refine QJ.off rfl rfl (cB hb42) rfl rfl ?_
                  refine QJ.off rfl rfl (cB hb42) rfl rfl ?_
                  refine QJ.off rfl rfl (cB hb42) rfl rfl ?_
                  refine QJ.step (y_pick_t (cB hb42) rfl) rfl ?_
                  exact QJ.cut_end ⟨rfl, rfl, rfl, rfl, rfl, rfl, rfl, trivial⟩
                · replace h41 := orF h41 hb42
                  refine QJ.on rfl rfl (cB hb42) (y_move rfl) rfl ?_
                  refine QJ.on rfl rfl (cB hb42) (y_fldB (o := 0) fld69_0 rfl) rfl ?_
                  refine QJ.on rfl rfl (cB hb42) (y_loadB (k := 0) (off := 0) (v := str e32.name) rfl Try.isAgg9 rfl rfl) rfl ?_
                  refine QJ.on rfl rfl (cB hb42) (y_lookupSB (k := 1) rfl Try.underlying86 Try.underlying9 Try.zeroValue4 rfl rfl) rfl ?_
                  refine QJ.step (y_pick_f (cB hb42) rfl) rfl ?_
                  obtain rfl := Option.some.inj h41
                  exact QJ.cut_end ⟨rfl, rfl, rfl, rfl, rfl, rfl, rfl, trivial⟩
              refine QJ.step (y_move rfl) rfl ?_
              obtain ⟨t43, h44, hm⟩ := bindS hm
              refine QJ.cut 5 [(1, v5), (7, .map (some g23)), (9, pt g37 0), (30, v2), (31, .int .i64 (List.length list1 : Int)), (32, .int .i64 x27), (51, .bool t43)] ?_ ?_
              · rcases Bool.eq_false_or_eq_true t40 with hb45 | hb45
                · obtain rfl := orT h44 hb45
                  refine QJ.off rfl rfl (cB hb45) rfl rfl ?_
                  refine QJ.off rfl rfl (cB hb45) rfl rfl ?_
                  refine QJ.off rfl rfl (cB hb45) rfl rfl ?_
                  refine QJ.off rfl rfl (cB hb45) rfl rfl ?_
                  refine QJ.step (y_pick_t (cB hb45) rfl) rfl ?_
                  exact QJ.cut_end ⟨rfl, rfl, rfl, rfl, rfl, rfl, rfl, trivial⟩
                · replace h44 := orF h44 hb45
                  refine QJ.on rfl rfl (cB hb45) (y_fldB (o := 0) fld69_1 rfl) rfl ?_
                  refine QJ.on rfl rfl (cB hb45) (y_loadB (k := 0) (off := 1) (v := .int .i64 e32.weight) rfl Try.isAgg2 rfl rfl) rfl ?_
                  obtain ⟨r46, h47, h44⟩ := bindS h44
                  refine QJ.on rfl rfl (cB hb45) (y_call Try.call40 rfl (RetG.quiet fun w hw => ok_i_between h47 w )) rfl ?_
                  refine QJ.on rfl rfl (cB hb45) (y_not rfl) rfl ?_
                  refine QJ.step (y_pick_f (cB hb45) rfl) rfl ?_
                  obtain rfl := Option.some.inj h44
                  exact QJ.cut_end ⟨rfl, rfl, rfl, rfl, rfl, rfl, rfl, trivial⟩
              refine QJ.step (y_move rfl) rfl ?_
              obtain ⟨t48, h49, hm⟩ := bindS hm
              refine QJ.cut 7 [(1, v5), (7, .map (some g23)), (9, pt g37 0), (30, v2), (31, .int .i64 (List.length list1 : Int)), (32, .int .i64 x27), (59, .bool t48)] ?_ ?_
              · rcases Bool.eq_false_or_eq_true t43 with hb50 | hb50
                · obtain rfl := orT h49 hb50
                  refine QJ.off rfl rfl (cB hb50) rfl rfl ?_
                  refine QJ.off rfl rfl (cB hb50) rfl rfl ?_
                  refine QJ.off rfl rfl (cB hb50) rfl rfl ?_
                  refine QJ.off rfl rfl (cB hb50) rfl rfl ?_
                  refine QJ.off rfl rfl (cB hb50) rfl rfl ?_
                  refine QJ.off rfl rfl (cB hb50) rfl rfl ?_
                  refine QJ.step (y_pick_t (cB hb50) rfl) rfl ?_
                  exact QJ.cut_end ⟨rfl, rfl, rfl, rfl, rfl, rfl, rfl, trivial⟩
                · replace h49 := orF h49 hb50
                  refine QJ.on rfl rfl (cB hb50) (y_fldB (o := 0) fld69_2 rfl) rfl ?_
                  refine QJ.on rfl rfl (cB hb50) (y_loadB (k := 0) (off := 2) (v := str e32.signs) rfl Try.isAgg9 rfl rfl) rfl ?_
                  refine QJ.on rfl rfl (cB hb50) (y_lenStr Try.runUnderlying9 rfl) rfl ?_
                  refine QJ.on rfl rfl (cB hb50) (y_move rfl) rfl ?_
                  refine QJ.on rfl rfl (cB hb50) (y_lenS Try.runUnderlying32 hr6 rfl) rfl ?_
                  refine QJ.on rfl rfl (cB hb50) (y_bin rfl rfl rfl) rfl ?_
                  refine QJ.step (y_pick_f (cB hb50) rfl) rfl ?_
                  obtain rfl := Option.some.inj h49
                  exact QJ.cut_end ⟨rfl, rfl, rfl, rfl, rfl, rfl, rfl, trivial⟩
              refine QJ.done ?_
              refine PJ.next ?_
              refine WJ.cond (t := t48) rfl (fun hb51 => ?_) (fun hb51 => ?_)
              · replace hm := ifT hm hb51
                refine WJ.seq ?_
                refine WJ.quiet ?_
                refine QJ.step (y_assign rfl) rfl ?_
                refine QJ.done ?_
                refine PJ.next ?_
                refine WJ.ret ?_
                refine PJ.then_ret (PJ.block_ret (PJ.then_ret (PJ.then_ret (PJ.block_ret (PJ.then_ret ?_)))))
                obtain rfl := Option.some.inj hm
                refine PJ.sel (L' := []) [] ⟨List.nodup_nil, rfl⟩ ?_
                exact PJ.retn (vs := [.bool false]) Try.results47 ⟨rfl, trivial⟩ ⟨rfl, rfl⟩
              · replace hm := ifF hm hb51
                refine WJ.skip ?_
                refine PJ.next ?_
                refine WJ.seq ?_
                refine WJ.reg ?_
                refine SJ.q (y_move rfl) rfl ?_
                refine SJ.q (y_fldB (o := 0) fld69_0 rfl) rfl ?_
                refine SJ.q (y_loadB (k := 0) (off := 0) (v := str e32.name) rfl Try.isAgg9 rfl rfl) rfl ?_
                refine SJ.mapUpdateSB (k := 1) Try.underlying86 Try.underlying9 rfl rfl rfl rfl ?_
                refine SJ.nil ?_
                refine PJ.next ?_
                refine WJ.seq ?_
                refine WJ.quiet ?_
                refine QJ.step (y_fldB (o := 0) fld69_2 rfl) rfl ?_
                refine QJ.step (y_loadB (k := 0) (off := 2) (v := str e32.signs) rfl Try.isAgg9 rfl rfl) rfl ?_
                refine QJ.step (y_lenStr Try.runUnderlying9 rfl) rfl ?_
                refine QJ.step (y_move rfl) rfl ?_
                refine QJ.done ?_
                refine PJ.next ?_
                refine WJ.block ?_
                refine WJ.sel (L' := (fun (x : Int) => [box g37 69 [str e32.name, .int .i64 e32.weight, str e32.signs], mp g23 (mset mp26 e32.name true)]) 0) [0, 1] ⟨by decide, rfl⟩ ?_
                refine WJ.sub (m' := (fun (x : Int) => [(1, v5), (7, .map (some g23)), (9, pt g37 0), (30, v2), (31, .int .i64 (List.length list1 : Int)), (32, .int .i64 x27), (65, .int .i64 (List.length e32.signs : Int)), (66, .int .i64 x)]) 0) ⟨rfl, rfl, rfl, rfl, rfl, rfl, rfl, rfl, trivial⟩ ?_
                refine WJ.loop (X := Int) (fun N (x : Int) => i_ValidDefects_l3 k31 mp26 e32 N x = some r) (fun (x : Int) => [(1, v5), (7, .map (some g23)), (9, pt g37 0), (30, v2), (31, .int .i64 (List.length list1 : Int)), (32, .int .i64 x27), (65, .int .i64 (List.length e32.signs : Int)), (66, .int .i64 x)]) (fun (x : Int) => [box g37 69 [str e32.name, .int .i64 e32.weight, str e32.signs], mp g23 (mset mp26 e32.name true)]) ?_ N 0 hm
                · rintro N x52 hI
                  have hm := hI; clear hI
                  cases N with
                  | zero => cases hm
                  | succ N =>
                  unfold i_ValidDefects_l3 at hm
                  refine WJ.seq ?_
                  refine WJ.quiet ?_
                  refine QJ.step (y_bin rfl rfl rfl) rfl ?_
                  refine QJ.done ?_
                  refine PJ.next ?_
                  refine WJ.seq ?_
                  refine WJ.cond (t := decide (x52 < (List.length e32.signs : Int))) rfl (fun hb53 => ?_) (fun hb53 => ?_)
                  · replace hm := ifT hm hb53
                    refine WJ.skip ?_
                    refine PJ.next ?_
                    refine WJ.seq ?_
                    refine WJ.block ?_
                    refine WJ.seq ?_
                    refine WJ.quiet ?_
                    refine QJ.step (y_move rfl) rfl ?_
                    refine QJ.step (y_assign rfl) rfl ?_
                    refine QJ.done ?_
                    refine PJ.next ?_
                    refine WJ.seq ?_
                    refine WJ.quiet ?_
                    refine QJ.step (y_fldB (o := 0) fld69_2 rfl) rfl ?_
                    refine QJ.step (y_loadB (k := 0) (off := 2) (v := str e32.signs) rfl Try.isAgg9 rfl rfl) rfl ?_
                    refine QJ.step (y_move rfl) rfl ?_
                    obtain ⟨c54, h55, hm⟩ := bindS hm
                    refine QJ.step (y_idxStr Try.runUnderlying9 rfl rfl h55) rfl ?_
                    refine QJ.step (y_bin8 c54 (48 : UInt8) rfl rfl rfl) rfl ?_
                    refine QJ.step (y_move rfl) rfl ?_
                    obtain ⟨t56, h57, hm⟩ := bindS hm
                    refine QJ.cut 6 [(1, v5), (7, .map (some g23)), (9, pt g37 0), (30, v2), (31, .int .i64 (List.length list1 : Int)), (32, .int .i64 x27), (65, .int .i64 (List.length e32.signs : Int)), (66, .int .i64 x52), (80, .bool t56)] ?_ ?_
                    · rcases Bool.eq_false_or_eq_true (c54 != (48 : UInt8)) with hb58 | hb58
                      · replace h57 := andT h57 hb58
                        refine QJ.on rfl rfl (cB hb58) (y_fldB (o := 0) fld69_2 rfl) rfl ?_
                        refine QJ.on rfl rfl (cB hb58) (y_loadB (k := 0) (off := 2) (v := str e32.signs) rfl Try.isAgg9 rfl rfl) rfl ?_
                        refine QJ.on rfl rfl (cB hb58) (y_move rfl) rfl ?_
                        obtain ⟨c59, h60, h57⟩ := bindS h57
                        refine QJ.on rfl rfl (cB hb58) (y_idxStr Try.runUnderlying9 rfl rfl h60) rfl ?_
                        refine QJ.on rfl rfl (cB hb58) (y_bin8 c59 (49 : UInt8) rfl rfl rfl) rfl ?_
                        refine QJ.step (y_pick_t (cB hb58) rfl) rfl ?_
                        obtain rfl := Option.some.inj h57
                        exact QJ.cut_end ⟨rfl, rfl, rfl, rfl, rfl, rfl, rfl, rfl, rfl, trivial⟩
                      · obtain rfl := andF h57 hb58
                        refine QJ.off rfl rfl (cB hb58) rfl rfl ?_
                        refine QJ.off rfl rfl (cB hb58) rfl rfl ?_
                        refine QJ.off rfl rfl (cB hb58) rfl rfl ?_
                        refine QJ.off rfl rfl (cB hb58) rfl rfl ?_
                        refine QJ.off rfl rfl (cB hb58) rfl rfl ?_
                        refine QJ.step (y_pick_f (cB hb58) rfl) rfl ?_
                        exact QJ.cut_end ⟨rfl, rfl, rfl, rfl, rfl, rfl, rfl, rfl, rfl, trivial⟩
                    refine QJ.done ?_
                    refine PJ.next ?_
                    refine WJ.cond (t := t56) rfl (fun hb61 => ?_) (fun hb61 => ?_)
                    · replace hm := ifT hm hb61
                      refine WJ.seq ?_
                      refine WJ.quiet ?_
                      refine QJ.step (y_assign rfl) rfl ?_
                      refine QJ.done ?_
                      refine PJ.next ?_
                      refine WJ.ret ?_
                      refine PJ.block_ret (PJ.then_ret (PJ.then_ret (PJ.block_ret (PJ.block_ret (PJ.then_ret (PJ.then_ret (PJ.block_ret (PJ.then_ret ?_))))))))
                      obtain rfl := Option.some.inj hm
                      refine PJ.sel (L' := []) [] ⟨List.nodup_nil, rfl⟩ ?_
                      exact PJ.retn (vs := [.bool false]) Try.results47 ⟨rfl, trivial⟩ ⟨rfl, rfl⟩
                    · replace hm := ifF hm hb61
                      refine WJ.skip ?_
                      refine PJ.block_normal (PJ.next ?_)
                      refine WJ.quiet ?_
                      refine QJ.step (y_bin rfl rfl rfl) rfl ?_
                      refine QJ.step (y_move rfl) rfl ?_
                      refine QJ.done ?_
                      exact PJ.round (w64 (x52 + 1)) [0, 1] hm ⟨rfl, rfl, rfl, rfl, rfl, rfl, rfl, rfl, trivial⟩ ⟨by decide, rfl⟩
                  · replace hm := ifF hm hb53
                    refine WJ.exit ?_
                    refine PJ.then_exit (PJ.then_exit (PJ.block_exit (PJ.block_normal ?_)))
                    exact PJ.joined (mset mp26 e32.name true) [1] hm ⟨rfl, rfl, rfl, rfl, rfl, trivial⟩ ⟨by decide, rfl⟩
            · rintro mp29 hm
              subst hk31
              refine WJ.quiet ?_
              refine QJ.step (y_bin rfl rfl rfl) rfl ?_
              refine QJ.step (y_move rfl) rfl ?_
              refine QJ.done ?_
              exact PJ.round (mp29, w64 (x27 + 1)) [0] hm ⟨rfl, rfl, rfl, rfl, rfl, trivial⟩ ⟨by decide, rfl⟩
          · replace hm := ifF hm hb28
            refine WJ.exit ?_
            refine PJ.then_exit (PJ.then_exit (PJ.block_exit ?_))
            exact PJ.joined () [] hm trivial ⟨List.nodup_nil, rfl⟩
      · rintro _ hm
        subst hk25
        refine WJ.seq ?_
        refine WJ.quiet ?_
        refine QJ.step (y_assign rfl) rfl ?_
        refine QJ.done ?_
        refine PJ.next ?_
        refine WJ.ret ?_
        obtain rfl := Option.some.inj hm
        refine PJ.sel (L' := []) [] ⟨List.nodup_nil, rfl⟩ ?_
        exact PJ.retn (vs := [.bool true]) Try.results47 ⟨rfl, trivial⟩ ⟨rfl, rfl⟩

set_option maxRecDepth 100000 in
set_option maxHeartbeats 1000000 in
theorem ok_i_areAnswers {N : Nat} {answers1 : Str} {tests2 : Int} {r : Bool} (hm : i_areAnswers N answers1 tests2 = some r) (w : World)  :
    Calls Try.prog 66 #[str answers1, .int .i64 tests2] w (Ret (cx w) (.bool r)) := by
  unfold i_areAnswers at hm
  refine Calls.enter [str answers1, .int .i64 tests2] Try.func66 rfl Try.ntmps66 rfl ?_
  refine WJ.seq ?_
  refine WJ.quiet ?_
  refine QJ.step (y_assign rfl) rfl ?_
  refine QJ.done ?_
  refine PJ.next ?_
  obtain ⟨k3, hk4, hm⟩ := withK_open hm
  refine WJ.join (X := Unit) (fun (_ : Unit) => k3  = some r) (fun (_ : Unit) => [(0, str answers1), (1, .int .i64 tests2)]) (fun (_ : Unit) => []) ?_ ?_
  · clear hk4
    refine WJ.seq ?_
    refine WJ.quiet ?_
    refine QJ.step (y_move rfl) rfl ?_
    refine QJ.step (y_lenStr Try.runUnderlying9 rfl) rfl ?_
    refine QJ.step (y_move rfl) rfl ?_
    refine QJ.done ?_
    refine PJ.next ?_
    refine WJ.block ?_
    refine WJ.sel (L' := (fun (x : Int) => []) 0) [] ⟨List.nodup_nil, rfl⟩ ?_
    refine WJ.sub (m' := (fun (x : Int) => [(0, str answers1), (1, .int .i64 tests2), (7, .int .i64 (List.length answers1 : Int)), (8, .int .i64 x)]) 0) ⟨rfl, rfl, rfl, rfl, trivial⟩ ?_
    refine WJ.loop (X := Int) (fun N (x : Int) => i_areAnswers_l1 k3 answers1 N x = some r) (fun (x : Int) => [(0, str answers1), (1, .int .i64 tests2), (7, .int .i64 (List.length answers1 : Int)), (8, .int .i64 x)]) (fun (x : Int) => []) ?_ N 0 hm
    · rintro N x5 hI
      have hm := hI; clear hI
      cases N with
      | zero => cases hm
      | succ N =>
      unfold i_areAnswers_l1 at hm
      refine WJ.seq ?_
      refine WJ.quiet ?_
      refine QJ.step (y_bin rfl rfl rfl) rfl ?_
      refine QJ.done ?_
      refine PJ.next ?_
      refine WJ.seq ?_
      refine WJ.cond (t := decide (x5 < (List.length answers1 : Int))) rfl (fun hb6 => ?_) (fun hb6 => ?_)
      · replace hm := ifT hm hb6
        refine WJ.skip ?_
        refine PJ.next ?_
        refine WJ.seq ?_
        refine WJ.block ?_
        refine WJ.seq ?_
        refine WJ.quiet ?_
        refine QJ.step (y_move rfl) rfl ?_
        refine QJ.step (y_assign rfl) rfl ?_
        refine QJ.done ?_
        refine PJ.next ?_
        refine WJ.seq ?_
        refine WJ.quiet ?_
        refine QJ.step (y_move rfl) rfl ?_
        refine QJ.step (y_move rfl) rfl ?_
        obtain ⟨c7, h8, hm⟩ := bindS hm
        refine QJ.step (y_idxStr Try.runUnderlying9 rfl rfl h8) rfl ?_
        refine QJ.step (y_bin8 c7 (48 : UInt8) rfl rfl rfl) rfl ?_
        refine QJ.step (y_move rfl) rfl ?_
        obtain ⟨t9, h10, hm⟩ := bindS hm
        refine QJ.cut 5 [(0, str answers1), (1, .int .i64 tests2), (5, .int .i64 x5), (7, .int .i64 (List.length answers1 : Int)), (8, .int .i64 x5), (20, .bool t9)] ?_ ?_
        · rcases Bool.eq_false_or_eq_true (c7 != (48 : UInt8)) with hb11 | hb11
          · replace h10 := andT h10 hb11
            refine QJ.on rfl rfl (cB hb11) (y_move rfl) rfl ?_
            refine QJ.on rfl rfl (cB hb11) (y_move rfl) rfl ?_
            obtain ⟨c12, h13, h10⟩ := bindS h10
            refine QJ.on rfl rfl (cB hb11) (y_idxStr Try.runUnderlying9 rfl rfl h13) rfl ?_
            refine QJ.on rfl rfl (cB hb11) (y_bin8 c12 (49 : UInt8) rfl rfl rfl) rfl ?_
            refine QJ.step (y_pick_t (cB hb11) rfl) rfl ?_
            obtain rfl := Option.some.inj h10
            exact QJ.cut_end ⟨rfl, rfl, rfl, rfl, rfl, rfl, trivial⟩
          · obtain rfl := andF h10 hb11
            refine QJ.off rfl rfl (cB hb11) rfl rfl ?_
            refine QJ.off rfl rfl (cB hb11) rfl rfl ?_
            refine QJ.off rfl rfl (cB hb11) rfl rfl ?_
            refine QJ.off rfl rfl (cB hb11) rfl rfl ?_
            refine QJ.step (y_pick_f (cB hb11) rfl) rfl ?_
            exact QJ.cut_end ⟨rfl, rfl, rfl, rfl, rfl, rfl, trivial⟩
        refine QJ.step (y_move rfl) rfl ?_
        obtain ⟨t14, h15, hm⟩ := bindS hm
        refine QJ.cut 5 [(0, str answers1), (1, .int .i64 tests2), (7, .int .i64 (List.length answers1 : Int)), (8, .int .i64 x5), (26, .bool t14)] ?_ ?_
        · rcases Bool.eq_false_or_eq_true t9 with hb16 | hb16
          · replace h15 := andT h15 hb16
            refine QJ.on rfl rfl (cB hb16) (y_move rfl) rfl ?_
            refine QJ.on rfl rfl (cB hb16) (y_move rfl) rfl ?_
            obtain ⟨c17, h18, h15⟩ := bindS h15
            refine QJ.on rfl rfl (cB hb16) (y_idxStr Try.runUnderlying9 rfl rfl h18) rfl ?_
            refine QJ.on rfl rfl (cB hb16) (y_bin8 c17 (63 : UInt8) rfl rfl rfl) rfl ?_
            refine QJ.step (y_pick_t (cB hb16) rfl) rfl ?_
            obtain rfl := Option.some.inj h15
            exact QJ.cut_end ⟨rfl, rfl, rfl, rfl, rfl, trivial⟩
          · obtain rfl := andF h15 hb16
            refine QJ.off rfl rfl (cB hb16) rfl rfl ?_
            refine QJ.off rfl rfl (cB hb16) rfl rfl ?_
            refine QJ.off rfl rfl (cB hb16) rfl rfl ?_
            refine QJ.off rfl rfl (cB hb16) rfl rfl ?_
            refine QJ.step (y_pick_f (cB hb16) rfl) rfl ?_
            exact QJ.cut_end ⟨rfl, rfl, rfl, rfl, rfl, trivial⟩
        refine QJ.done ?_
        refine PJ.next ?_
        refine WJ.cond (t := t14) rfl (fun hb19 => ?_) (fun hb19 => ?_)
        · replace hm := ifT hm hb19
          refine WJ.seq ?_
          refine WJ.quiet ?_
          refine QJ.step (y_assign rfl) rfl ?_
          refine QJ.done ?_
          refine PJ.next ?_
          refine WJ.ret ?_
          refine PJ.block_ret (PJ.then_ret (PJ.then_ret (PJ.block_ret (PJ.then_ret ?_))))
          obtain rfl := Option.some.inj hm
          refine PJ.sel (L' := []) [] ⟨List.nodup_nil, rfl⟩ ?_
          exact PJ.retn (vs := [.bool false]) Try.results66 ⟨rfl, trivial⟩ ⟨rfl, rfl⟩
        · replace hm := ifF hm hb19
          refine WJ.skip ?_
          refine PJ.block_normal (PJ.next ?_)
          refine WJ.quiet ?_
          refine QJ.step (y_bin rfl rfl rfl) rfl ?_
          refine QJ.step (y_move rfl) rfl ?_
          refine QJ.done ?_
          exact PJ.round (w64 (x5 + 1)) [] hm ⟨rfl, rfl, rfl, rfl, trivial⟩ ⟨List.nodup_nil, rfl⟩
      · replace hm := ifF hm hb6
        refine WJ.exit ?_
        refine PJ.then_exit (PJ.then_exit (PJ.block_exit ?_))
        exact PJ.joined () [] hm ⟨rfl, rfl, trivial⟩ ⟨List.nodup_nil, rfl⟩
  · rintro _ hm
    subst hk4
    refine WJ.seq ?_
    refine WJ.quiet ?_
    refine QJ.step (y_move rfl) rfl ?_
    refine QJ.step (y_lenStr Try.runUnderlying9 rfl) rfl ?_
    refine QJ.step (y_move rfl) rfl ?_
    refine QJ.step (y_bin rfl rfl rfl) rfl ?_
    refine QJ.step (y_assign rfl) rfl ?_
    refine QJ.done ?_
    refine PJ.next ?_
    refine WJ.ret ?_
    obtain rfl := Option.some.inj hm
    refine PJ.sel (L' := []) [] ⟨List.nodup_nil, rfl⟩ ?_
    exact PJ.retn (vs := [.bool ((List.length answers1 : Int) == tests2)]) Try.results66 ⟨rfl, trivial⟩ ⟨rfl, rfl⟩

set_option maxRecDepth 100000 in
set_option maxHeartbeats 1000000 in
theorem ok_i_answersCode {N : Nat} {list1 : List Defect} {prices4 : List Int} {answers7 : Str} {r : Int} (hm : i_answersCode N list1 prices4 answers7 = some r) (w : World) (v2 : Value) (hr3 : RdS w (cx w).Fz v2 fDefect.rp list1) (v5 : Value) (hr6 : RdS w (cx w).Fz v5 fI64.rp prices4) :
    Calls Try.prog 57 #[v2, v5, str answers7] w (Ret (cx w) (.int .i64 r)) := by
  unfold i_answersCode at hm
  refine Calls.enter [v2, v5, str answers7] Try.func57 rfl Try.ntmps57 rfl ?_
  refine WJ.seq ?_
  refine WJ.quiet ?_
  refine QJ.step (y_assign rfl) rfl ?_
  refine QJ.done ?_
  refine PJ.next ?_
  refine WJ.seq ?_
  refine WJ.seq ?_
  refine WJ.quiet ?_
  refine QJ.step (y_move rfl) rfl ?_
  refine QJ.step (y_move rfl) rfl ?_
  obtain ⟨r8, h9, hm⟩ := bindS hm
  refine QJ.step (y_call Try.call47 rfl (RetG.quiet fun w hw => ok_i_ValidDefects h9 w _ (hr3.st hw) _ (hr6.st hw))) rfl ?_
  refine QJ.step (y_not rfl) rfl ?_
  refine QJ.done ?_
  refine PJ.next ?_
  refine WJ.cond (t := !r8) rfl (fun hb10 => ?_) (fun hb10 => ?_)
  · replace hm := ifT hm hb10
    refine WJ.seq ?_
    refine WJ.quiet ?_
    refine QJ.step (y_assign rfl) rfl ?_
    refine QJ.done ?_
    refine PJ.next ?_
    refine WJ.ret ?_
    refine PJ.then_ret ?_
    obtain rfl := Option.some.inj hm
    refine PJ.sel (L' := []) [] ⟨List.nodup_nil, rfl⟩ ?_
    exact PJ.retn (vs := [.int .i64 1]) Try.results57 ⟨rfl, trivial⟩ ⟨rfl, rfl⟩
  · replace hm := ifF hm hb10
    refine WJ.skip ?_
    refine PJ.next ?_
    refine WJ.seq ?_
    refine WJ.seq ?_
    refine WJ.quiet ?_
    refine QJ.step (y_move rfl) rfl ?_
    refine QJ.step (y_move rfl) rfl ?_
    refine QJ.step (y_lenS Try.runUnderlying32 hr6 rfl) rfl ?_
    obtain ⟨r11, h12, hm⟩ := bindS hm
    refine QJ.step (y_call Try.call66 rfl (RetG.quiet fun w hw => ok_i_areAnswers h12 w )) rfl ?_
    refine QJ.step (y_not rfl) rfl ?_
    refine QJ.done ?_
    refine PJ.next ?_
    refine WJ.cond (t := !r11) rfl (fun hb13 => ?_) (fun hb13 => ?_)
    · replace hm := ifT hm hb13
      refine WJ.seq ?_
      refine WJ.quiet ?_
      refine QJ.step (y_assign rfl) rfl ?_
      refine QJ.done ?_
      refine PJ.next ?_
      refine WJ.ret ?_
      refine PJ.then_ret ?_
      obtain rfl := Option.some.inj hm
      refine PJ.sel (L' := []) [] ⟨List.nodup_nil, rfl⟩ ?_
      exact PJ.retn (vs := [.int .i64 2]) Try.results57 ⟨rfl, trivial⟩ ⟨rfl, rfl⟩
    · replace hm := ifF hm hb13
      refine WJ.skip ?_
      refine PJ.next ?_
      refine WJ.seq ?_
      refine WJ.quiet ?_
      refine QJ.step (y_assign rfl) rfl ?_
      refine QJ.done ?_
      refine PJ.next ?_
      refine WJ.ret ?_
      obtain rfl := Option.some.inj hm
      refine PJ.sel (L' := []) [] ⟨List.nodup_nil, rfl⟩ ?_
      exact PJ.retn (vs := [.int .i64 0]) Try.results57 ⟨rfl, trivial⟩ ⟨rfl, rfl⟩

set_option maxRecDepth 100000 in
set_option maxHeartbeats 1000000 in
theorem ok_i_fitting {N : Nat} {list1 : List Defect} {answers4 : Str} {r : (List Int)} (hm : i_fitting N list1 answers4 = some r) (w : World) (v2 : Value) (hr3 : RdS w (cx w).Fz v2 fDefect.rp list1) :
    Calls Try.prog 58 #[v2, str answers4] w (RetG (cx w) fun u L => ∃ (u1 : Value), (u = u1 ∧ L = [row u1 2 fI64 r])) := by
  unfold i_fitting at hm
  refine Calls.enter [v2, str answers4] Try.func58 rfl Try.ntmps58 rfl ?_
  refine WJ.seq ?_
  refine WJ.quiet ?_
  refine QJ.step (y_assign rfl) rfl ?_
  refine QJ.done ?_
  refine PJ.next ?_
  refine WJ.seq ?_
  refine WJ.reg ?_
  refine SJ.buildSlice (R := fI64) (os := []) [] Try.runUnderlying32 Try.sizeOf2 Try.zeroValue2 rfl rfl rfl rfl rfl rfl fun v5 => ?_
  refine SJ.q (y_assign rfl) rfl ?_
  refine SJ.nil ?_
  refine PJ.next ?_
  obtain ⟨k8, hk9, hm⟩ := withK_open hm
  refine WJ.join (X := (List Int) × Value) (fun (x : (List Int) × Value) => k8 x.1 = some r) (fun (x : (List Int) × Value) => [(5, x.2)]) (fun (x : (List Int) × Value) => [row x.2 2 fI64 x.1]) ?_ ?_
  · clear hk9
    refine WJ.seq ?_
    refine WJ.quiet ?_
    refine QJ.step (y_move rfl) rfl ?_
    refine QJ.step (y_lenS Try.runUnderlying36 hr3 rfl) rfl ?_
    refine QJ.step (y_move rfl) rfl ?_
    refine QJ.done ?_
    refine PJ.next ?_
    refine WJ.block ?_
    refine WJ.sel (L' := (fun (x : (List Int) × Value × Int) => [row x.2.1 2 fI64 x.1]) ([], v5, 0)) [0] ⟨by decide, rfl⟩ ?_
    refine WJ.sub (m' := (fun (x : (List Int) × Value × Int) => [(1, str answers4), (5, x.2.1), (11, v2), (12, .int .i64 (List.length list1 : Int)), (13, .int .i64 x.2.2)]) ([], v5, 0)) ⟨rfl, rfl, rfl, rfl, rfl, trivial⟩ ?_
    refine WJ.loop (X := (List Int) × Value × Int) (fun N (x : (List Int) × Value × Int) => i_fitting_l1 k8 list1 answers4 N x.1 x.2.2 = some r) (fun (x : (List Int) × Value × Int) => [(1, str answers4), (5, x.2.1), (11, v2), (12, .int .i64 (List.length list1 : Int)), (13, .int .i64 x.2.2)]) (fun (x : (List Int) × Value × Int) => [row x.2.1 2 fI64 x.1]) ?_ N ([], v5, 0) hm
    · rintro N ⟨l10, v11, x12⟩ hI
      have hm := hI; clear hI
      cases N with
      | zero => cases hm
      | succ N =>
      unfold i_fitting_l1 at hm
      refine WJ.seq ?_
      refine WJ.quiet ?_
      refine QJ.step (y_bin rfl rfl rfl) rfl ?_
      refine QJ.done ?_
      refine PJ.next ?_
      refine WJ.seq ?_
      refine WJ.cond (t := decide (x12 < (List.length list1 : Int))) rfl (fun hb13 => ?_) (fun hb13 => ?_)
      · replace hm := ifT hm hb13
        refine WJ.skip ?_
        refine PJ.next ?_
        obtain ⟨k17, hk17, hm⟩ := withK_open hm
        refine WJ.join (X := (List Int) × Value) (fun (x : (List Int) × Value) => k17 x.1 = some r) (fun (x : (List Int) × Value) => [(1, str answers4), (5, x.2), (11, v2), (12, .int .i64 (List.length list1 : Int)), (13, .int .i64 x12)]) (fun (x : (List Int) × Value) => [row x.2 2 fI64 x.1]) ?_ ?_
        · clear hk17
          refine WJ.block ?_
          refine WJ.seq ?_
          refine WJ.reg ?_
          refine SJ.q (y_move rfl) rfl ?_
          obtain ⟨e18, h19, hm⟩ := bindS hm
          obtain ⟨ad20, _, rfl, ha21, hy22⟩ := hr3.elem h19
          refine SJ.q (hy22 Try.runUnderlying36 Try.sizeOf69 rfl rfl) rfl ?_
          refine SJ.q (y_loadN Try.isAgg69 Try.sizeOf69 rfl ha21 St.frozenC rfl) rfl ?_
          refine SJ.alloc (cs := [str [], .int .i64 0, str []]) Try.zeroValue69 rfl rfl fun g23 => ?_
          refine SJ.q (y_assign rfl) rfl ?_
          refine SJ.storeL (k := 0) (off := 0) (us := [str e18.name, .int .i64 e18.weight, str e18.signs]) rfl rfl rfl rfl Try.sizeOf69 rfl rfl ?_
          refine SJ.nil ?_
          refine PJ.next ?_
          refine WJ.seq ?_
          refine WJ.quiet ?_
          refine QJ.step (y_assign rfl) rfl ?_
          refine QJ.done ?_
          refine PJ.next ?_
          obtain ⟨k27, hk26, hm⟩ := withK_open hm
          refine WJ.join (X := Bool) (fun (x : Bool) => k27 x = some r) (fun (x : Bool) => [(1, str answers4), (5, v11), (6, .int .i64 x12), (8, .bool x), (11, v2), (12, .int .i64 (List.length list1 : Int)), (13, .int .i64 x12)]) (fun (x : Bool) => [row v11 2 fI64 l10]) ?_ ?_
          · clear hk26
            refine WJ.seq ?_
            refine WJ.quiet ?_
            refine QJ.step (y_move rfl) rfl ?_
            refine QJ.step (y_lenStr Try.runUnderlying9 rfl) rfl ?_
            refine QJ.step (y_move rfl) rfl ?_
            refine QJ.done ?_
            refine PJ.next ?_
            refine WJ.block ?_
            refine WJ.sel (L' := (fun (x : Bool × Int) => [box g23 69 [str e18.name, .int .i64 e18.weight, str e18.signs], row v11 2 fI64 l10]) (true, 0)) [0, 1] ⟨by decide, rfl⟩ ?_
            refine WJ.sub (m' := (fun (x : Bool × Int) => [(1, str answers4), (5, v11), (6, .int .i64 x12), (7, pt g23 0), (8, .bool x.1), (11, v2), (12, .int .i64 (List.length list1 : Int)), (13, .int .i64 x12), (19, .int .i64 (List.length answers4 : Int)), (20, .int .i64 x.2)]) (true, 0)) ⟨rfl, rfl, rfl, rfl, rfl, rfl, rfl, rfl, rfl, rfl, trivial⟩ ?_
            refine WJ.loop (X := Bool × Int) (fun N (x : Bool × Int) => i_fitting_l2 k27 answers4 e18 N x.1 x.2 = some r) (fun (x : Bool × Int) => [(1, str answers4), (5, v11), (6, .int .i64 x12), (7, pt g23 0), (8, .bool x.1), (11, v2), (12, .int .i64 (List.length list1 : Int)), (13, .int .i64 x12), (19, .int .i64 (List.length answers4 : Int)), (20, .int .i64 x.2)]) (fun (x : Bool × Int) => [box g23 69 [str e18.name, .int .i64 e18.weight, str e18.signs], row v11 2 fI64 l10]) ?_ N (true, 0) hm
            · rintro N ⟨fits27, x28⟩ hI
              have hm := hI; clear hI
              cases N with
              | zero => cases hm
              | succ N =>
              unfold i_fitting_l2 at hm
              refine WJ.seq ?_
              refine WJ.quiet ?_
              refine QJ.step (y_bin rfl rfl rfl) rfl ?_
              refine QJ.done ?_
              refine PJ.next ?_
              refine WJ.seq ?_
              refine WJ.cond (t := decide (x28 < (List.length answers4 : Int))) rfl (fun hb29 => ?_) (fun hb29 => ?_)
              · replace hm := ifT hm hb29
                refine WJ.skip ?_
                refine PJ.next ?_
                refine WJ.seq ?_
                refine WJ.block ?_
                refine WJ.seq ?_
                refine WJ.quiet ?_
                refine QJ.step (y_move rfl) rfl ?_
                refine QJ.step (y_assign rfl) rfl ?_
                refine QJ.done ?_
                refine PJ.next ?_
                refine WJ.quiet_draw follows (by kernel_rfl) ?_
                refine QJ.step (y_move rfl) rfl ?_
                refine QJ.step (y_move rfl) rfl ?_
                obtain ⟨t30, h31, hm⟩ := bindS hm
                refine QJ.cut 15 [(1, str answers4), (5, v11), (6, .int .i64 x12), (7, pt g23 0), (11, v2), (12, .int .i64 (List.length list1 : Int)), (13, .int .i64 x12), (19, .int .i64 (List.length answers4 : Int)), (20, .int .i64 x28), (39, .bool t30)] ?_ ?_
                · rcases Bool.eq_false_or_eq_true fits27 with hb32 | hb32
                  · replace h31 := andT h31 hb32
                    refine QJ.on rfl rfl (cB hb32) (y_move rfl) rfl ?_
                    refine QJ.on rfl rfl (cB hb32) (y_move rfl) rfl ?_
                    obtain ⟨c33, h34, h31⟩ := bindS h31
                    refine QJ.on rfl rfl (cB hb32) (y_idxStr Try.runUnderlying9 rfl rfl h34) rfl ?_
                    refine QJ.on rfl rfl (cB hb32) (y_bin8 c33 (63 : UInt8) rfl rfl rfl) rfl ?_
                    refine QJ.on rfl rfl (cB hb32) (y_move rfl) rfl ?_
                    obtain ⟨t35, h36, h31⟩ := bindS h31
                    refine QJ.cut 9 [(1, str answers4), (5, v11), (6, .int .i64 x12), (7, pt g23 0), (8, .bool fits27), (11, v2), (12, .int .i64 (List.length list1 : Int)), (13, .int .i64 x12), (19, .int .i64 (List.length answers4 : Int)), (20, .int .i64 x28), (24, .bool fits27), (25, str answers4), (26, .int .i64 x28), (27, .int .u8 (UInt8.toNat c33 : Int)), (28, .bool (c33 == (63 : UInt8))), (29, .bool (c33 == (63 : UInt8))), (38, .bool t35)] ?_ ?_
                    · rcases Bool.eq_false_or_eq_true (c33 == (63 : UInt8)) with hb37 | hb37
                      · obtain rfl := orT h36 hb37
                        refine QJ.off rfl rfl (cB hb37) rfl rfl ?_
                        refine QJ.off rfl rfl (cB hb37) rfl rfl ?_
                        refine QJ.off rfl rfl (cB hb37) rfl rfl ?_
                        refine QJ.off rfl rfl (cB hb37) rfl rfl ?_
                        refine QJ.off rfl rfl (cB hb37) rfl rfl ?_
                        refine QJ.off rfl rfl (cB hb37) rfl rfl ?_
                        refine QJ.off rfl rfl (cB hb37) rfl rfl ?_
                        refine QJ.off rfl rfl (cB hb37) rfl rfl ?_
                        refine QJ.on rfl rfl (cB hb32) (y_pick_t (cB hb37) rfl) rfl ?_
                        exact QJ.cut_end ⟨rfl, rfl, rfl, rfl, rfl, rfl, rfl, rfl, rfl, rfl, rfl, rfl, rfl, rfl, rfl, rfl, rfl, trivial⟩
                      · replace h36 := orF h36 hb37
                        refine QJ.on rfl rfl (cB hb37) (y_move rfl) rfl ?_
                        refine QJ.on rfl rfl (cB hb37) (y_move rfl) rfl ?_
                        obtain ⟨c38, h39, h36⟩ := bindS h36
                        refine QJ.on rfl rfl (cB hb37) (y_idxStr Try.runUnderlying9 rfl rfl h39) rfl ?_
                        refine QJ.on rfl rfl (cB hb37) (y_fldB (o := 0) fld69_2 rfl) rfl ?_
                        refine QJ.on rfl rfl (cB hb37) (y_loadB (k := 0) (off := 2) (v := str e18.signs) rfl Try.isAgg9 rfl rfl) rfl ?_
                        refine QJ.on rfl rfl (cB hb37) (y_move rfl) rfl ?_
                        obtain ⟨c40, h41, h36⟩ := bindS h36
                        refine QJ.on rfl rfl (cB hb37) (y_idxStr Try.runUnderlying9 rfl rfl h41) rfl ?_
                        refine QJ.on rfl rfl (cB hb37) (y_bin8 c38 c40 rfl rfl rfl) rfl ?_
                        refine QJ.on rfl rfl (cB hb32) (y_pick_f (cB hb37) rfl) rfl ?_
                        obtain rfl := Option.some.inj h36
                        exact QJ.cut_end ⟨rfl, rfl, rfl, rfl, rfl, rfl, rfl, rfl, rfl, rfl, rfl, rfl, rfl, rfl, rfl, rfl, rfl, trivial⟩
                    refine QJ.step (y_pick_t (cB hb32) rfl) rfl ?_
                    obtain rfl := Option.some.inj h31
                    exact QJ.cut_end ⟨rfl, rfl, rfl, rfl, rfl, rfl, rfl, rfl, rfl, rfl, trivial⟩
                  · obtain rfl := andF h31 hb32
                    refine QJ.off rfl rfl (cB hb32) rfl rfl ?_
                    refine QJ.off rfl rfl (cB hb32) rfl rfl ?_
                    refine QJ.off rfl rfl (cB hb32) rfl rfl ?_
                    refine QJ.off rfl rfl (cB hb32) rfl rfl ?_
                    refine QJ.off rfl rfl (cB hb32) rfl rfl ?_
                    refine QJ.off_undef rfl rfl rfl rfl ?_
                    refine QJ.off_undef rfl rfl rfl rfl ?_
                    refine QJ.off_undef rfl rfl rfl rfl ?_
                    refine QJ.off_undef rfl rfl rfl rfl ?_
                    refine QJ.off_undef rfl rfl rfl rfl ?_
                    refine QJ.off_undef rfl rfl rfl rfl ?_
                    refine QJ.off_undef rfl rfl rfl rfl ?_
                    refine QJ.off_undef rfl rfl rfl rfl ?_
                    refine QJ.off rfl rfl (cB hb32) rfl rfl ?_
                    refine QJ.step (y_pick_f (cB hb32) rfl) rfl ?_
                    exact QJ.cut_end ⟨rfl, rfl, rfl, rfl, rfl, rfl, rfl, rfl, rfl, rfl, trivial⟩
                refine QJ.step (y_assign rfl) rfl ?_
                refine QJ.done ?_
                refine PJ.block_normal (PJ.next ?_)
                refine WJ.quiet ?_
                refine QJ.step (y_bin rfl rfl rfl) rfl ?_
                refine QJ.step (y_move rfl) rfl ?_
                refine QJ.done ?_
                exact PJ.round (t30, w64 (x28 + 1)) [0, 1] hm ⟨rfl, rfl, rfl, rfl, rfl, rfl, rfl, rfl, rfl, rfl, trivial⟩ ⟨by decide, rfl⟩
              · replace hm := ifF hm hb29
                refine WJ.exit ?_
                refine PJ.then_exit (PJ.then_exit (PJ.block_exit ?_))
                exact PJ.joined fits27 [1] hm ⟨rfl, rfl, rfl, rfl, rfl, rfl, rfl, trivial⟩ ⟨by decide, rfl⟩
          · rintro fits24 hm
            subst hk26
            refine WJ.seq ?_
            refine WJ.quiet ?_
            refine QJ.step (y_move rfl) rfl ?_
            refine QJ.done ?_
            refine PJ.next ?_
            refine WJ.cond (t := fits24) rfl (fun hb42 => ?_) (fun hb42 => ?_)
            · replace hm := ifT hm hb42
              refine WJ.reg ?_
              refine SJ.q (y_move rfl) rfl ?_
              refine SJ.q (y_move rfl) rfl ?_
              refine SJ.buildSlice (R := fI64) (os := [.tmp 43]) [x12] Try.runUnderlying32 Try.sizeOf2 Try.zeroValue2 rfl rfl rfl rfl rfl rfl fun v43 => ?_
              obtain ⟨l44, h45, hm⟩ := bindS hm
              refine SJ.append (k := 1) (R := fI64) h45 rfl Try.underlying32 el2 rfl rfl rfl (fun w hw => (hw.row_rd (k := 0) rfl)) rfl fun v46 => ?_
              refine SJ.q (y_assign rfl) rfl ?_
              refine SJ.nil ?_
              refine PJ.block_normal ?_
              exact PJ.joined (l44, v46) [1] hm ⟨rfl, rfl, rfl, rfl, rfl, trivial⟩ ⟨by decide, rfl⟩
            · replace hm := ifF hm hb42
              refine WJ.skip ?_
              refine PJ.block_normal ?_
              exact PJ.joined (l10, v11) [0] hm ⟨rfl, rfl, rfl, rfl, rfl, trivial⟩ ⟨by decide, rfl⟩
        · rintro ⟨l14, v15⟩ hm
          subst hk17
          refine WJ.quiet ?_
          refine QJ.step (y_bin rfl rfl rfl) rfl ?_
          refine QJ.step (y_move rfl) rfl ?_
          refine QJ.done ?_
          exact PJ.round (l14, v15, w64 (x12 + 1)) [0] hm ⟨rfl, rfl, rfl, rfl, rfl, trivial⟩ ⟨by decide, rfl⟩
      · replace hm := ifF hm hb13
        refine WJ.exit ?_
        refine PJ.then_exit (PJ.then_exit (PJ.block_exit ?_))
        exact PJ.joined (l10, v11) [0] hm ⟨rfl, trivial⟩ ⟨by decide, rfl⟩
  · rintro ⟨l6, v7⟩ hm
    subst hk9
    refine WJ.seq ?_
    refine WJ.quiet ?_
    refine QJ.step (y_move rfl) rfl ?_
    refine QJ.step (y_assign rfl) rfl ?_
    refine QJ.done ?_
    refine PJ.next ?_
    refine WJ.ret ?_
    obtain rfl := Option.some.inj hm
    refine PJ.sel (L' := [row v7 2 fI64 l6]) [0] ⟨by decide, rfl⟩ ?_
    exact PJ.retn (vs := [v7]) Try.results58 ⟨rfl, trivial⟩ ⟨_, rfl, rfl⟩

set_option maxRecDepth 100000 in
set_option maxHeartbeats 1000000 in
theorem ok_i_PossibleDefects {N : Nat} {list1 : List Defect} {prices4 : List Int} {answers7 : Str} {r : (List Int) × Int} (hm : i_PossibleDefects N list1 prices4 answers7 = some r) (w : World) (v2 : Value) (hr3 : RdS w (cx w).Fz v2 fDefect.rp list1) (v5 : Value) (hr6 : RdS w (cx w).Fz v5 fI64.rp prices4) :
    Calls Try.prog 34 #[v2, v5, str answers7] w (RetG (cx w) fun u L => ∃ (u1 : Value), (u = tup [u1, .int .i64 r.2] ∧ L = [row u1 2 fI64 r.1])) := by
  unfold i_PossibleDefects at hm
  refine Calls.enter [v2, v5, str answers7] Try.func34 rfl Try.ntmps34 rfl ?_
  refine WJ.seq ?_
  refine WJ.quiet ?_
  refine QJ.step (y_assign rfl) rfl ?_
  refine QJ.step (y_assign rfl) rfl ?_
  refine QJ.done ?_
  refine PJ.next ?_
  refine WJ.seq ?_
  refine WJ.seq ?_
  refine WJ.quiet ?_
  refine QJ.step (y_move rfl) rfl ?_
  refine QJ.step (y_move rfl) rfl ?_
  refine QJ.step (y_move rfl) rfl ?_
  obtain ⟨r8, h9, hm⟩ := bindS hm
  refine QJ.step (y_call Try.call57 rfl (RetG.quiet fun w hw => ok_i_answersCode h9 w _ (hr3.st hw) _ (hr6.st hw))) rfl ?_
  refine QJ.step (y_assign rfl) rfl ?_
  refine QJ.done ?_
  refine PJ.next ?_
  refine WJ.seq ?_
  refine WJ.quiet ?_
  refine QJ.step (y_move rfl) rfl ?_
  refine QJ.step (y_bin rfl rfl rfl) rfl ?_
  refine QJ.done ?_
  refine PJ.next ?_
  refine WJ.cond (t := (r8 != 0)) rfl (fun hb10 => ?_) (fun hb10 => ?_)
  · replace hm := ifT hm hb10
    refine WJ.seq ?_
    refine WJ.quiet ?_
    refine QJ.step (y_move rfl) rfl ?_
    refine QJ.step (y_assign rfl) rfl ?_
    refine QJ.step (y_assign rfl) rfl ?_
    refine QJ.done ?_
    refine PJ.next ?_
    refine WJ.ret ?_
    refine PJ.then_ret ?_
    refine PJ.nil_row 2 fI64 ?_
    obtain rfl := Option.some.inj hm
    refine PJ.sel (L' := [row (.slice none 0 0) 2 fI64 []]) [0] ⟨by decide, rfl⟩ ?_
    exact PJ.retn (vs := [(.slice none 0 0), .int .i64 r8]) Try.results34 ⟨rfl, rfl, trivial⟩ ⟨_, rfl, rfl⟩
  · replace hm := ifF hm hb10
    refine WJ.skip ?_
    refine PJ.next ?_
    refine WJ.seq ?_
    refine WJ.reg ?_
    refine SJ.q (y_move rfl) rfl ?_
    refine SJ.q (y_move rfl) rfl ?_
    obtain ⟨r11, h12, hm⟩ := bindS hm
    refine SJ.call Try.call58 rfl (fun w hw => ok_i_fitting h12 w _ (hr3.st hw)) rfl ?_
    rintro v13 _ ⟨_, rfl, rfl⟩
    refine SJ.q (y_assign rfl) rfl ?_
    refine SJ.q (y_assign rfl) rfl ?_
    refine SJ.nil ?_
    refine PJ.next ?_
    refine WJ.ret ?_
    obtain rfl := Option.some.inj hm
    refine PJ.sel (L' := [row v13 2 fI64 r11]) [0] ⟨by decide, rfl⟩ ?_
    exact PJ.retn (vs := [v13, .int .i64 0]) Try.results34 ⟨rfl, rfl, trivial⟩ ⟨_, rfl, rfl⟩

set_option maxRecDepth 100000 in
set_option maxHeartbeats 1000000 in
theorem ok_w_eqInt64S {N : Nat} {a1 : List Int} {b4 : List Int} {r : Bool} (hm : w_eqInt64S N a1 b4 = some r) (w : World) (v2 : Value) (hr3 : RdS w (cx w).Fz v2 fI64.rp a1) (v5 : Value) (hr6 : RdS w (cx w).Fz v5 fI64.rp b4) :
    Calls Try.prog 23 #[v2, v5] w (Ret (cx w) (.bool r)) := by
  unfold w_eqInt64S at hm
  refine Calls.enter [v2, v5] Try.func23 rfl Try.ntmps23 rfl ?_
  refine WJ.seq ?_
  refine WJ.quiet ?_
  refine QJ.step (y_assign rfl) rfl ?_
  refine QJ.done ?_
  refine PJ.next ?_
  refine WJ.seq ?_
  refine WJ.seq ?_
  refine WJ.quiet ?_
  refine QJ.step (y_move rfl) rfl ?_
  refine QJ.step (y_lenS Try.runUnderlying32 hr3 rfl) rfl ?_
  refine QJ.step (y_move rfl) rfl ?_
  refine QJ.step (y_lenS Try.runUnderlying32 hr6 rfl) rfl ?_
  refine QJ.step (y_bin rfl rfl rfl) rfl ?_
  refine QJ.done ?_
  refine PJ.next ?_
  refine WJ.cond (t := ((List.length a1 : Int) != (List.length b4 : Int))) rfl (fun hb7 => ?_) (fun hb7 => ?_)
  · replace hm := ifT hm hb7
    refine WJ.seq ?_
    refine WJ.quiet ?_
    refine QJ.step (y_assign rfl) rfl ?_
    refine QJ.done ?_
    refine PJ.next ?_
    refine WJ.ret ?_
    refine PJ.then_ret ?_
    obtain rfl := Option.some.inj hm
    refine PJ.sel (L' := []) [] ⟨List.nodup_nil, rfl⟩ ?_
    exact PJ.retn (vs := [.bool false]) Try.results23 ⟨rfl, trivial⟩ ⟨rfl, rfl⟩
  · replace hm := ifF hm hb7
    refine WJ.skip ?_
    refine PJ.next ?_
    obtain ⟨k8, hk9, hm⟩ := withK_open hm
    refine WJ.join (X := Unit) (fun (_ : Unit) => k8  = some r) (fun (_ : Unit) => []) (fun (_ : Unit) => []) ?_ ?_
    · clear hk9
      refine WJ.seq ?_
      refine WJ.quiet ?_
      refine QJ.step (y_assign rfl) rfl ?_
      refine QJ.done ?_
      refine PJ.next ?_
      refine WJ.block ?_
      refine WJ.sel (L' := (fun (x : Int) => []) 0) [] ⟨List.nodup_nil, rfl⟩ ?_
      refine WJ.sub (m' := (fun (x : Int) => [(0, v2), (1, v5), (5, .int .i64 x)]) 0) ⟨rfl, rfl, rfl, trivial⟩ ?_
      refine WJ.loop (X := Int) (fun N (x : Int) => w_eqInt64S_l1 k8 a1 b4 N x = some r) (fun (x : Int) => [(0, v2), (1, v5), (5, .int .i64 x)]) (fun (x : Int) => []) ?_ N 0 hm
      · rintro N i10 hI
        have hm := hI; clear hI
        cases N with
        | zero => cases hm
        | succ N =>
        unfold w_eqInt64S_l1 at hm
        refine WJ.seq ?_
        refine WJ.seq ?_
        refine WJ.quiet ?_
        refine QJ.step (y_move rfl) rfl ?_
        refine QJ.step (y_move rfl) rfl ?_
        refine QJ.step (y_lenS Try.runUnderlying32 hr3 rfl) rfl ?_
        refine QJ.step (y_bin rfl rfl rfl) rfl ?_
        refine QJ.done ?_
        refine PJ.next ?_
        refine WJ.cond (t := decide (i10 < (List.length a1 : Int))) rfl (fun hb11 => ?_) (fun hb11 => ?_)
        · replace hm := ifT hm hb11
          refine WJ.skip ?_
          refine PJ.next ?_
          refine WJ.seq ?_
          refine WJ.block ?_
          refine WJ.seq ?_
          refine WJ.quiet_draw follows (by kernel_rfl) ?_
          refine QJ.step (y_move rfl) rfl ?_
          refine QJ.step (y_move rfl) rfl ?_
          obtain ⟨e12, h13, hm⟩ := bindS hm
          obtain ⟨ad14, _, rfl, ha15, hy16⟩ := hr3.elem h13
          refine QJ.step (hy16 Try.runUnderlying32 Try.sizeOf2 rfl rfl) rfl ?_
          refine QJ.step (y_load1 (v := .int .i64 e12) Try.isAgg2 ha15 St.frozenC rfl) rfl ?_
          refine QJ.step (y_move rfl) rfl ?_
          refine QJ.step (y_move rfl) rfl ?_
          obtain ⟨e17, h18, hm⟩ := bindS hm
          obtain ⟨ad19, _, rfl, ha20, hy21⟩ := hr6.elem h18
          refine QJ.step (hy21 Try.runUnderlying32 Try.sizeOf2 rfl rfl) rfl ?_
          refine QJ.step (y_load1 (v := .int .i64 e17) Try.isAgg2 ha20 St.frozenC rfl) rfl ?_
          refine QJ.step (y_bin rfl rfl rfl) rfl ?_
          refine QJ.done ?_
          refine PJ.next ?_
          refine WJ.cond (t := (e12 != e17)) rfl (fun hb22 => ?_) (fun hb22 => ?_)
          · replace hm := ifT hm hb22
            refine WJ.seq ?_
            refine WJ.quiet ?_
            refine QJ.step (y_assign rfl) rfl ?_
            refine QJ.done ?_
            refine PJ.next ?_
            refine WJ.ret ?_
            refine PJ.block_ret (PJ.then_ret (PJ.then_ret (PJ.block_ret (PJ.then_ret ?_))))
            obtain rfl := Option.some.inj hm
            refine PJ.sel (L' := []) [] ⟨List.nodup_nil, rfl⟩ ?_
            exact PJ.retn (vs := [.bool false]) Try.results23 ⟨rfl, trivial⟩ ⟨rfl, rfl⟩
          · replace hm := ifF hm hb22
            refine WJ.skip ?_
            refine PJ.block_normal (PJ.next ?_)
            refine WJ.quiet ?_
            refine QJ.step (y_move rfl) rfl ?_
            refine QJ.step (y_bin rfl rfl rfl) rfl ?_
            refine QJ.step (y_assign rfl) rfl ?_
            refine QJ.done ?_
            exact PJ.round (w64 (i10 + 1)) [] hm ⟨rfl, rfl, rfl, trivial⟩ ⟨List.nodup_nil, rfl⟩
        · replace hm := ifF hm hb11
          refine WJ.exit ?_
          refine PJ.then_exit (PJ.then_exit (PJ.block_exit ?_))
          exact PJ.joined () [] hm trivial ⟨List.nodup_nil, rfl⟩
    · rintro _ hm
      subst hk9
      refine WJ.seq ?_
      refine WJ.quiet ?_
      refine QJ.step (y_assign rfl) rfl ?_
      refine QJ.done ?_
      refine PJ.next ?_
      refine WJ.ret ?_
      obtain rfl := Option.some.inj hm
      refine PJ.sel (L' := []) [] ⟨List.nodup_nil, rfl⟩ ?_
      exact PJ.retn (vs := [.bool true]) Try.results23 ⟨rfl, trivial⟩ ⟨rfl, rfl⟩

set_option maxRecDepth 100000 in
set_option maxHeartbeats 1000000 in
theorem ok_w_eqDefect {a1 : Defect} {b2 : Defect} {r : Bool} (hm : w_eqDefect a1 b2 = some r) (w : World)  :
    Calls Try.prog 49 #[.agg (Defect.enc a1).toArray, .agg (Defect.enc b2).toArray] w (Ret (cx w) (.bool r)) := by
  unfold w_eqDefect at hm
  refine Calls.enter [.agg (Defect.enc a1).toArray, .agg (Defect.enc b2).toArray] Try.func49 rfl Try.ntmps49 rfl ?_
  refine WJ.seq ?_
  refine WJ.reg ?_
  refine SJ.box (cs := [str a1.name, .int .i64 a1.weight, str a1.signs]) rfl rfl rfl fun g3 => ?_
  refine SJ.box (cs := [str b2.name, .int .i64 b2.weight, str b2.signs]) rfl rfl rfl fun g4 => ?_
  refine SJ.q (y_assign rfl) rfl ?_
  refine SJ.nil ?_
  refine PJ.next ?_
  refine WJ.seq ?_
  refine WJ.seq ?_
  refine WJ.quiet ?_
  refine QJ.step (y_fldB (o := 0) fld69_0 rfl) rfl ?_
  refine QJ.step (y_loadB (k := 1) (off := 0) (v := str a1.name) rfl Try.isAgg9 rfl rfl) rfl ?_
  refine QJ.step (y_fldB (o := 0) fld69_0 rfl) rfl ?_
  refine QJ.step (y_loadB (k := 0) (off := 0) (v := str b2.name) rfl Try.isAgg9 rfl rfl) rfl ?_
  refine QJ.step (y_binS rfl rfl rfl) rfl ?_
  refine QJ.done ?_
  refine PJ.next ?_
  refine WJ.cond (t := (a1.name != b2.name)) rfl (fun hb5 => ?_) (fun hb5 => ?_)
  · replace hm := ifT hm hb5
    refine WJ.seq ?_
    refine WJ.quiet ?_
    refine QJ.step (y_assign rfl) rfl ?_
    refine QJ.done ?_
    refine PJ.next ?_
    refine WJ.ret ?_
    refine PJ.then_ret ?_
    obtain rfl := Option.some.inj hm
    refine PJ.sel (L' := []) [] ⟨List.nodup_nil, rfl⟩ ?_
    exact PJ.retn (vs := [.bool false]) Try.results49 ⟨rfl, trivial⟩ ⟨rfl, rfl⟩
  · replace hm := ifF hm hb5
    refine WJ.skip ?_
    refine PJ.next ?_
    refine WJ.seq ?_
    refine WJ.seq ?_
    refine WJ.quiet ?_
    refine QJ.step (y_fldB (o := 0) fld69_1 rfl) rfl ?_
    refine QJ.step (y_loadB (k := 1) (off := 1) (v := .int .i64 a1.weight) rfl Try.isAgg2 rfl rfl) rfl ?_
    refine QJ.step (y_fldB (o := 0) fld69_1 rfl) rfl ?_
    refine QJ.step (y_loadB (k := 0) (off := 1) (v := .int .i64 b2.weight) rfl Try.isAgg2 rfl rfl) rfl ?_
    refine QJ.step (y_bin rfl rfl rfl) rfl ?_
    refine QJ.done ?_
    refine PJ.next ?_
    refine WJ.cond (t := (a1.weight != b2.weight)) rfl (fun hb6 => ?_) (fun hb6 => ?_)
    · replace hm := ifT hm hb6
      refine WJ.seq ?_
      refine WJ.quiet ?_
      refine QJ.step (y_assign rfl) rfl ?_
      refine QJ.done ?_
      refine PJ.next ?_
      refine WJ.ret ?_
      refine PJ.then_ret ?_
      obtain rfl := Option.some.inj hm
      refine PJ.sel (L' := []) [] ⟨List.nodup_nil, rfl⟩ ?_
      exact PJ.retn (vs := [.bool false]) Try.results49 ⟨rfl, trivial⟩ ⟨rfl, rfl⟩
    · replace hm := ifF hm hb6
      refine WJ.skip ?_
      refine PJ.next ?_
      refine WJ.seq ?_
      refine WJ.seq ?_
      refine WJ.quiet ?_
      refine QJ.step (y_fldB (o := 0) fld69_2 rfl) rfl ?_
      refine QJ.step (y_loadB (k := 1) (off := 2) (v := str a1.signs) rfl Try.isAgg9 rfl rfl) rfl ?_
      refine QJ.step (y_fldB (o := 0) fld69_2 rfl) rfl ?_
      refine QJ.step (y_loadB (k := 0) (off := 2) (v := str b2.signs) rfl Try.isAgg9 rfl rfl) rfl ?_
      refine QJ.step (y_binS rfl rfl rfl) rfl ?_
      refine QJ.done ?_
      refine PJ.next ?_
      refine WJ.cond (t := (a1.signs != b2.signs)) rfl (fun hb7 => ?_) (fun hb7 => ?_)
      · replace hm := ifT hm hb7
        refine WJ.seq ?_
        refine WJ.quiet ?_
        refine QJ.step (y_assign rfl) rfl ?_
        refine QJ.done ?_
        refine PJ.next ?_
        refine WJ.ret ?_
        refine PJ.then_ret ?_
        obtain rfl := Option.some.inj hm
        refine PJ.sel (L' := []) [] ⟨List.nodup_nil, rfl⟩ ?_
        exact PJ.retn (vs := [.bool false]) Try.results49 ⟨rfl, trivial⟩ ⟨rfl, rfl⟩
      · replace hm := ifF hm hb7
        refine WJ.skip ?_
        refine PJ.next ?_
        refine WJ.seq ?_
        refine WJ.quiet ?_
        refine QJ.step (y_assign rfl) rfl ?_
        refine QJ.done ?_
        refine PJ.next ?_
        refine WJ.ret ?_
        obtain rfl := Option.some.inj hm
        refine PJ.sel (L' := []) [] ⟨List.nodup_nil, rfl⟩ ?_
        exact PJ.retn (vs := [.bool true]) Try.results49 ⟨rfl, trivial⟩ ⟨rfl, rfl⟩

set_option maxRecDepth 100000 in
set_option maxHeartbeats 1000000 in
theorem ok_w_eqDefectS {N : Nat} {a1 : List Defect} {b4 : List Defect} {r : Bool} (hm : w_eqDefectS N a1 b4 = some r) (w : World) (v2 : Value) (hr3 : RdS w (cx w).Fz v2 fDefect.rp a1) (v5 : Value) (hr6 : RdS w (cx w).Fz v5 fDefect.rp b4) :
    Calls Try.prog 22 #[v2, v5] w (Ret (cx w) (.bool r)) := by
  unfold w_eqDefectS at hm
  refine Calls.enter [v2, v5] Try.func22 rfl Try.ntmps22 rfl ?_
  refine WJ.seq ?_
  refine WJ.quiet ?_
  refine QJ.step (y_assign rfl) rfl ?_
  refine QJ.done ?_
  refine PJ.next ?_
  refine WJ.seq ?_
  refine WJ.seq ?_
  refine WJ.quiet ?_
  refine QJ.step (y_move rfl) rfl ?_
  refine QJ.step (y_lenS Try.runUnderlying36 hr3 rfl) rfl ?_
  refine QJ.step (y_move rfl) rfl ?_
  refine QJ.step (y_lenS Try.runUnderlying36 hr6 rfl) rfl ?_
  refine QJ.step (y_bin rfl rfl rfl) rfl ?_
  refine QJ.done ?_
  refine PJ.next ?_
  refine WJ.cond (t := ((List.length a1 : Int) != (List.length b4 : Int))) rfl (fun hb7 => ?_) (fun hb7 => ?_)
  · replace hm := ifT hm hb7
    refine WJ.seq ?_
    refine WJ.quiet ?_
    refine QJ.step (y_assign rfl) rfl ?_
    refine QJ.done ?_
    refine PJ.next ?_
    refine WJ.ret ?_
    refine PJ.then_ret ?_
    obtain rfl := Option.some.inj hm
    refine PJ.sel (L' := []) [] ⟨List.nodup_nil, rfl⟩ ?_
    exact PJ.retn (vs := [.bool false]) Try.results22 ⟨rfl, trivial⟩ ⟨rfl, rfl⟩
  · replace hm := ifF hm hb7
    refine WJ.skip ?_
    refine PJ.next ?_
    obtain ⟨k8, hk9, hm⟩ := withK_open hm
    refine WJ.join (X := Unit) (fun (_ : Unit) => k8  = some r) (fun (_ : Unit) => []) (fun (_ : Unit) => []) ?_ ?_
    · clear hk9
      refine WJ.seq ?_
      refine WJ.quiet ?_
      refine QJ.step (y_assign rfl) rfl ?_
      refine QJ.done ?_
      refine PJ.next ?_
      refine WJ.block ?_
      refine WJ.sel (L' := (fun (x : Int) => []) 0) [] ⟨List.nodup_nil, rfl⟩ ?_
      refine WJ.sub (m' := (fun (x : Int) => [(0, v2), (1, v5), (5, .int .i64 x)]) 0) ⟨rfl, rfl, rfl, trivial⟩ ?_
      refine WJ.loop (X := Int) (fun N (x : Int) => w_eqDefectS_l1 k8 a1 b4 N x = some r) (fun (x : Int) => [(0, v2), (1, v5), (5, .int .i64 x)]) (fun (x : Int) => []) ?_ N 0 hm
      · rintro N i10 hI
        have hm := hI; clear hI
        cases N with
        | zero => cases hm
        | succ N =>
        unfold w_eqDefectS_l1 at hm
        refine WJ.seq ?_
        refine WJ.seq ?_
        refine WJ.quiet ?_
        refine QJ.step (y_move rfl) rfl ?_
        refine QJ.step (y_move rfl) rfl ?_
        refine QJ.step (y_lenS Try.runUnderlying36 hr3 rfl) rfl ?_
        refine QJ.step (y_bin rfl rfl rfl) rfl ?_
        refine QJ.done ?_
        refine PJ.next ?_
        refine WJ.cond (t := decide (i10 < (List.length a1 : Int))) rfl (fun hb11 => ?_) (fun hb11 => ?_)
        · replace hm := ifT hm hb11
          refine WJ.skip ?_
          refine PJ.next ?_
          refine WJ.seq ?_
          refine WJ.block ?_
          refine WJ.seq ?_
          refine WJ.quiet_draw follows (by kernel_rfl) ?_
          refine QJ.step (y_move rfl) rfl ?_
          refine QJ.step (y_move rfl) rfl ?_
          obtain ⟨e12, h13, hm⟩ := bindS hm
          obtain ⟨ad14, _, rfl, ha15, hy16⟩ := hr3.elem h13
          refine QJ.step (hy16 Try.runUnderlying36 Try.sizeOf69 rfl rfl) rfl ?_
          refine QJ.step (y_loadN Try.isAgg69 Try.sizeOf69 rfl ha15 St.frozenC rfl) rfl ?_
          refine QJ.step (y_move rfl) rfl ?_
          refine QJ.step (y_move rfl) rfl ?_
          obtain ⟨e17, h18, hm⟩ := bindS hm
          obtain ⟨ad19, _, rfl, ha20, hy21⟩ := hr6.elem h18
          refine QJ.step (hy21 Try.runUnderlying36 Try.sizeOf69 rfl rfl) rfl ?_
          refine QJ.step (y_loadN Try.isAgg69 Try.sizeOf69 rfl ha20 St.frozenC rfl) rfl ?_
          obtain ⟨r22, h23, hm⟩ := bindS hm
          refine QJ.step (y_call Try.call49 rfl (RetG.quiet fun w hw => ok_w_eqDefect h23 w )) rfl ?_
          refine QJ.step (y_not rfl) rfl ?_
          refine QJ.done ?_
          refine PJ.next ?_
          refine WJ.cond (t := !r22) rfl (fun hb24 => ?_) (fun hb24 => ?_)
          · replace hm := ifT hm hb24
            refine WJ.seq ?_
            refine WJ.quiet ?_
            refine QJ.step (y_assign rfl) rfl ?_
            refine QJ.done ?_
            refine PJ.next ?_
            refine WJ.ret ?_
            refine PJ.block_ret (PJ.then_ret (PJ.then_ret (PJ.block_ret (PJ.then_ret ?_))))
            obtain rfl := Option.some.inj hm
            refine PJ.sel (L' := []) [] ⟨List.nodup_nil, rfl⟩ ?_
            exact PJ.retn (vs := [.bool false]) Try.results22 ⟨rfl, trivial⟩ ⟨rfl, rfl⟩
          · replace hm := ifF hm hb24
            refine WJ.skip ?_
            refine PJ.block_normal (PJ.next ?_)
            refine WJ.quiet ?_
            refine QJ.step (y_move rfl) rfl ?_
            refine QJ.step (y_bin rfl rfl rfl) rfl ?_
            refine QJ.step (y_assign rfl) rfl ?_
            refine QJ.done ?_
            exact PJ.round (w64 (i10 + 1)) [] hm ⟨rfl, rfl, rfl, trivial⟩ ⟨List.nodup_nil, rfl⟩
        · replace hm := ifF hm hb11
          refine WJ.exit ?_
          refine PJ.then_exit (PJ.then_exit (PJ.block_exit ?_))
          exact PJ.joined () [] hm trivial ⟨List.nodup_nil, rfl⟩
    · rintro _ hm
      subst hk9
      refine WJ.seq ?_
      refine WJ.quiet ?_
      refine QJ.step (y_assign rfl) rfl ?_
      refine QJ.done ?_
      refine PJ.next ?_
      refine WJ.ret ?_
      obtain rfl := Option.some.inj hm
      refine PJ.sel (L' := []) [] ⟨List.nodup_nil, rfl⟩ ?_
      exact PJ.retn (vs := [.bool true]) Try.results22 ⟨rfl, trivial⟩ ⟨rfl, rfl⟩

set_option maxRecDepth 100000 in
set_option maxHeartbeats 1000000 in
theorem ok_w_markText {N : Nat} {k1 : Int} {r : Str} (hm : w_markText N k1 = some r) (w : World)  :
    Calls Try.prog 59 #[.int .i64 k1] w (Ret (cx w) (str r)) := by
  unfold w_markText at hm
  refine Calls.enter [.int .i64 k1] Try.func59 rfl Try.ntmps59 rfl ?_
  refine WJ.seq ?_
  refine WJ.quiet ?_
  refine QJ.step (y_assign rfl) rfl ?_
  refine QJ.done ?_
  refine PJ.next ?_
  refine WJ.seq ?_
  refine WJ.seq ?_
  refine WJ.quiet ?_
  refine QJ.step (y_move rfl) rfl ?_
  refine QJ.step (y_bin rfl rfl rfl) rfl ?_
  refine QJ.done ?_
  refine PJ.next ?_
  refine WJ.cond (t := decide (k1 ≤ 0)) rfl (fun hb2 => ?_) (fun hb2 => ?_)
  · replace hm := ifT hm hb2
    refine WJ.seq ?_
    refine WJ.quiet ?_
    refine QJ.step (y_assign rfl) rfl ?_
    refine QJ.done ?_
    refine PJ.next ?_
    refine WJ.ret ?_
    refine PJ.then_ret ?_
    obtain rfl := Option.some.inj hm
    refine PJ.sel (L' := []) [] ⟨List.nodup_nil, rfl⟩ ?_
    exact PJ.retn (vs := [str [109, 48]]) Try.results59 ⟨rfl, trivial⟩ ⟨rfl, rfl⟩
  · replace hm := ifF hm hb2
    refine WJ.skip ?_
    refine PJ.next ?_
    refine WJ.seq ?_
    refine WJ.quiet ?_
    refine QJ.step (y_assign rfl) rfl ?_
    refine QJ.done ?_
    refine PJ.next ?_
    obtain ⟨k4, hk5, hm⟩ := withK_open hm
    refine WJ.join (X := Str) (fun (x : Str) => k4 x = some r) (fun (x : Str) => [(3, str x)]) (fun (x : Str) => []) ?_ ?_
    · clear hk5
      refine WJ.block ?_
      refine WJ.sel (L' := (fun (x : Int × Str) => []) (k1, [])) [] ⟨List.nodup_nil, rfl⟩ ?_
      refine WJ.sub (m' := (fun (x : Int × Str) => [(0, .int .i64 x.1), (3, str x.2)]) (k1, [])) ⟨rfl, rfl, trivial⟩ ?_
      refine WJ.loop (X := Int × Str) (fun N (x : Int × Str) => w_markText_l1 k4 N x.1 x.2 = some r) (fun (x : Int × Str) => [(0, .int .i64 x.1), (3, str x.2)]) (fun (x : Int × Str) => []) ?_ N (k1, []) hm
      · rintro N ⟨k6, out7⟩ hI
        have hm := hI; clear hI
        cases N with
        | zero => cases hm
        | succ N =>
        unfold w_markText_l1 at hm
        refine WJ.seq ?_
        refine WJ.seq ?_
        refine WJ.quiet ?_
        refine QJ.step (y_move rfl) rfl ?_
        refine QJ.step (y_bin rfl rfl rfl) rfl ?_
        refine QJ.done ?_
        refine PJ.next ?_
        refine WJ.cond (t := decide (k6 > 0)) rfl (fun hb8 => ?_) (fun hb8 => ?_)
        · replace hm := ifT hm hb8
          refine WJ.skip ?_
          refine PJ.next ?_
          refine WJ.block ?_
          refine WJ.seq ?_
          refine WJ.reg ?_
          refine SJ.q (y_move rfl) rfl ?_
          refine SJ.q (y_rem rfl rfl (by decide)) rfl ?_
          refine SJ.q (y_bin rfl rfl rfl) rfl ?_
          refine SJ.q (y_convTo8 Try.runUnderlying3 Try.runUnderlying5 rfl) rfl ?_
          refine SJ.buildSlice (R := fByte) (os := [.tmp 11]) [UInt8.ofInt (w64 (48 + (Int.tmod k6 10)))] Try.runUnderlying91 Try.sizeOf5 Try.zeroValue5 rfl rfl rfl rfl rfl rfl fun v9 => ?_
          refine SJ.q (y_b2s Try.underlying91 Try.underlying9 Try.underlying5 (fun w hw => ⟨_, (hw.row_rd (k := 0) rfl)⟩) rfl) rfl ?_
          refine SJ.q (y_move rfl) rfl ?_
          obtain ⟨s10, h11, hm⟩ := bindS hm
          refine SJ.q (y_cat h11 rfl rfl) rfl ?_
          refine SJ.q (y_assign rfl) rfl ?_
          refine SJ.nil ?_
          refine PJ.next ?_
          refine WJ.quiet ?_
          refine QJ.step (y_move rfl) rfl ?_
          refine QJ.step (y_quo rfl rfl (by decide)) rfl ?_
          refine QJ.step (y_assign rfl) rfl ?_
          refine QJ.done ?_
          refine PJ.block_normal ?_
          exact PJ.round (w64 (Int.tdiv k6 10), s10) [] hm ⟨rfl, rfl, trivial⟩ ⟨List.nodup_nil, rfl⟩
        · replace hm := ifF hm hb8
          refine WJ.exit ?_
          refine PJ.then_exit (PJ.then_exit (PJ.block_exit ?_))
          exact PJ.joined out7 [] hm ⟨rfl, trivial⟩ ⟨List.nodup_nil, rfl⟩
    · rintro out3 hm
      subst hk5
      refine WJ.seq ?_
      refine WJ.quiet ?_
      refine QJ.step (y_move rfl) rfl ?_
      obtain ⟨s12, h13, hm⟩ := bindS hm
      refine QJ.step (y_cat h13 rfl rfl) rfl ?_
      refine QJ.step (y_assign rfl) rfl ?_
      refine QJ.done ?_
      refine PJ.next ?_
      refine WJ.ret ?_
      obtain rfl := Option.some.inj hm
      refine PJ.sel (L' := []) [] ⟨List.nodup_nil, rfl⟩ ?_
      exact PJ.retn (vs := [str s12]) Try.results59 ⟨rfl, trivial⟩ ⟨rfl, rfl⟩

set_option maxRecDepth 100000 in
set_option maxHeartbeats 1000000 in
theorem ok_w_markDefectS {N : Nat} {a1 : List Defect} {k3 : Int} {v2 : Value} {r : Int × (List Defect)} (hm : w_markDefectS N a1 k3 = some r) (w : World) (S : Nat → Prop)  (hA : (row v2 69 fDefect a1).holds w S) :
    Calls Try.prog 35 #[v2, .int .i64 k3] w (RetG ⟨w, S⟩ fun u L => (u = .int .i64 r.1 ∧ L = [row v2 69 fDefect r.2])) := by
  unfold w_markDefectS at hm
  refine Calls.enter1 hA [v2, .int .i64 k3] Try.func35 rfl Try.ntmps35 rfl ?_
  refine WJ.seq ?_
  refine WJ.quiet ?_
  refine QJ.step (y_assign rfl) rfl ?_
  refine QJ.done ?_
  refine PJ.next ?_
  obtain ⟨k6, hk7, hm⟩ := withK_open hm
  refine WJ.join (X := (List Defect) × Int) (fun (x : (List Defect) × Int) => k6 x.1 x.2 = some r) (fun (x : (List Defect) × Int) => [(1, .int .i64 x.2)]) (fun (x : (List Defect) × Int) => [row v2 69 fDefect x.1]) ?_ ?_
  · clear hk7
    refine WJ.seq ?_
    refine WJ.quiet ?_
    refine QJ.step (y_assign rfl) rfl ?_
    refine QJ.done ?_
    refine PJ.next ?_
    refine WJ.block ?_
    refine WJ.sel (L' := (fun (x : (List Defect) × Int × Int) => [row v2 69 fDefect x.1]) (a1, k3, 0)) [0] ⟨by decide, rfl⟩ ?_
    refine WJ.sub (m' := (fun (x : (List Defect) × Int × Int) => [(0, v2), (1, .int .i64 x.2.1), (5, .int .i64 x.2.2)]) (a1, k3, 0)) ⟨rfl, rfl, rfl, trivial⟩ ?_
    refine WJ.loop (X := (List Defect) × Int × Int) (fun N (x : (List Defect) × Int × Int) => w_markDefectS_l1 k6 N x.1 x.2.1 x.2.2 = some r) (fun (x : (List Defect) × Int × Int) => [(0, v2), (1, .int .i64 x.2.1), (5, .int .i64 x.2.2)]) (fun (x : (List Defect) × Int × Int) => [row v2 69 fDefect x.1]) ?_ N (a1, k3, 0) hm
    · rintro N ⟨l8, k9, i10⟩ hI
      have hm := hI; clear hI
      cases N with
      | zero => cases hm
      | succ N =>
      unfold w_markDefectS_l1 at hm
      refine WJ.seq ?_
      refine WJ.seq ?_
      refine WJ.quiet ?_
      refine QJ.step (y_move rfl) rfl ?_
      refine QJ.step (y_move rfl) rfl ?_
      refine QJ.step (y_lenRow (k := 0) rfl Try.runUnderlying36 rfl) rfl ?_
      refine QJ.step (y_bin rfl rfl rfl) rfl ?_
      refine QJ.done ?_
      refine PJ.next ?_
      refine WJ.cond (t := decide (i10 < (List.length l8 : Int))) rfl (fun hb11 => ?_) (fun hb11 => ?_)
      · replace hm := ifT hm hb11
        refine WJ.skip ?_
        refine PJ.next ?_
        refine WJ.seq ?_
        refine WJ.block ?_
        refine WJ.seq ?_
        refine WJ.reg ?_
        refine SJ.q (y_move rfl) rfl ?_
        refine SJ.q (y_move rfl) rfl ?_
        refine SJ.q (y_move rfl) rfl ?_
        obtain ⟨r12, h13, hm⟩ := bindS hm
        refine SJ.q (y_call Try.call59 rfl (RetG.quiet fun w hw => ok_w_markText h13 w )) rfl ?_
        obtain ⟨e14, h15, hm⟩ := bindS hm
        refine SJ.q (y_ixRow (k := 0) (R := fDefect) rfl Try.runUnderlying36 Try.sizeOf69 rfl rfl h15) rfl ?_
        refine SJ.q (y_fldR fld69_0 rfl) rfl ?_
        refine SJ.storeRL (k := 0) (i := (Int.toNat i10)) (off := 0) (us := [str r12]) (b := (Defect.mk r12 e14.weight e14.signs)) rfl rfl (idx_get h15) rfl rfl Try.sizeOf9 rfl rfl rfl ?_
        refine SJ.nil ?_
        refine PJ.next ?_
        refine WJ.seq ?_
        refine WJ.quiet ?_
        refine QJ.step (y_move rfl) rfl ?_
        refine QJ.step (y_bin rfl rfl rfl) rfl ?_
        refine QJ.step (y_assign rfl) rfl ?_
        refine QJ.done ?_
        refine PJ.next ?_
        refine WJ.seq ?_
        refine WJ.reg ?_
        refine SJ.q (y_move rfl) rfl ?_
        refine SJ.q (y_move rfl) rfl ?_
        refine SJ.q (y_move rfl) rfl ?_
        obtain ⟨e16, h17, hm⟩ := bindS hm
        refine SJ.q (y_ixRow (k := 0) (R := fDefect) rfl Try.runUnderlying36 Try.sizeOf69 rfl rfl h17) rfl ?_
        refine SJ.q (y_fldR fld69_1 rfl) rfl ?_
        refine SJ.storeRL (k := 0) (i := (Int.toNat i10)) (off := 1) (us := [.int .i64 (w64 (k9 + 1))]) (b := (Defect.mk e16.name (w64 (k9 + 1)) e16.signs)) rfl rfl (idx_get h17) rfl rfl Try.sizeOf2 rfl rfl rfl ?_
        refine SJ.nil ?_
        refine PJ.next ?_
        refine WJ.seq ?_
        refine WJ.quiet ?_
        refine QJ.step (y_move rfl) rfl ?_
        refine QJ.step (y_bin rfl rfl rfl) rfl ?_
        refine QJ.step (y_assign rfl) rfl ?_
        refine QJ.done ?_
        refine PJ.next ?_
        refine WJ.seq ?_
        refine WJ.reg ?_
        refine SJ.q (y_move rfl) rfl ?_
        refine SJ.q (y_move rfl) rfl ?_
        refine SJ.q (y_move rfl) rfl ?_
        obtain ⟨r18, h19, hm⟩ := bindS hm
        refine SJ.q (y_call Try.call59 rfl (RetG.quiet fun w hw => ok_w_markText h19 w )) rfl ?_
        obtain ⟨e20, h21, hm⟩ := bindS hm
        refine SJ.q (y_ixRow (k := 0) (R := fDefect) rfl Try.runUnderlying36 Try.sizeOf69 rfl rfl h21) rfl ?_
        refine SJ.q (y_fldR fld69_2 rfl) rfl ?_
        refine SJ.storeRL (k := 0) (i := (Int.toNat i10)) (off := 2) (us := [str r18]) (b := (Defect.mk e20.name e20.weight r18)) rfl rfl (idx_get h21) rfl rfl Try.sizeOf9 rfl rfl rfl ?_
        refine SJ.nil ?_
        refine PJ.next ?_
        refine WJ.quiet ?_
        refine QJ.step (y_move rfl) rfl ?_
        refine QJ.step (y_bin rfl rfl rfl) rfl ?_
        refine QJ.step (y_assign rfl) rfl ?_
        refine QJ.done ?_
        refine PJ.block_normal (PJ.next ?_)
        refine WJ.quiet ?_
        refine QJ.step (y_move rfl) rfl ?_
        refine QJ.step (y_bin rfl rfl rfl) rfl ?_
        refine QJ.step (y_assign rfl) rfl ?_
        refine QJ.done ?_
        exact PJ.round ((List.set (List.set (List.set l8 (Int.toNat i10) (Defect.mk r12 e14.weight e14.signs)) (Int.toNat i10) (Defect.mk e16.name (w64 (k9 + 1)) e16.signs)) (Int.toNat i10) (Defect.mk e20.name e20.weight r18)), w64 ((w64 ((w64 (k9 + 1)) + 1)) + 1), w64 (i10 + 1)) [0] hm ⟨rfl, rfl, rfl, trivial⟩ ⟨by decide, rfl⟩
      · replace hm := ifF hm hb11
        refine WJ.exit ?_
        refine PJ.then_exit (PJ.then_exit (PJ.block_exit ?_))
        exact PJ.joined (l8, k9) [0] hm ⟨rfl, trivial⟩ ⟨by decide, rfl⟩
  · rintro ⟨l4, k5⟩ hm
    subst hk7
    refine WJ.seq ?_
    refine WJ.quiet ?_
    refine QJ.step (y_move rfl) rfl ?_
    refine QJ.step (y_assign rfl) rfl ?_
    refine QJ.done ?_
    refine PJ.next ?_
    refine WJ.ret ?_
    obtain rfl := Option.some.inj hm
    refine PJ.sel (L' := [row v2 69 fDefect l4]) [0] ⟨by decide, rfl⟩ ?_
    exact PJ.retn (vs := [.int .i64 k5]) Try.results35 ⟨rfl, trivial⟩ ⟨rfl, rfl⟩

set_option maxRecDepth 100000 in
set_option maxHeartbeats 1000000 in
theorem ok_w_markInt64S {N : Nat} {a1 : List Int} {k3 : Int} {v2 : Value} {r : Int × (List Int)} (hm : w_markInt64S N a1 k3 = some r) (w : World) (S : Nat → Prop)  (hA : (row v2 2 fI64 a1).holds w S) :
    Calls Try.prog 36 #[v2, .int .i64 k3] w (RetG ⟨w, S⟩ fun u L => (u = .int .i64 r.1 ∧ L = [row v2 2 fI64 r.2])) := by
  unfold w_markInt64S at hm
  refine Calls.enter1 hA [v2, .int .i64 k3] Try.func36 rfl Try.ntmps36 rfl ?_
  refine WJ.seq ?_
  refine WJ.quiet ?_
  refine QJ.step (y_assign rfl) rfl ?_
  refine QJ.done ?_
  refine PJ.next ?_
  obtain ⟨k6, hk7, hm⟩ := withK_open hm
  refine WJ.join (X := (List Int) × Int) (fun (x : (List Int) × Int) => k6 x.1 x.2 = some r) (fun (x : (List Int) × Int) => [(1, .int .i64 x.2)]) (fun (x : (List Int) × Int) => [row v2 2 fI64 x.1]) ?_ ?_
  · clear hk7
    refine WJ.seq ?_
    refine WJ.quiet ?_
    refine QJ.step (y_assign rfl) rfl ?_
    refine QJ.done ?_
    refine PJ.next ?_
    refine WJ.block ?_
    refine WJ.sel (L' := (fun (x : (List Int) × Int × Int) => [row v2 2 fI64 x.1]) (a1, k3, 0)) [0] ⟨by decide, rfl⟩ ?_
    refine WJ.sub (m' := (fun (x : (List Int) × Int × Int) => [(0, v2), (1, .int .i64 x.2.1), (5, .int .i64 x.2.2)]) (a1, k3, 0)) ⟨rfl, rfl, rfl, trivial⟩ ?_
    refine WJ.loop (X := (List Int) × Int × Int) (fun N (x : (List Int) × Int × Int) => w_markInt64S_l1 k6 N x.1 x.2.1 x.2.2 = some r) (fun (x : (List Int) × Int × Int) => [(0, v2), (1, .int .i64 x.2.1), (5, .int .i64 x.2.2)]) (fun (x : (List Int) × Int × Int) => [row v2 2 fI64 x.1]) ?_ N (a1, k3, 0) hm
    · rintro N ⟨l8, k9, i10⟩ hI
      have hm := hI; clear hI
      cases N with
      | zero => cases hm
      | succ N =>
      unfold w_markInt64S_l1 at hm
      refine WJ.seq ?_
      refine WJ.seq ?_
      refine WJ.quiet ?_
      refine QJ.step (y_move rfl) rfl ?_
      refine QJ.step (y_move rfl) rfl ?_
      refine QJ.step (y_lenRow (k := 0) rfl Try.runUnderlying32 rfl) rfl ?_
      refine QJ.step (y_bin rfl rfl rfl) rfl ?_
      refine QJ.done ?_
      refine PJ.next ?_
      refine WJ.cond (t := decide (i10 < (List.length l8 : Int))) rfl (fun hb11 => ?_) (fun hb11 => ?_)
      · replace hm := ifT hm hb11
        refine WJ.skip ?_
        refine PJ.next ?_
        refine WJ.seq ?_
        refine WJ.block ?_
        refine WJ.seq ?_
        refine WJ.reg ?_
        refine SJ.q (y_move rfl) rfl ?_
        refine SJ.q (y_move rfl) rfl ?_
        refine SJ.q (y_move rfl) rfl ?_
        obtain ⟨e12, h13, hm⟩ := bindS hm
        refine SJ.q (y_ixRow (k := 0) (R := fI64) rfl Try.runUnderlying32 Try.sizeOf2 rfl rfl h13) rfl ?_
        refine SJ.storeRL (k := 0) (i := (Int.toNat i10)) (off := 0) (us := [.int .i64 k9]) (b := k9) rfl rfl (idx_get h13) rfl rfl Try.sizeOf2 rfl rfl rfl ?_
        refine SJ.nil ?_
        refine PJ.next ?_
        refine WJ.quiet ?_
        refine QJ.step (y_move rfl) rfl ?_
        refine QJ.step (y_bin rfl rfl rfl) rfl ?_
        refine QJ.step (y_assign rfl) rfl ?_
        refine QJ.done ?_
        refine PJ.block_normal (PJ.next ?_)
        refine WJ.quiet ?_
        refine QJ.step (y_move rfl) rfl ?_
        refine QJ.step (y_bin rfl rfl rfl) rfl ?_
        refine QJ.step (y_assign rfl) rfl ?_
        refine QJ.done ?_
        exact PJ.round ((List.set l8 (Int.toNat i10) k9), w64 (k9 + 1), w64 (i10 + 1)) [0] hm ⟨rfl, rfl, rfl, trivial⟩ ⟨by decide, rfl⟩
      · replace hm := ifF hm hb11
        refine WJ.exit ?_
        refine PJ.then_exit (PJ.then_exit (PJ.block_exit ?_))
        exact PJ.joined (l8, k9) [0] hm ⟨rfl, trivial⟩ ⟨by decide, rfl⟩
  · rintro ⟨l4, k5⟩ hm
    subst hk7
    refine WJ.seq ?_
    refine WJ.quiet ?_
    refine QJ.step (y_move rfl) rfl ?_
    refine QJ.step (y_assign rfl) rfl ?_
    refine QJ.done ?_
    refine PJ.next ?_
    refine WJ.ret ?_
    obtain rfl := Option.some.inj hm
    refine PJ.sel (L' := [row v2 2 fI64 l4]) [0] ⟨by decide, rfl⟩ ?_
    exact PJ.retn (vs := [.int .i64 k5]) Try.results36 ⟨rfl, trivial⟩ ⟨rfl, rfl⟩

set_option maxRecDepth 100000 in
set_option maxHeartbeats 1000000 in
theorem ok_w_heldInt64S {N : Nat} {a1 : List Int} {k4 : Int} {r : Int} (hm : w_heldInt64S N a1 k4 = some r) (w : World) (v2 : Value) (hr3 : RdS w (cx w).Fz v2 fI64.rp a1) :
    Calls Try.prog 37 #[v2, .int .i64 k4] w (Ret (cx w) (.int .i64 r)) := by
  unfold w_heldInt64S at hm
  refine Calls.enter [v2, .int .i64 k4] Try.func37 rfl Try.ntmps37 rfl ?_
  refine WJ.seq ?_
  refine WJ.quiet ?_
  refine QJ.step (y_assign rfl) rfl ?_
  refine QJ.done ?_
  refine PJ.next ?_
  obtain ⟨k6, hk7, hm⟩ := withK_open hm
  refine WJ.join (X := Int) (fun (x : Int) => k6 x = some r) (fun (x : Int) => [(1, .int .i64 x)]) (fun (x : Int) => []) ?_ ?_
  · clear hk7
    refine WJ.seq ?_
    refine WJ.quiet ?_
    refine QJ.step (y_assign rfl) rfl ?_
    refine QJ.done ?_
    refine PJ.next ?_
    refine WJ.block ?_
    refine WJ.sel (L' := (fun (x : Int × Int) => []) (k4, 0)) [] ⟨List.nodup_nil, rfl⟩ ?_
    refine WJ.sub (m' := (fun (x : Int × Int) => [(0, v2), (1, .int .i64 x.1), (5, .int .i64 x.2)]) (k4, 0)) ⟨rfl, rfl, rfl, trivial⟩ ?_
    refine WJ.loop (X := Int × Int) (fun N (x : Int × Int) => w_heldInt64S_l1 k6 a1 N x.1 x.2 = some r) (fun (x : Int × Int) => [(0, v2), (1, .int .i64 x.1), (5, .int .i64 x.2)]) (fun (x : Int × Int) => []) ?_ N (k4, 0) hm
    · rintro N ⟨k8, i9⟩ hI
      have hm := hI; clear hI
      cases N with
      | zero => cases hm
      | succ N =>
      unfold w_heldInt64S_l1 at hm
      refine WJ.seq ?_
      refine WJ.seq ?_
      refine WJ.quiet ?_
      refine QJ.step (y_move rfl) rfl ?_
      refine QJ.step (y_move rfl) rfl ?_
      refine QJ.step (y_lenS Try.runUnderlying32 hr3 rfl) rfl ?_
      refine QJ.step (y_bin rfl rfl rfl) rfl ?_
      refine QJ.done ?_
      refine PJ.next ?_
      refine WJ.cond (t := decide (i9 < (List.length a1 : Int))) rfl (fun hb10 => ?_) (fun hb10 => ?_)
      · replace hm := ifT hm hb10
        refine WJ.skip ?_
        refine PJ.next ?_
        refine WJ.seq ?_
        refine WJ.block ?_
        refine WJ.seq ?_
        refine WJ.seq ?_
        refine WJ.quiet ?_
        refine QJ.step (y_move rfl) rfl ?_
        refine QJ.step (y_move rfl) rfl ?_
        obtain ⟨e11, h12, hm⟩ := bindS hm
        obtain ⟨ad13, _, rfl, ha14, hy15⟩ := hr3.elem h12
        refine QJ.step (hy15 Try.runUnderlying32 Try.sizeOf2 rfl rfl) rfl ?_
        refine QJ.step (y_load1 (v := .int .i64 e11) Try.isAgg2 ha14 St.frozenC rfl) rfl ?_
        refine QJ.step (y_move rfl) rfl ?_
        refine QJ.step (y_bin rfl rfl rfl) rfl ?_
        refine QJ.done ?_
        refine PJ.next ?_
        refine WJ.cond (t := (e11 != k8)) rfl (fun hb16 => ?_) (fun hb16 => ?_)
        · replace hm := ifT hm hb16
          refine WJ.seq ?_
          refine WJ.quiet ?_
          refine QJ.step (y_assign rfl) rfl ?_
          refine QJ.done ?_
          refine PJ.next ?_
          refine WJ.ret ?_
          refine PJ.then_ret (PJ.block_ret (PJ.then_ret (PJ.then_ret (PJ.block_ret (PJ.then_ret ?_)))))
          obtain rfl := Option.some.inj hm
          refine PJ.sel (L' := []) [] ⟨List.nodup_nil, rfl⟩ ?_
          exact PJ.retn (vs := [.int .i64 (-1)]) Try.results37 ⟨rfl, trivial⟩ ⟨rfl, rfl⟩
        · replace hm := ifF hm hb16
          refine WJ.skip ?_
          refine PJ.next ?_
          refine WJ.quiet ?_
          refine QJ.step (y_move rfl) rfl ?_
          refine QJ.step (y_bin rfl rfl rfl) rfl ?_
          refine QJ.step (y_assign rfl) rfl ?_
          refine QJ.done ?_
          refine PJ.block_normal (PJ.next ?_)
          refine WJ.quiet ?_
          refine QJ.step (y_move rfl) rfl ?_
          refine QJ.step (y_bin rfl rfl rfl) rfl ?_
          refine QJ.step (y_assign rfl) rfl ?_
          refine QJ.done ?_
          exact PJ.round (w64 (k8 + 1), w64 (i9 + 1)) [] hm ⟨rfl, rfl, rfl, trivial⟩ ⟨List.nodup_nil, rfl⟩
      · replace hm := ifF hm hb10
        refine WJ.exit ?_
        refine PJ.then_exit (PJ.then_exit (PJ.block_exit ?_))
        exact PJ.joined k8 [] hm ⟨rfl, trivial⟩ ⟨List.nodup_nil, rfl⟩
  · rintro k5 hm
    subst hk7
    refine WJ.seq ?_
    refine WJ.quiet ?_
    refine QJ.step (y_move rfl) rfl ?_
    refine QJ.step (y_assign rfl) rfl ?_
    refine QJ.done ?_
    refine PJ.next ?_
    refine WJ.ret ?_
    obtain rfl := Option.some.inj hm
    refine PJ.sel (L' := []) [] ⟨List.nodup_nil, rfl⟩ ?_
    exact PJ.retn (vs := [.int .i64 k5]) Try.results37 ⟨rfl, trivial⟩ ⟨rfl, rfl⟩

set_option maxRecDepth 100000 in
set_option maxHeartbeats 1000000 in
theorem ok_w_FnExactPossibleDefects {N : Nat} {aList1 : List Defect} {x4 : List Int} {x7 : Str} {r : Bool} (hm : w_FnExactPossibleDefects N aList1 x4 x7 = some r) (w : World) (v2 : Value) (hr3 : RdS w (cx w).Fz v2 fDefect.rp aList1) (v5 : Value) (hr6 : RdS w (cx w).Fz v5 fI64.rp x4) :
    Calls Try.prog 9 #[v2, v5, str x7] w (Ret (cx w) (.bool r)) := by
  unfold w_FnExactPossibleDefects at hm
  refine Calls.enter [v2, v5, str x7] Try.func9 rfl Try.ntmps9 rfl ?_
  refine WJ.seq ?_
  refine WJ.quiet ?_
  refine QJ.step (y_assign rfl) rfl ?_
  refine QJ.done ?_
  refine PJ.next ?_
  refine WJ.seq ?_
  refine WJ.seq ?_
  refine WJ.quiet ?_
  refine QJ.step (y_move rfl) rfl ?_
  refine QJ.step (y_lenS Try.runUnderlying32 hr6 rfl) rfl ?_
  refine QJ.step (y_bin rfl rfl rfl) rfl ?_
  refine QJ.done ?_
  refine PJ.next ?_
  refine WJ.cond (t := decide ((List.length x4 : Int) > 1048576)) rfl (fun hb8 => ?_) (fun hb8 => ?_)
  · replace hm := ifT hm hb8
    refine WJ.seq ?_
    refine WJ.quiet ?_
    refine QJ.step (y_assign rfl) rfl ?_
    refine QJ.done ?_
    refine PJ.next ?_
    refine WJ.ret ?_
    refine PJ.then_ret ?_
    obtain rfl := Option.some.inj hm
    refine PJ.sel (L' := []) [] ⟨List.nodup_nil, rfl⟩ ?_
    exact PJ.retn (vs := [.bool true]) Try.results9 ⟨rfl, trivial⟩ ⟨rfl, rfl⟩
  · replace hm := ifF hm hb8
    refine WJ.skip ?_
    refine PJ.next ?_
    refine WJ.seq ?_
    refine WJ.seq ?_
    refine WJ.quiet ?_
    refine QJ.step (y_move rfl) rfl ?_
    refine QJ.step (y_lenStr Try.runUnderlying9 rfl) rfl ?_
    refine QJ.step (y_bin rfl rfl rfl) rfl ?_
    refine QJ.done ?_
    refine PJ.next ?_
    refine WJ.cond (t := decide ((List.length x7 : Int) > 1048576)) rfl (fun hb9 => ?_) (fun hb9 => ?_)
    · replace hm := ifT hm hb9
      refine WJ.seq ?_
      refine WJ.quiet ?_
      refine QJ.step (y_assign rfl) rfl ?_
      refine QJ.done ?_
      refine PJ.next ?_
      refine WJ.ret ?_
      refine PJ.then_ret ?_
      obtain rfl := Option.some.inj hm
      refine PJ.sel (L' := []) [] ⟨List.nodup_nil, rfl⟩ ?_
      exact PJ.retn (vs := [.bool true]) Try.results9 ⟨rfl, trivial⟩ ⟨rfl, rfl⟩
    · replace hm := ifF hm hb9
      refine WJ.skip ?_
      refine PJ.next ?_
      refine WJ.seq ?_
      refine WJ.quiet ?_
      refine QJ.step (y_assign rfl) rfl ?_
      refine QJ.done ?_
      refine PJ.next ?_
      refine WJ.seq ?_
      refine WJ.quiet ?_
      refine QJ.step (y_move rfl) rfl ?_
      refine QJ.step (y_move rfl) rfl ?_
      obtain ⟨r10, h11, hm⟩ := bindS hm
      refine QJ.step (y_call Try.call17 rfl (RetG.quiet fun w hw => ok_w_szDefectS h11 w _ (hr3.st hw))) rfl ?_
      refine QJ.step (y_assign rfl) rfl ?_
      refine QJ.done ?_
      refine PJ.next ?_
      refine WJ.seq ?_
      refine WJ.seq ?_
      refine WJ.quiet ?_
      refine QJ.step (y_move rfl) rfl ?_
      refine QJ.step (y_bin rfl rfl rfl) rfl ?_
      refine QJ.done ?_
      refine PJ.next ?_
      refine WJ.cond (t := decide (r10 < 0)) rfl (fun hb12 => ?_) (fun hb12 => ?_)
      · replace hm := ifT hm hb12
        refine WJ.seq ?_
        refine WJ.quiet ?_
        refine QJ.step (y_assign rfl) rfl ?_
        refine QJ.done ?_
        refine PJ.next ?_
        refine WJ.ret ?_
        refine PJ.then_ret ?_
        obtain rfl := Option.some.inj hm
        refine PJ.sel (L' := []) [] ⟨List.nodup_nil, rfl⟩ ?_
        exact PJ.retn (vs := [.bool true]) Try.results9 ⟨rfl, trivial⟩ ⟨rfl, rfl⟩
      · replace hm := ifF hm hb12
        refine WJ.skip ?_
        refine PJ.next ?_
        refine WJ.seq ?_
        refine WJ.reg ?_
        refine SJ.q (y_move rfl) rfl ?_
        obtain ⟨r13, h14, hm⟩ := bindS hm
        refine SJ.call Try.call19 rfl (fun w hw => ok_w_toDefectS h14 w _ (hr3.st hw)) rfl ?_
        rintro v15 _ ⟨_, rfl, rfl⟩
        refine SJ.q (y_move rfl) rfl ?_
        obtain ⟨r16, h17, hm⟩ := bindS hm
        refine SJ.call Try.call20 rfl (fun w hw => ok_w_toInt64S h17 w _ (hr6.st hw)) rfl ?_
        rintro v18 _ ⟨_, rfl, rfl⟩
        refine SJ.q (y_move rfl) rfl ?_
        obtain ⟨r19, h20, hm⟩ := bindS hm
        refine SJ.call Try.call33 rfl (fun w hw => ok_s_PossibleDefects h20 w _ (hw.row_rd (k := 1) rfl) _ (hw.row_rd (k := 0) rfl)) rfl ?_
        rintro _ _ ⟨v21, rfl, rfl⟩
        refine SJ.q (y_move rfl) rfl ?_
        refine SJ.q (y_extract rfl rfl) rfl ?_
        refine SJ.q (y_extract rfl rfl) rfl ?_
        refine SJ.q (y_assign rfl) rfl ?_
        refine SJ.q (y_assign rfl) rfl ?_
        refine SJ.nil ?_
        refine PJ.next ?_
        refine WJ.seq ?_
        refine WJ.reg ?_
        refine SJ.q (y_move rfl) rfl ?_
        obtain ⟨r22, h23, hm⟩ := bindS hm
        refine SJ.call Try.call19 rfl (fun w hw => ok_w_toDefectS h23 w _ (hr3.st hw)) rfl ?_
        rintro v24 _ ⟨_, rfl, rfl⟩
        refine SJ.q (y_assign rfl) rfl ?_
        refine SJ.nil ?_
        refine PJ.next ?_
        refine WJ.seq ?_
        refine WJ.reg ?_
        refine SJ.q (y_move rfl) rfl ?_
        obtain ⟨r25, h26, hm⟩ := bindS hm
        refine SJ.call Try.call20 rfl (fun w hw => ok_w_toInt64S h26 w _ (hr6.st hw)) rfl ?_
        rintro v27 _ ⟨_, rfl, rfl⟩
        refine SJ.q (y_assign rfl) rfl ?_
        refine SJ.nil ?_
        refine PJ.next ?_
        refine WJ.seq ?_
        refine WJ.reg ?_
        refine SJ.q (y_move rfl) rfl ?_
        refine SJ.q (y_move rfl) rfl ?_
        refine SJ.q (y_move rfl) rfl ?_
        obtain ⟨r28, h29, hm⟩ := bindS hm
        refine SJ.call Try.call34 rfl (fun w hw => ok_i_PossibleDefects h29 w _ (hw.row_rd (k := 1) rfl) _ (hw.row_rd (k := 0) rfl)) rfl ?_
        rintro _ _ ⟨v30, rfl, rfl⟩
        refine SJ.q (y_move rfl) rfl ?_
        refine SJ.q (y_extract rfl rfl) rfl ?_
        refine SJ.q (y_extract rfl rfl) rfl ?_
        refine SJ.q (y_assign rfl) rfl ?_
        refine SJ.q (y_assign rfl) rfl ?_
        refine SJ.nil ?_
        refine PJ.next ?_
        refine WJ.seq ?_
        refine WJ.seq ?_
        refine WJ.quiet ?_
        refine QJ.step (y_move rfl) rfl ?_
        refine QJ.step (y_move rfl) rfl ?_
        obtain ⟨r31, h32, hm⟩ := bindS hm
        refine QJ.step (y_call Try.call23 rfl (RetG.quiet fun w hw => ok_w_eqInt64S h32 w _ (hw.row_rd (k := 0) rfl) _ (hw.row_rd (k := 3) rfl))) rfl ?_
        refine QJ.step (y_not rfl) rfl ?_
        refine QJ.step (y_move rfl) rfl ?_
        obtain ⟨t33, h34, hm⟩ := bindS hm
        refine QJ.cut 4 [(0, v2), (1, v5), (2, str x7), (8, v21), (9, .int .i64 r19.2), (10, v24), (11, v27), (12, v30), (13, .int .i64 r28.2), (58, .bool t33)] ?_ ?_
        · rcases Bool.eq_false_or_eq_true (!r31) with hb35 | hb35
          · obtain rfl := orT h34 hb35
            refine QJ.off rfl rfl (cB hb35) rfl rfl ?_
            refine QJ.off rfl rfl (cB hb35) rfl rfl ?_
            refine QJ.off rfl rfl (cB hb35) rfl rfl ?_
            refine QJ.step (y_pick_t (cB hb35) rfl) rfl ?_
            exact QJ.cut_end ⟨rfl, rfl, rfl, rfl, rfl, rfl, rfl, rfl, rfl, rfl, trivial⟩
          · replace h34 := orF h34 hb35
            refine QJ.on rfl rfl (cB hb35) (y_move rfl) rfl ?_
            refine QJ.on rfl rfl (cB hb35) (y_move rfl) rfl ?_
            refine QJ.on rfl rfl (cB hb35) (y_bin rfl rfl rfl) rfl ?_
            refine QJ.step (y_pick_f (cB hb35) rfl) rfl ?_
            obtain rfl := Option.some.inj h34
            exact QJ.cut_end ⟨rfl, rfl, rfl, rfl, rfl, rfl, rfl, rfl, rfl, rfl, trivial⟩
        refine QJ.done ?_
        refine PJ.next ?_
        refine WJ.cond (t := t33) rfl (fun hb36 => ?_) (fun hb36 => ?_)
        · replace hm := ifT hm hb36
          refine WJ.seq ?_
          refine WJ.quiet ?_
          refine QJ.step (y_assign rfl) rfl ?_
          refine QJ.done ?_
          refine PJ.next ?_
          refine WJ.ret ?_
          refine PJ.then_ret ?_
          obtain rfl := Option.some.inj hm
          refine PJ.sel (L' := []) [] ⟨List.nodup_nil, rfl⟩ ?_
          exact PJ.retn (vs := [.bool false]) Try.results9 ⟨rfl, trivial⟩ ⟨rfl, rfl⟩
        · replace hm := ifF hm hb36
          refine WJ.skip ?_
          refine PJ.next ?_
          refine WJ.seq ?_
          refine WJ.seq ?_
          refine WJ.reg ?_
          refine SJ.q (y_move rfl) rfl ?_
          refine SJ.q (y_move rfl) rfl ?_
          obtain ⟨r37, h38, hm⟩ := bindS hm
          refine SJ.call Try.call19 rfl (fun w hw => ok_w_toDefectS h38 w _ (hr3.st hw)) rfl ?_
          rintro v39 _ ⟨_, rfl, rfl⟩
          obtain ⟨r40, h41, hm⟩ := bindS hm
          refine SJ.q (y_call Try.call22 rfl (RetG.quiet fun w hw => ok_w_eqDefectS h41 w _ (hw.row_rd (k := 3) rfl) _ (hw.row_rd (k := 0) rfl))) rfl ?_
          refine SJ.q (y_not rfl) rfl ?_
          refine SJ.nil ?_
          refine PJ.next ?_
          refine WJ.cond (t := !r40) rfl (fun hb42 => ?_) (fun hb42 => ?_)
          · replace hm := ifT hm hb42
            refine WJ.seq ?_
            refine WJ.quiet ?_
            refine QJ.step (y_assign rfl) rfl ?_
            refine QJ.done ?_
            refine PJ.next ?_
            refine WJ.ret ?_
            refine PJ.then_ret ?_
            obtain rfl := Option.some.inj hm
            refine PJ.sel (L' := []) [] ⟨List.nodup_nil, rfl⟩ ?_
            exact PJ.retn (vs := [.bool false]) Try.results9 ⟨rfl, trivial⟩ ⟨rfl, rfl⟩
          · replace hm := ifF hm hb42
            refine WJ.skip ?_
            refine PJ.next ?_
            refine WJ.seq ?_
            refine WJ.seq ?_
            refine WJ.reg ?_
            refine SJ.q (y_move rfl) rfl ?_
            refine SJ.q (y_move rfl) rfl ?_
            obtain ⟨r43, h44, hm⟩ := bindS hm
            refine SJ.call Try.call20 rfl (fun w hw => ok_w_toInt64S h44 w _ (hr6.st hw)) rfl ?_
            rintro v45 _ ⟨_, rfl, rfl⟩
            obtain ⟨r46, h47, hm⟩ := bindS hm
            refine SJ.q (y_call Try.call23 rfl (RetG.quiet fun w hw => ok_w_eqInt64S h47 w _ (hw.row_rd (k := 3) rfl) _ (hw.row_rd (k := 0) rfl))) rfl ?_
            refine SJ.q (y_not rfl) rfl ?_
            refine SJ.nil ?_
            refine PJ.next ?_
            refine WJ.cond (t := !r46) rfl (fun hb48 => ?_) (fun hb48 => ?_)
            · replace hm := ifT hm hb48
              refine WJ.seq ?_
              refine WJ.quiet ?_
              refine QJ.step (y_assign rfl) rfl ?_
              refine QJ.done ?_
              refine PJ.next ?_
              refine WJ.ret ?_
              refine PJ.then_ret ?_
              obtain rfl := Option.some.inj hm
              refine PJ.sel (L' := []) [] ⟨List.nodup_nil, rfl⟩ ?_
              exact PJ.retn (vs := [.bool false]) Try.results9 ⟨rfl, trivial⟩ ⟨rfl, rfl⟩
            · replace hm := ifF hm hb48
              refine WJ.skip ?_
              refine PJ.next ?_
              refine WJ.seq ?_
              refine WJ.quiet ?_
              refine QJ.step (y_assign rfl) rfl ?_
              refine QJ.done ?_
              refine PJ.next ?_
              refine WJ.seq ?_
              refine WJ.reg ?_
              refine SJ.q (y_move rfl) rfl ?_
              refine SJ.q (y_move rfl) rfl ?_
              obtain ⟨r49, h50, hm⟩ := bindS hm
              refine SJ.call1 (k := 4) rfl Try.call35 rfl (fun w S hw hA hO => ok_w_markDefectS h50 w S  hA) rfl ?_
              rintro _ _ ⟨rfl, rfl⟩
              refine SJ.q (y_assign rfl) rfl ?_
              refine SJ.nil ?_
              refine PJ.next ?_
              refine WJ.seq ?_
              refine WJ.reg ?_
              refine SJ.q (y_move rfl) rfl ?_
              refine SJ.q (y_move rfl) rfl ?_
              obtain ⟨r51, h52, hm⟩ := bindS hm
              refine SJ.call1 (k := 4) rfl Try.call36 rfl (fun w S hw hA hO => ok_w_markInt64S h52 w S  hA) rfl ?_
              rintro _ _ ⟨rfl, rfl⟩
              refine SJ.q (y_assign rfl) rfl ?_
              refine SJ.nil ?_
              refine PJ.next ?_
              refine WJ.seq ?_
              refine WJ.seq ?_
              refine WJ.quiet ?_
              refine QJ.step (y_move rfl) rfl ?_
              refine QJ.step (y_bin rfl rfl rfl) rfl ?_
              refine QJ.step (y_move rfl) rfl ?_
              obtain ⟨t53, h54, hm⟩ := bindS hm
              refine QJ.cut 5 [(0, v2), (1, v5), (2, str x7), (8, v21), (9, .int .i64 r19.2), (12, v30), (13, .int .i64 r28.2), (82, .bool t53)] ?_ ?_
              · rcases Bool.eq_false_or_eq_true (decide (r51.1 < 0)) with hb55 | hb55
                · obtain rfl := orT h54 hb55
                  refine QJ.off rfl rfl (cB hb55) rfl rfl ?_
                  refine QJ.off rfl rfl (cB hb55) rfl rfl ?_
                  refine QJ.off rfl rfl (cB hb55) rfl rfl ?_
                  refine QJ.off rfl rfl (cB hb55) rfl rfl ?_
                  refine QJ.step (y_pick_t (cB hb55) rfl) rfl ?_
                  exact QJ.cut_end ⟨rfl, rfl, rfl, rfl, rfl, rfl, rfl, rfl, trivial⟩
                · replace h54 := orF h54 hb55
                  refine QJ.on rfl rfl (cB hb55) (y_move rfl) rfl ?_
                  refine QJ.on rfl rfl (cB hb55) (y_move rfl) rfl ?_
                  obtain ⟨r56, h57, h54⟩ := bindS h54
                  refine QJ.on rfl rfl (cB hb55) (y_call Try.call23 rfl (RetG.quiet fun w hw => ok_w_eqInt64S h57 w _ (hw.row_rd (k := 4) rfl) _ (hw.row_rd (k := 5) rfl))) rfl ?_
                  refine QJ.on rfl rfl (cB hb55) (y_not rfl) rfl ?_
                  refine QJ.step (y_pick_f (cB hb55) rfl) rfl ?_
                  obtain rfl := Option.some.inj h54
                  exact QJ.cut_end ⟨rfl, rfl, rfl, rfl, rfl, rfl, rfl, rfl, trivial⟩
              refine QJ.step (y_move rfl) rfl ?_
              obtain ⟨t58, h59, hm⟩ := bindS hm
              refine QJ.cut 4 [(0, v2), (1, v5), (2, str x7), (8, v21), (9, .int .i64 r19.2), (12, v30), (87, .bool t58)] ?_ ?_
              · rcases Bool.eq_false_or_eq_true t53 with hb60 | hb60
                · obtain rfl := orT h59 hb60
                  refine QJ.off rfl rfl (cB hb60) rfl rfl ?_
                  refine QJ.off rfl rfl (cB hb60) rfl rfl ?_
                  refine QJ.off rfl rfl (cB hb60) rfl rfl ?_
                  refine QJ.step (y_pick_t (cB hb60) rfl) rfl ?_
                  exact QJ.cut_end ⟨rfl, rfl, rfl, rfl, rfl, rfl, rfl, trivial⟩
                · replace h59 := orF h59 hb60
                  refine QJ.on rfl rfl (cB hb60) (y_move rfl) rfl ?_
                  refine QJ.on rfl rfl (cB hb60) (y_move rfl) rfl ?_
                  refine QJ.on rfl rfl (cB hb60) (y_bin rfl rfl rfl) rfl ?_
                  refine QJ.step (y_pick_f (cB hb60) rfl) rfl ?_
                  obtain rfl := Option.some.inj h59
                  exact QJ.cut_end ⟨rfl, rfl, rfl, rfl, rfl, rfl, rfl, trivial⟩
              refine QJ.done ?_
              refine PJ.next ?_
              refine WJ.cond (t := t58) rfl (fun hb61 => ?_) (fun hb61 => ?_)
              · replace hm := ifT hm hb61
                refine WJ.seq ?_
                refine WJ.quiet ?_
                refine QJ.step (y_assign rfl) rfl ?_
                refine QJ.done ?_
                refine PJ.next ?_
                refine WJ.ret ?_
                refine PJ.then_ret ?_
                obtain rfl := Option.some.inj hm
                refine PJ.sel (L' := []) [] ⟨List.nodup_nil, rfl⟩ ?_
                exact PJ.retn (vs := [.bool false]) Try.results9 ⟨rfl, trivial⟩ ⟨rfl, rfl⟩
              · replace hm := ifF hm hb61
                refine WJ.skip ?_
                refine PJ.next ?_
                refine WJ.seq ?_
                refine WJ.quiet ?_
                refine QJ.step (y_assign rfl) rfl ?_
                refine QJ.done ?_
                refine PJ.next ?_
                refine WJ.seq ?_
                refine WJ.reg ?_
                refine SJ.q (y_move rfl) rfl ?_
                refine SJ.q (y_move rfl) rfl ?_
                obtain ⟨r62, h63, hm⟩ := bindS hm
                refine SJ.call1 (k := 4) rfl Try.call36 rfl (fun w S hw hA hO => ok_w_markInt64S h63 w S  hA) rfl ?_
                rintro _ _ ⟨rfl, rfl⟩
                refine SJ.q (y_assign rfl) rfl ?_
                refine SJ.nil ?_
                refine PJ.next ?_
                refine WJ.seq ?_
                refine WJ.quiet ?_
                refine QJ.step (y_assign rfl) rfl ?_
                refine QJ.done ?_
                refine PJ.next ?_
                refine WJ.seq ?_
                refine WJ.quiet ?_
                refine QJ.step (y_move rfl) rfl ?_
                refine QJ.step (y_move rfl) rfl ?_
                obtain ⟨r64, h65, hm⟩ := bindS hm
                refine QJ.step (y_call Try.call37 rfl (RetG.quiet fun w hw => ok_w_heldInt64S h65 w _ (hw.row_rd (k := 0) rfl))) rfl ?_
                refine QJ.step (y_assign rfl) rfl ?_
                refine QJ.done ?_
                refine PJ.next ?_
                refine WJ.seq ?_
                refine WJ.seq ?_
                refine WJ.quiet ?_
                refine QJ.step (y_move rfl) rfl ?_
                refine QJ.step (y_bin rfl rfl rfl) rfl ?_
                refine QJ.done ?_
                refine PJ.next ?_
                refine WJ.cond (t := decide (r64 < 0)) rfl (fun hb66 => ?_) (fun hb66 => ?_)
                · replace hm := ifT hm hb66
                  refine WJ.seq ?_
                  refine WJ.quiet ?_
                  refine QJ.step (y_assign rfl) rfl ?_
                  refine QJ.done ?_
                  refine PJ.next ?_
                  refine WJ.ret ?_
                  refine PJ.then_ret ?_
                  obtain rfl := Option.some.inj hm
                  refine PJ.sel (L' := []) [] ⟨List.nodup_nil, rfl⟩ ?_
                  exact PJ.retn (vs := [.bool false]) Try.results9 ⟨rfl, trivial⟩ ⟨rfl, rfl⟩
                · replace hm := ifF hm hb66
                  refine WJ.skip ?_
                  refine PJ.next ?_
                  refine WJ.seq ?_
                  refine WJ.seq ?_
                  refine WJ.quiet ?_
                  refine QJ.step (y_move rfl) rfl ?_
                  refine QJ.step (y_move rfl) rfl ?_
                  refine QJ.step (y_bin rfl rfl rfl) rfl ?_
                  refine QJ.done ?_
                  refine PJ.next ?_
                  refine WJ.cond (t := (r64 != r62.1)) rfl (fun hb67 => ?_) (fun hb67 => ?_)
                  · replace hm := ifT hm hb67
                    refine WJ.seq ?_
                    refine WJ.quiet ?_
                    refine QJ.step (y_assign rfl) rfl ?_
                    refine QJ.done ?_
                    refine PJ.next ?_
                    refine WJ.ret ?_
                    refine PJ.then_ret ?_
                    obtain rfl := Option.some.inj hm
                    refine PJ.sel (L' := []) [] ⟨List.nodup_nil, rfl⟩ ?_
                    exact PJ.retn (vs := [.bool false]) Try.results9 ⟨rfl, trivial⟩ ⟨rfl, rfl⟩
                  · replace hm := ifF hm hb67
                    refine WJ.skip ?_
                    refine PJ.next ?_
                    refine WJ.seq ?_
                    refine WJ.reg ?_
                    refine SJ.q (y_move rfl) rfl ?_
                    obtain ⟨r68, h69, hm⟩ := bindS hm
                    refine SJ.call Try.call19 rfl (fun w hw => ok_w_toDefectS h69 w _ (hr3.st hw)) rfl ?_
                    rintro v70 _ ⟨_, rfl, rfl⟩
                    refine SJ.q (y_move rfl) rfl ?_
                    obtain ⟨r71, h72, hm⟩ := bindS hm
                    refine SJ.call Try.call20 rfl (fun w hw => ok_w_toInt64S h72 w _ (hr6.st hw)) rfl ?_
                    rintro v73 _ ⟨_, rfl, rfl⟩
                    refine SJ.q (y_move rfl) rfl ?_
                    obtain ⟨r74, h75, hm⟩ := bindS hm
                    refine SJ.call Try.call34 rfl (fun w hw => ok_i_PossibleDefects h75 w _ (hw.row_rd (k := 1) rfl) _ (hw.row_rd (k := 0) rfl)) rfl ?_
                    rintro _ _ ⟨v76, rfl, rfl⟩
                    refine SJ.q (y_move rfl) rfl ?_
                    refine SJ.q (y_extract rfl rfl) rfl ?_
                    refine SJ.q (y_extract rfl rfl) rfl ?_
                    refine SJ.q (y_assign rfl) rfl ?_
                    refine SJ.q (y_assign rfl) rfl ?_
                    refine SJ.nil ?_
                    refine PJ.next ?_
                    refine WJ.seq ?_
                    refine WJ.seq ?_
                    refine WJ.quiet ?_
                    refine QJ.step (y_move rfl) rfl ?_
                    refine QJ.step (y_move rfl) rfl ?_
                    obtain ⟨r77, h78, hm⟩ := bindS hm
                    refine QJ.step (y_call Try.call23 rfl (RetG.quiet fun w hw => ok_w_eqInt64S h78 w _ (hw.row_rd (k := 0) rfl) _ (hw.row_rd (k := 8) rfl))) rfl ?_
                    refine QJ.step (y_not rfl) rfl ?_
                    refine QJ.step (y_move rfl) rfl ?_
                    obtain ⟨t79, h80, hm⟩ := bindS hm
                    refine QJ.cut 4 [(12, v30), (15, .int .i64 r62.1), (116, .bool t79)] ?_ ?_
                    · rcases Bool.eq_false_or_eq_true (!r77) with hb81 | hb81
                      · obtain rfl := orT h80 hb81
                        refine QJ.off rfl rfl (cB hb81) rfl rfl ?_
                        refine QJ.off rfl rfl (cB hb81) rfl rfl ?_
                        refine QJ.off rfl rfl (cB hb81) rfl rfl ?_
                        refine QJ.step (y_pick_t (cB hb81) rfl) rfl ?_
                        exact QJ.cut_end ⟨rfl, rfl, rfl, trivial⟩
                      · replace h80 := orF h80 hb81
                        refine QJ.on rfl rfl (cB hb81) (y_move rfl) rfl ?_
                        refine QJ.on rfl rfl (cB hb81) (y_move rfl) rfl ?_
                        refine QJ.on rfl rfl (cB hb81) (y_bin rfl rfl rfl) rfl ?_
                        refine QJ.step (y_pick_f (cB hb81) rfl) rfl ?_
                        obtain rfl := Option.some.inj h80
                        exact QJ.cut_end ⟨rfl, rfl, rfl, trivial⟩
                    refine QJ.done ?_
                    refine PJ.next ?_
                    refine WJ.cond (t := t79) rfl (fun hb82 => ?_) (fun hb82 => ?_)
                    · replace hm := ifT hm hb82
                      refine WJ.seq ?_
                      refine WJ.quiet ?_
                      refine QJ.step (y_assign rfl) rfl ?_
                      refine QJ.done ?_
                      refine PJ.next ?_
                      refine WJ.ret ?_
                      refine PJ.then_ret ?_
                      obtain rfl := Option.some.inj hm
                      refine PJ.sel (L' := []) [] ⟨List.nodup_nil, rfl⟩ ?_
                      exact PJ.retn (vs := [.bool false]) Try.results9 ⟨rfl, trivial⟩ ⟨rfl, rfl⟩
                    · replace hm := ifF hm hb82
                      refine WJ.skip ?_
                      refine PJ.next ?_
                      refine WJ.seq ?_
                      refine WJ.quiet ?_
                      refine QJ.step (y_assign rfl) rfl ?_
                      refine QJ.done ?_
                      refine PJ.next ?_
                      refine WJ.seq ?_
                      refine WJ.quiet ?_
                      refine QJ.step (y_move rfl) rfl ?_
                      refine QJ.step (y_move rfl) rfl ?_
                      obtain ⟨r83, h84, hm⟩ := bindS hm
                      refine QJ.step (y_call Try.call37 rfl (RetG.quiet fun w hw => ok_w_heldInt64S h84 w _ (hw.row_rd (k := 3) rfl))) rfl ?_
                      refine QJ.step (y_assign rfl) rfl ?_
                      refine QJ.done ?_
                      refine PJ.next ?_
                      refine WJ.seq ?_
                      refine WJ.seq ?_
                      refine WJ.quiet ?_
                      refine QJ.step (y_move rfl) rfl ?_
                      refine QJ.step (y_bin rfl rfl rfl) rfl ?_
                      refine QJ.done ?_
                      refine PJ.next ?_
                      refine WJ.cond (t := decide (r83 < 0)) rfl (fun hb85 => ?_) (fun hb85 => ?_)
                      · replace hm := ifT hm hb85
                        refine WJ.seq ?_
                        refine WJ.quiet ?_
                        refine QJ.step (y_assign rfl) rfl ?_
                        refine QJ.done ?_
                        refine PJ.next ?_
                        refine WJ.ret ?_
                        refine PJ.then_ret ?_
                        obtain rfl := Option.some.inj hm
                        refine PJ.sel (L' := []) [] ⟨List.nodup_nil, rfl⟩ ?_
                        exact PJ.retn (vs := [.bool false]) Try.results9 ⟨rfl, trivial⟩ ⟨rfl, rfl⟩
                      · replace hm := ifF hm hb85
                        refine WJ.skip ?_
                        refine PJ.next ?_
                        refine WJ.seq ?_
                        refine WJ.seq ?_
                        refine WJ.quiet ?_
                        refine QJ.step (y_move rfl) rfl ?_
                        refine QJ.step (y_move rfl) rfl ?_
                        refine QJ.step (y_bin rfl rfl rfl) rfl ?_
                        refine QJ.done ?_
                        refine PJ.next ?_
                        refine WJ.cond (t := (r83 != r62.1)) rfl (fun hb86 => ?_) (fun hb86 => ?_)
                        · replace hm := ifT hm hb86
                          refine WJ.seq ?_
                          refine WJ.quiet ?_
                          refine QJ.step (y_assign rfl) rfl ?_
                          refine QJ.done ?_
                          refine PJ.next ?_
                          refine WJ.ret ?_
                          refine PJ.then_ret ?_
                          obtain rfl := Option.some.inj hm
                          refine PJ.sel (L' := []) [] ⟨List.nodup_nil, rfl⟩ ?_
                          exact PJ.retn (vs := [.bool false]) Try.results9 ⟨rfl, trivial⟩ ⟨rfl, rfl⟩
                        · replace hm := ifF hm hb86
                          refine WJ.skip ?_
                          refine PJ.next ?_
                          refine WJ.seq ?_
                          refine WJ.quiet ?_
                          refine QJ.step (y_assign rfl) rfl ?_
                          refine QJ.done ?_
                          refine PJ.next ?_
                          refine WJ.ret ?_
                          obtain rfl := Option.some.inj hm
                          refine PJ.sel (L' := []) [] ⟨List.nodup_nil, rfl⟩ ?_
                          exact PJ.retn (vs := [.bool true]) Try.results9 ⟨rfl, trivial⟩ ⟨rfl, rfl⟩

end Go.Proofs.Ytigjflandggihaa
