/-
  The walks: a call hands back what its plain function computes, where that has a value. No other conditions.
-/
import Derived.Test.YtigjflandggihaaFnExactSameHiresM
import Derived.Test.YtigjflandggihaaChecked
namespace Go.Proofs.Ytigjflandggihaa
open Go.RowKit Go.Proofs
set_option linter.unusedVariables false
set_option linter.unusedSimpArgs false

theorem follows : Try.prog.follows .mixedOrders = true := by kernel_rfl

def Hire.enc (x : Hire) : List Value := [.int .i64 x.machine, .int .i64 x.from_, .int .i64 x.to]
def fHire : FRp Hire := ⟨3, Hire.enc, fun _ => rfl, by decide, fun x u hu => by
  simp only [Hire.enc, List.mem_cons, List.not_mem_nil, or_false] at hu
  rcases hu with rfl | rfl | rfl <;> rfl⟩

theorem el60 : ElemOk Try.prog 60 3 (fHire.enc (Hire.mk 0 0 0)) := ⟨_, _, Try.type60, rfl, rfl, rfl, by decide⟩
theorem fld62_0 : FieldOk Try.prog 62 0 0 2 0 := ⟨_, _, Try.runUnderlying62, rfl, rfl, rfl, Try.sizeOf2⟩
theorem fld60_0 : FieldOk Try.prog 60 0 0 2 0 := ⟨_, _, Try.runUnderlying60, rfl, rfl, rfl, Try.sizeOf2⟩
theorem fld62_1 : FieldOk Try.prog 62 1 1 2 0 := ⟨_, _, Try.runUnderlying62, rfl, rfl, rfl, Try.sizeOf2⟩
theorem fld60_1 : FieldOk Try.prog 60 1 1 2 0 := ⟨_, _, Try.runUnderlying60, rfl, rfl, rfl, Try.sizeOf2⟩
theorem fld62_2 : FieldOk Try.prog 62 2 2 2 0 := ⟨_, _, Try.runUnderlying62, rfl, rfl, rfl, Try.sizeOf2⟩
theorem fld60_2 : FieldOk Try.prog 60 2 2 2 0 := ⟨_, _, Try.runUnderlying60, rfl, rfl, rfl, Try.sizeOf2⟩
theorem eq60 : EqOk Try.prog 60 Hire.enc Hire.beq := ⟨Try.eqGuardType60, fun x y w => by
  have hf : Try.prog.fieldsOf 60 = #[{ name := "Machine", type := 2, offset := 0, embedded := false, tag := "", pkgPath := "", byteOffset := 0 }, { name := "From", type := 2, offset := 1, embedded := false, tag := "", pkgPath := "", byteOffset := 8 }, { name := "To", type := 2, offset := 2, embedded := false, tag := "", pkgPath := "", byteOffset := 16 }] := by kernel_rfl
  have ht : Try.prog.underlying 60 = some (.struct (Try.prog.fieldsOf 60)) := by rw [hf]; exact Try.underlying60
  rw [run_equalIn_struct w 9999 60 _ _ ht Try.stoodInHeld60, hf]
  obtain ⟨a0, a1, a2⟩ := x
  obtain ⟨b0, b1, b2⟩ := y
  simp only [Op.eqFields, Hire.enc, Hire.beq]
  simp [part, str, Try.isAgg2, run_equalIn_int _ _ _ _ _ _ _ Try.underlying2, ByteArray.toList_eq]
  (repeat' split) <;> simp_all⟩
theorem open62 : Opens Try.prog 62 fHire.rp wfHire := fun {H enc w sp held fuel cs x} h => by
  obtain ⟨hl, n, hf⟩ := opens_fields Try.underlying62 h
  have hl : cs.length = 3 := by rw [hl]; kernel_rfl
  obtain ⟨y0, hy0⟩ := hf _ (List.mem_of_getElem? (i := 0) rfl)
  obtain ⟨z0, hz0, hw0⟩ := (opens_i64 Try.underlying2) hy0
  obtain ⟨y1, hy1⟩ := hf _ (List.mem_of_getElem? (i := 1) rfl)
  obtain ⟨z1, hz1, hw1⟩ := (opens_i64 Try.underlying2) hy1
  obtain ⟨y2, hy2⟩ := hf _ (List.mem_of_getElem? (i := 2) rfl)
  obtain ⟨z2, hz2, hw2⟩ := (opens_i64 Try.underlying2) hy2
  match cs, hl with
  | [c0, c1, c2], _ =>
  have e0 : [c0] = fI64.enc z0 := hz0
  have e1 : [c1] = fI64.enc z1 := hz1
  have e2 : [c2] = fI64.enc z2 := hz2
  refine ⟨⟨z0, z1, z2⟩, ?_, ⟨hw0, hw1, hw2⟩⟩
  show [c0, c1, c2] = Hire.enc _
  simp only [fI64, List.cons.injEq, and_true] at e0
  simp only [fI64, List.cons.injEq, and_true] at e1
  simp only [fI64, List.cons.injEq, and_true] at e2
  rw [e0, e1, e2]
  rfl


set_option maxRecDepth 100000 in
set_option maxHeartbeats 1000000 in
theorem ok_w_szHireS {a1 : List Hire} {left4 : Int} {r : Int} (hm : w_szHireS a1 left4 = some r) (w : World) (v2 : Value) (hr3 : RdS w (cx w).Fz v2 fHire.rp a1) :
    Calls Try.prog 12 #[v2, .int .i64 left4] w (Ret (cx w) (.int .i64 r)) := by
  unfold w_szHireS at hm
  refine Calls.enter [v2, .int .i64 left4] Try.func12 rfl Try.ntmps12 rfl ?_
  refine WJ.seq ?_
  refine WJ.quiet ?_
  refine QJ.step (y_assign rfl) rfl ?_
  refine QJ.done ?_
  refine PJ.next ?_
  refine WJ.seq ?_
  refine WJ.quiet ?_
  refine QJ.step (y_move rfl) rfl ?_
  refine QJ.step (y_move rfl) rfl ?_
  refine QJ.step (y_lenS Try.runUnderlying25 hr3 rfl) rfl ?_
  refine QJ.step (y_bin rfl rfl rfl) rfl ?_
  refine QJ.step (y_assign rfl) rfl ?_
  refine QJ.done ?_
  refine PJ.next ?_
  refine WJ.seq ?_
  refine WJ.seq ?_
  refine WJ.quiet ?_
  refine QJ.step (y_move rfl) rfl ?_
  refine QJ.step (y_bin rfl rfl rfl) rfl ?_
  refine QJ.done ?_
  refine PJ.next ?_
  refine WJ.cond (t := decide ((w64 (left4 - (List.length a1 : Int))) < 0)) rfl (fun hb5 => ?_) (fun hb5 => ?_)
  · replace hm := ifT hm hb5
    refine WJ.seq ?_
    refine WJ.quiet ?_
    refine QJ.step (y_assign rfl) rfl ?_
    refine QJ.done ?_
    refine PJ.next ?_
    refine WJ.ret ?_
    refine PJ.then_ret ?_
    obtain rfl := Option.some.inj hm
    refine PJ.sel (L' := []) [] ⟨List.nodup_nil, rfl⟩ ?_
    exact PJ.retn (vs := [.int .i64 (-1)]) Try.results12 ⟨rfl, trivial⟩ ⟨rfl, rfl⟩
  · replace hm := ifF hm hb5
    refine WJ.skip ?_
    refine PJ.next ?_
    refine WJ.seq ?_
    refine WJ.quiet ?_
    refine QJ.step (y_move rfl) rfl ?_
    refine QJ.step (y_assign rfl) rfl ?_
    refine QJ.done ?_
    refine PJ.next ?_
    refine WJ.ret ?_
    obtain rfl := Option.some.inj hm
    refine PJ.sel (L' := []) [] ⟨List.nodup_nil, rfl⟩ ?_
    exact PJ.retn (vs := [.int .i64 (w64 (left4 - (List.length a1 : Int)))]) Try.results12 ⟨rfl, trivial⟩ ⟨rfl, rfl⟩

set_option maxRecDepth 100000 in
set_option maxHeartbeats 1000000 in
theorem ok_w_toHire {a1 : Hire} {r : Hire} (hm : w_toHire a1 = some r) (w : World)  :
    Calls Try.prog 41 #[.agg (Hire.enc a1).toArray] w (Ret (cx w) (.agg (Hire.enc r).toArray)) := by
  unfold w_toHire at hm
  refine Calls.enter [.agg (Hire.enc a1).toArray] Try.func41 rfl Try.ntmps41 rfl ?_
  refine WJ.seq ?_
  refine WJ.reg ?_
  refine SJ.box (cs := [.int .i64 a1.machine, .int .i64 a1.from_, .int .i64 a1.to]) rfl rfl rfl fun g2 => ?_
  refine SJ.alloc (cs := [.int .i64 0, .int .i64 0, .int .i64 0]) Try.zeroValue60 rfl rfl fun g3 => ?_
  refine SJ.nil ?_
  refine PJ.next ?_
  refine WJ.seq ?_
  refine WJ.reg ?_
  refine SJ.alloc (cs := [.int .i64 0, .int .i64 0, .int .i64 0]) Try.zeroValue60 rfl rfl fun g4 => ?_
  refine SJ.nil ?_
  refine PJ.next ?_
  refine WJ.seq ?_
  refine WJ.reg ?_
  refine SJ.q (y_fldB (o := 0) fld62_0 rfl) rfl ?_
  refine SJ.q (y_loadB (k := 2) (off := 0) (v := .int .i64 a1.machine) rfl Try.isAgg2 rfl rfl) rfl ?_
  refine SJ.q (y_fldB (o := 0) fld60_0 rfl) rfl ?_
  refine SJ.storeL (k := 0) (off := 0) (us := [.int .i64 a1.machine]) rfl rfl rfl rfl Try.sizeOf2 rfl rfl ?_
  refine SJ.nil ?_
  refine PJ.next ?_
  refine WJ.seq ?_
  refine WJ.reg ?_
  refine SJ.q (y_fldB (o := 0) fld62_1 rfl) rfl ?_
  refine SJ.q (y_loadB (k := 2) (off := 1) (v := .int .i64 a1.from_) rfl Try.isAgg2 rfl rfl) rfl ?_
  refine SJ.q (y_fldB (o := 0) fld60_1 rfl) rfl ?_
  refine SJ.storeL (k := 0) (off := 1) (us := [.int .i64 a1.from_]) rfl rfl rfl rfl Try.sizeOf2 rfl rfl ?_
  refine SJ.nil ?_
  refine PJ.next ?_
  refine WJ.seq ?_
  refine WJ.reg ?_
  refine SJ.q (y_fldB (o := 0) fld62_2 rfl) rfl ?_
  refine SJ.q (y_loadB (k := 2) (off := 2) (v := .int .i64 a1.to) rfl Try.isAgg2 rfl rfl) rfl ?_
  refine SJ.q (y_fldB (o := 0) fld60_2 rfl) rfl ?_
  refine SJ.storeL (k := 0) (off := 2) (us := [.int .i64 a1.to]) rfl rfl rfl rfl Try.sizeOf2 rfl rfl ?_
  refine SJ.nil ?_
  refine PJ.next ?_
  refine WJ.seq ?_
  refine WJ.reg ?_
  refine SJ.q (y_loadBN (k := 0) (off := 0) (us := [.int .i64 a1.machine, .int .i64 a1.from_, .int .i64 a1.to]) rfl Try.isAgg60 Try.sizeOf60 rfl rfl) rfl ?_
  refine SJ.storeL (k := 1) (off := 0) (us := [.int .i64 a1.machine, .int .i64 a1.from_, .int .i64 a1.to]) rfl rfl rfl rfl Try.sizeOf60 rfl rfl ?_
  refine SJ.nil ?_
  refine PJ.next ?_
  refine WJ.ret ?_
  obtain rfl := Option.some.inj hm
  exact PJ.retn_sel (vs := [.agg #[.int .i64 a1.machine, .int .i64 a1.from_, .int .i64 a1.to]]) Try.results41 ⟨⟨1, g3, 60, [.int .i64 a1.machine, .int .i64 a1.from_, .int .i64 a1.to], rfl, rfl, .inl ⟨Try.isAgg60, Try.sizeOf60, rfl⟩⟩, trivial⟩ [] ⟨List.nodup_nil, rfl⟩ ⟨rfl, rfl⟩

set_option maxRecDepth 100000 in
set_option maxHeartbeats 1000000 in
theorem ok_w_toHireS {N : Nat} {a1 : List Hire} {r : (List Hire)} (hm : w_toHireS N a1 = some r) (w : World) (v2 : Value) (hr3 : RdS w (cx w).Fz v2 fHire.rp a1) :
    Calls Try.prog 14 #[v2] w (RetG (cx w) fun u L => ∃ (u1 : Value), (u = u1 ∧ L = [row u1 60 fHire r])) := by
  unfold w_toHireS at hm
  refine Calls.enter [v2] Try.func14 rfl Try.ntmps14 rfl ?_
  refine WJ.seq ?_
  refine WJ.quiet ?_
  refine QJ.step (y_assign rfl) rfl ?_
  refine QJ.done ?_
  refine PJ.next ?_
  refine WJ.seq ?_
  refine WJ.reg ?_
  refine SJ.q (y_move rfl) rfl ?_
  refine SJ.q (y_lenS Try.runUnderlying25 hr3 rfl) rfl ?_
  obtain ⟨l4, h5, hm⟩ := bindS hm
  refine SJ.makeSlice (R := fHire) (z := (Hire.mk 0 0 0)) h5 Try.underlying28 el60 rfl rfl rfl fun v6 => ?_
  refine SJ.q (y_assign rfl) rfl ?_
  refine SJ.nil ?_
  refine PJ.next ?_
  obtain ⟨k8, hk9, hm⟩ := withK_open hm
  refine WJ.join (X := (List Hire)) (fun (x : (List Hire)) => k8 x = some r) (fun (x : (List Hire)) => [(3, v6)]) (fun (x : (List Hire)) => [row v6 60 fHire x]) ?_ ?_
  · clear hk9
    refine WJ.seq ?_
    refine WJ.quiet ?_
    refine QJ.step (y_assign rfl) rfl ?_
    refine QJ.done ?_
    refine PJ.next ?_
    refine WJ.block ?_
    refine WJ.sel (L' := (fun (x : (List Hire) × Int) => [row v6 60 fHire x.1]) (l4, 0)) [0] ⟨by decide, rfl⟩ ?_
    refine WJ.sub (m' := (fun (x : (List Hire) × Int) => [(0, v2), (3, v6), (4, .int .i64 x.2)]) (l4, 0)) ⟨rfl, rfl, rfl, trivial⟩ ?_
    refine WJ.loop (X := (List Hire) × Int) (fun N (x : (List Hire) × Int) => w_toHireS_l1 k8 a1 N x.1 x.2 = some r) (fun (x : (List Hire) × Int) => [(0, v2), (3, v6), (4, .int .i64 x.2)]) (fun (x : (List Hire) × Int) => [row v6 60 fHire x.1]) ?_ N (l4, 0) hm
    · rintro N ⟨l10, i11⟩ hI
      have hm := hI; clear hI
      cases N with
      | zero => cases hm
      | succ N =>
      unfold w_toHireS_l1 at hm
      refine WJ.seq ?_
      refine WJ.seq ?_
      refine WJ.quiet ?_
      refine QJ.step (y_move rfl) rfl ?_
      refine QJ.step (y_move rfl) rfl ?_
      refine QJ.step (y_lenS Try.runUnderlying25 hr3 rfl) rfl ?_
      refine QJ.step (y_bin rfl rfl rfl) rfl ?_
      refine QJ.done ?_
      refine PJ.next ?_
      refine WJ.cond (t := decide (i11 < (List.length a1 : Int))) rfl (fun hb12 => ?_) (fun hb12 => ?_)
      · replace hm := ifT hm hb12
        refine WJ.skip ?_
        refine PJ.next ?_
        refine WJ.seq ?_
        refine WJ.block ?_
        refine WJ.reg ?_
        refine SJ.q (y_move rfl) rfl ?_
        refine SJ.q (y_move rfl) rfl ?_
        refine SJ.q (y_move rfl) rfl ?_
        refine SJ.q (y_move rfl) rfl ?_
        obtain ⟨e13, h14, hm⟩ := bindS hm
        obtain ⟨ad15, _, rfl, ha16, hy17⟩ := hr3.elem h14
        refine SJ.q (hy17 Try.runUnderlying25 Try.sizeOf62 rfl rfl) rfl ?_
        refine SJ.q (y_loadN Try.isAgg62 Try.sizeOf62 rfl ha16 St.frozenC rfl) rfl ?_
        obtain ⟨r18, h19, hm⟩ := bindS hm
        refine SJ.q (y_call Try.call41 rfl (RetG.quiet fun w hw => ok_w_toHire h19 w )) rfl ?_
        obtain ⟨e20, h21, hm⟩ := bindS hm
        refine SJ.q (y_ixRow (k := 0) (R := fHire) rfl Try.runUnderlying28 Try.sizeOf60 rfl rfl h21) rfl ?_
        refine SJ.storeRL (k := 0) (i := (Int.toNat i11)) (off := 0) (us := [.int .i64 r18.machine, .int .i64 r18.from_, .int .i64 r18.to]) (b := r18) rfl rfl (idx_get h21) rfl rfl Try.sizeOf60 rfl rfl rfl ?_
        refine SJ.nil ?_
        refine PJ.block_normal (PJ.next ?_)
        refine WJ.quiet ?_
        refine QJ.step (y_move rfl) rfl ?_
        refine QJ.step (y_bin rfl rfl rfl) rfl ?_
        refine QJ.step (y_assign rfl) rfl ?_
        refine QJ.done ?_
        exact PJ.round ((List.set l10 (Int.toNat i11) r18), w64 (i11 + 1)) [0] hm ⟨rfl, rfl, rfl, trivial⟩ ⟨by decide, rfl⟩
      · replace hm := ifF hm hb12
        refine WJ.exit ?_
        refine PJ.then_exit (PJ.then_exit (PJ.block_exit ?_))
        exact PJ.joined l10 [0] hm ⟨rfl, trivial⟩ ⟨by decide, rfl⟩
  · rintro l7 hm
    subst hk9
    refine WJ.seq ?_
    refine WJ.quiet ?_
    refine QJ.step (y_move rfl) rfl ?_
    refine QJ.step (y_assign rfl) rfl ?_
    refine QJ.done ?_
    refine PJ.next ?_
    refine WJ.ret ?_
    obtain rfl := Option.some.inj hm
    refine PJ.sel (L' := [row v6 60 fHire l7]) [0] ⟨by decide, rfl⟩ ?_
    exact PJ.retn (vs := [v6]) Try.results14 ⟨rfl, trivial⟩ ⟨_, rfl, rfl⟩

set_option maxRecDepth 100000 in
set_option maxHeartbeats 1000000 in
theorem ok_s_SameHires {N : Nat} {a1 : List Hire} {b4 : List Hire} {r : Bool} (hm : s_SameHires N a1 b4 = some r) (w : World) (v2 : Value) (hr3 : RdS w (cx w).Fz v2 fHire.rp a1) (v5 : Value) (hr6 : RdS w (cx w).Fz v5 fHire.rp b4) :
    Calls Try.prog 13 #[v2, v5] w (Ret (cx w) (.bool r)) := by
  unfold s_SameHires at hm
  refine Calls.enter [v2, v5] Try.func13 rfl Try.ntmps13 rfl ?_
  refine WJ.seq ?_
  refine WJ.quiet ?_
  refine QJ.step (y_assign rfl) rfl ?_
  refine QJ.done ?_
  refine PJ.next ?_
  refine WJ.seq ?_
  refine WJ.seq ?_
  refine WJ.quiet ?_
  refine QJ.step (y_move rfl) rfl ?_
  refine QJ.step (y_lenS Try.runUnderlying28 hr3 rfl) rfl ?_
  refine QJ.step (y_move rfl) rfl ?_
  refine QJ.step (y_lenS Try.runUnderlying28 hr6 rfl) rfl ?_
  refine QJ.step (y_bin rfl rfl rfl) rfl ?_
  refine QJ.done ?_
  refine PJ.next ?_
  refine WJ.cond (t := ((List.length a1 : Int) != (List.length b4 : Int))) rfl (fun hb7 => ?_) (fun hb7 => ?_)
  · replace hm := ifT hm hb7
    refine WJ.seq ?_
    refine WJ.quiet ?_
    refine QJ.step (y_assign rfl) rfl ?_
    refine QJ.done ?_
    refine PJ.next ?_
    refine WJ.ret ?_
    refine PJ.then_ret ?_
    obtain rfl := Option.some.inj hm
    refine PJ.sel (L' := []) [] ⟨List.nodup_nil, rfl⟩ ?_
    exact PJ.retn (vs := [.bool false]) Try.results13 ⟨rfl, trivial⟩ ⟨rfl, rfl⟩
  · replace hm := ifF hm hb7
    refine WJ.skip ?_
    refine PJ.next ?_
    obtain ⟨k8, hk9, hm⟩ := withK_open hm
    refine WJ.join (X := Unit) (fun (_ : Unit) => k8  = some r) (fun (_ : Unit) => []) (fun (_ : Unit) => []) ?_ ?_
    · clear hk9
      refine WJ.seq ?_
      refine WJ.quiet ?_
      refine QJ.step (y_assign rfl) rfl ?_
      refine QJ.done ?_
      refine PJ.next ?_
      refine WJ.block ?_
      refine WJ.sel (L' := (fun (x : Int) => []) 0) [] ⟨List.nodup_nil, rfl⟩ ?_
      refine WJ.sub (m' := (fun (x : Int) => [(0, v2), (1, v5), (5, .int .i64 x)]) 0) ⟨rfl, rfl, rfl, trivial⟩ ?_
      refine WJ.loop (X := Int) (fun N (x : Int) => s_SameHires_l1 k8 a1 b4 N x = some r) (fun (x : Int) => [(0, v2), (1, v5), (5, .int .i64 x)]) (fun (x : Int) => []) ?_ N 0 hm
      · rintro N i10 hI
        have hm := hI; clear hI
        cases N with
        | zero => cases hm
        | succ N =>
        unfold s_SameHires_l1 at hm
        refine WJ.seq ?_
        refine WJ.seq ?_
        refine WJ.quiet ?_
        refine QJ.step (y_move rfl) rfl ?_
        refine QJ.step (y_move rfl) rfl ?_
        refine QJ.step (y_lenS Try.runUnderlying28 hr3 rfl) rfl ?_
        refine QJ.step (y_bin rfl rfl rfl) rfl ?_
        refine QJ.done ?_
        refine PJ.next ?_
        refine WJ.cond (t := decide (i10 < (List.length a1 : Int))) rfl (fun hb11 => ?_) (fun hb11 => ?_)
        · replace hm := ifT hm hb11
          refine WJ.skip ?_
          refine PJ.next ?_
          refine WJ.seq ?_
          refine WJ.block ?_
          refine WJ.seq ?_
          refine WJ.quiet_draw follows (by kernel_rfl) ?_
          refine QJ.step (y_move rfl) rfl ?_
          refine QJ.step (y_move rfl) rfl ?_
          obtain ⟨e12, h13, hm⟩ := bindS hm
          obtain ⟨ad14, _, rfl, ha15, hy16⟩ := hr3.elem h13
          refine QJ.step (hy16 Try.runUnderlying28 Try.sizeOf60 rfl rfl) rfl ?_
          refine QJ.step (y_loadN Try.isAgg60 Try.sizeOf60 rfl ha15 St.frozenC rfl) rfl ?_
          refine QJ.step (y_move rfl) rfl ?_
          refine QJ.step (y_move rfl) rfl ?_
          obtain ⟨e17, h18, hm⟩ := bindS hm
          obtain ⟨ad19, _, rfl, ha20, hy21⟩ := hr6.elem h18
          refine QJ.step (hy21 Try.runUnderlying28 Try.sizeOf60 rfl rfl) rfl ?_
          refine QJ.step (y_loadN Try.isAgg60 Try.sizeOf60 rfl ha20 St.frozenC rfl) rfl ?_
          refine QJ.step (y_neT e12 e17 eq60 rfl rfl) rfl ?_
          refine QJ.done ?_
          refine PJ.next ?_
          refine WJ.cond (t := !(Hire.beq e12 e17)) rfl (fun hb22 => ?_) (fun hb22 => ?_)
          · replace hm := ifT hm hb22
            refine WJ.seq ?_
            refine WJ.quiet ?_
            refine QJ.step (y_assign rfl) rfl ?_
            refine QJ.done ?_
            refine PJ.next ?_
            refine WJ.ret ?_
            refine PJ.block_ret (PJ.then_ret (PJ.then_ret (PJ.block_ret (PJ.then_ret ?_))))
            obtain rfl := Option.some.inj hm
            refine PJ.sel (L' := []) [] ⟨List.nodup_nil, rfl⟩ ?_
            exact PJ.retn (vs := [.bool false]) Try.results13 ⟨rfl, trivial⟩ ⟨rfl, rfl⟩
          · replace hm := ifF hm hb22
            refine WJ.skip ?_
            refine PJ.block_normal (PJ.next ?_)
            refine WJ.quiet ?_
            refine QJ.step (y_move rfl) rfl ?_
            refine QJ.step (y_bin rfl rfl rfl) rfl ?_
            refine QJ.step (y_assign rfl) rfl ?_
            refine QJ.done ?_
            exact PJ.round (w64 (i10 + 1)) [] hm ⟨rfl, rfl, rfl, trivial⟩ ⟨List.nodup_nil, rfl⟩
        · replace hm := ifF hm hb11
          refine WJ.exit ?_
          refine PJ.then_exit (PJ.then_exit (PJ.block_exit ?_))
          exact PJ.joined () [] hm trivial ⟨List.nodup_nil, rfl⟩
    · rintro _ hm
      subst hk9
      refine WJ.seq ?_
      refine WJ.quiet ?_
      refine QJ.step (y_assign rfl) rfl ?_
      refine QJ.done ?_
      refine PJ.next ?_
      refine WJ.ret ?_
      obtain rfl := Option.some.inj hm
      refine PJ.sel (L' := []) [] ⟨List.nodup_nil, rfl⟩ ?_
      exact PJ.retn (vs := [.bool true]) Try.results13 ⟨rfl, trivial⟩ ⟨rfl, rfl⟩

set_option maxRecDepth 100000 in
set_option maxHeartbeats 1000000 in
theorem ok_i_SameHires {N : Nat} {a1 : List Hire} {b4 : List Hire} {r : Bool} (hm : i_SameHires N a1 b4 = some r) (w : World) (v2 : Value) (hr3 : RdS w (cx w).Fz v2 fHire.rp a1) (v5 : Value) (hr6 : RdS w (cx w).Fz v5 fHire.rp b4) :
    Calls Try.prog 15 #[v2, v5] w (Ret (cx w) (.bool r)) := by
  unfold i_SameHires at hm
  refine Calls.enter [v2, v5] Try.func15 rfl Try.ntmps15 rfl ?_
  refine WJ.seq ?_
  refine WJ.quiet ?_
  refine QJ.step (y_assign rfl) rfl ?_
  refine QJ.done ?_
  refine PJ.next ?_
  refine WJ.seq ?_
  refine WJ.seq ?_
  refine WJ.quiet ?_
  refine QJ.step (y_move rfl) rfl ?_
  refine QJ.step (y_lenS Try.runUnderlying28 hr3 rfl) rfl ?_
  refine QJ.step (y_move rfl) rfl ?_
  refine QJ.step (y_lenS Try.runUnderlying28 hr6 rfl) rfl ?_
  refine QJ.step (y_bin rfl rfl rfl) rfl ?_
  refine QJ.done ?_
  refine PJ.next ?_
  refine WJ.cond (t := ((List.length a1 : Int) != (List.length b4 : Int))) rfl (fun hb7 => ?_) (fun hb7 => ?_)
  · replace hm := ifT hm hb7
    refine WJ.seq ?_
    refine WJ.quiet ?_
    refine QJ.step (y_assign rfl) rfl ?_
    refine QJ.done ?_
    refine PJ.next ?_
    refine WJ.ret ?_
    refine PJ.then_ret ?_
    obtain rfl := Option.some.inj hm
    refine PJ.sel (L' := []) [] ⟨List.nodup_nil, rfl⟩ ?_
    exact PJ.retn (vs := [.bool false]) Try.results15 ⟨rfl, trivial⟩ ⟨rfl, rfl⟩
  · replace hm := ifF hm hb7
    refine WJ.skip ?_
    refine PJ.next ?_
    obtain ⟨k8, hk9, hm⟩ := withK_open hm
    refine WJ.join (X := Unit) (fun (_ : Unit) => k8  = some r) (fun (_ : Unit) => []) (fun (_ : Unit) => []) ?_ ?_
    · clear hk9
      refine WJ.seq ?_
      refine WJ.quiet ?_
      refine QJ.step (y_move rfl) rfl ?_
      refine QJ.step (y_lenS Try.runUnderlying28 hr3 rfl) rfl ?_
      refine QJ.step (y_move rfl) rfl ?_
      refine QJ.done ?_
      refine PJ.next ?_
      refine WJ.block ?_
      refine WJ.sel (L' := (fun (x : Int) => []) 0) [] ⟨List.nodup_nil, rfl⟩ ?_
      refine WJ.sub (m' := (fun (x : Int) => [(0, v2), (1, v5), (12, .int .i64 (List.length a1 : Int)), (13, .int .i64 x)]) 0) ⟨rfl, rfl, rfl, rfl, trivial⟩ ?_
      refine WJ.loop (X := Int) (fun N (x : Int) => i_SameHires_l1 k8 a1 b4 N x = some r) (fun (x : Int) => [(0, v2), (1, v5), (12, .int .i64 (List.length a1 : Int)), (13, .int .i64 x)]) (fun (x : Int) => []) ?_ N 0 hm
      · rintro N x10 hI
        have hm := hI; clear hI
        cases N with
        | zero => cases hm
        | succ N =>
        unfold i_SameHires_l1 at hm
        refine WJ.seq ?_
        refine WJ.quiet ?_
        refine QJ.step (y_bin rfl rfl rfl) rfl ?_
        refine QJ.done ?_
        refine PJ.next ?_
        refine WJ.seq ?_
        refine WJ.cond (t := decide (x10 < (List.length a1 : Int))) rfl (fun hb11 => ?_) (fun hb11 => ?_)
        · replace hm := ifT hm hb11
          refine WJ.skip ?_
          refine PJ.next ?_
          refine WJ.seq ?_
          refine WJ.block ?_
          refine WJ.seq ?_
          refine WJ.quiet ?_
          refine QJ.step (y_move rfl) rfl ?_
          refine QJ.step (y_assign rfl) rfl ?_
          refine QJ.done ?_
          refine PJ.next ?_
          refine WJ.seq ?_
          refine WJ.quiet_draw follows (by kernel_rfl) ?_
          refine QJ.step (y_move rfl) rfl ?_
          refine QJ.step (y_move rfl) rfl ?_
          obtain ⟨e12, h13, hm⟩ := bindS hm
          obtain ⟨ad14, _, rfl, ha15, hy16⟩ := hr3.elem h13
          refine QJ.step (hy16 Try.runUnderlying28 Try.sizeOf60 rfl rfl) rfl ?_
          refine QJ.step (y_loadN Try.isAgg60 Try.sizeOf60 rfl ha15 St.frozenC rfl) rfl ?_
          refine QJ.step (y_move rfl) rfl ?_
          refine QJ.step (y_move rfl) rfl ?_
          obtain ⟨e17, h18, hm⟩ := bindS hm
          obtain ⟨ad19, _, rfl, ha20, hy21⟩ := hr6.elem h18
          refine QJ.step (hy21 Try.runUnderlying28 Try.sizeOf60 rfl rfl) rfl ?_
          refine QJ.step (y_loadN Try.isAgg60 Try.sizeOf60 rfl ha20 St.frozenC rfl) rfl ?_
          refine QJ.step (y_neT e12 e17 eq60 rfl rfl) rfl ?_
          refine QJ.done ?_
          refine PJ.next ?_
          refine WJ.cond (t := !(Hire.beq e12 e17)) rfl (fun hb22 => ?_) (fun hb22 => ?_)
          · replace hm := ifT hm hb22
            refine WJ.seq ?_
            refine WJ.quiet ?_
            refine QJ.step (y_assign rfl) rfl ?_
            refine QJ.done ?_
            refine PJ.next ?_
            refine WJ.ret ?_
            refine PJ.block_ret (PJ.then_ret (PJ.then_ret (PJ.block_ret (PJ.then_ret ?_))))
            obtain rfl := Option.some.inj hm
            refine PJ.sel (L' := []) [] ⟨List.nodup_nil, rfl⟩ ?_
            exact PJ.retn (vs := [.bool false]) Try.results15 ⟨rfl, trivial⟩ ⟨rfl, rfl⟩
          · replace hm := ifF hm hb22
            refine WJ.skip ?_
            refine PJ.block_normal (PJ.next ?_)
            refine WJ.quiet ?_
            refine QJ.step (y_bin rfl rfl rfl) rfl ?_
            refine QJ.step (y_move rfl) rfl ?_
            refine QJ.done ?_
            exact PJ.round (w64 (x10 + 1)) [] hm ⟨rfl, rfl, rfl, rfl, trivial⟩ ⟨List.nodup_nil, rfl⟩
        · replace hm := ifF hm hb11
          refine WJ.exit ?_
          refine PJ.then_exit (PJ.then_exit (PJ.block_exit ?_))
          exact PJ.joined () [] hm trivial ⟨List.nodup_nil, rfl⟩
    · rintro _ hm
      subst hk9
      refine WJ.seq ?_
      refine WJ.quiet ?_
      refine QJ.step (y_assign rfl) rfl ?_
      refine QJ.done ?_
      refine PJ.next ?_
      refine WJ.ret ?_
      obtain rfl := Option.some.inj hm
      refine PJ.sel (L' := []) [] ⟨List.nodup_nil, rfl⟩ ?_
      exact PJ.retn (vs := [.bool true]) Try.results15 ⟨rfl, trivial⟩ ⟨rfl, rfl⟩

set_option maxRecDepth 100000 in
set_option maxHeartbeats 1000000 in
theorem ok_w_eqHire {a1 : Hire} {b2 : Hire} {r : Bool} (hm : w_eqHire a1 b2 = some r) (w : World)  :
    Calls Try.prog 42 #[.agg (Hire.enc a1).toArray, .agg (Hire.enc b2).toArray] w (Ret (cx w) (.bool r)) := by
  unfold w_eqHire at hm
  refine Calls.enter [.agg (Hire.enc a1).toArray, .agg (Hire.enc b2).toArray] Try.func42 rfl Try.ntmps42 rfl ?_
  refine WJ.seq ?_
  refine WJ.reg ?_
  refine SJ.box (cs := [.int .i64 a1.machine, .int .i64 a1.from_, .int .i64 a1.to]) rfl rfl rfl fun g3 => ?_
  refine SJ.box (cs := [.int .i64 b2.machine, .int .i64 b2.from_, .int .i64 b2.to]) rfl rfl rfl fun g4 => ?_
  refine SJ.q (y_assign rfl) rfl ?_
  refine SJ.nil ?_
  refine PJ.next ?_
  refine WJ.seq ?_
  refine WJ.seq ?_
  refine WJ.quiet ?_
  refine QJ.step (y_fldB (o := 0) fld60_0 rfl) rfl ?_
  refine QJ.step (y_loadB (k := 1) (off := 0) (v := .int .i64 a1.machine) rfl Try.isAgg2 rfl rfl) rfl ?_
  refine QJ.step (y_fldB (o := 0) fld60_0 rfl) rfl ?_
  refine QJ.step (y_loadB (k := 0) (off := 0) (v := .int .i64 b2.machine) rfl Try.isAgg2 rfl rfl) rfl ?_
  refine QJ.step (y_bin rfl rfl rfl) rfl ?_
  refine QJ.done ?_
  refine PJ.next ?_
  refine WJ.cond (t := (a1.machine != b2.machine)) rfl (fun hb5 => ?_) (fun hb5 => ?_)
  · replace hm := ifT hm hb5
    refine WJ.seq ?_
    refine WJ.quiet ?_
    refine QJ.step (y_assign rfl) rfl ?_
    refine QJ.done ?_
    refine PJ.next ?_
    refine WJ.ret ?_
    refine PJ.then_ret ?_
    obtain rfl := Option.some.inj hm
    refine PJ.sel (L' := []) [] ⟨List.nodup_nil, rfl⟩ ?_
    exact PJ.retn (vs := [.bool false]) Try.results42 ⟨rfl, trivial⟩ ⟨rfl, rfl⟩
  · replace hm := ifF hm hb5
    refine WJ.skip ?_
    refine PJ.next ?_
    refine WJ.seq ?_
    refine WJ.seq ?_
    refine WJ.quiet ?_
    refine QJ.step (y_fldB (o := 0) fld60_1 rfl) rfl ?_
    refine QJ.step (y_loadB (k := 1) (off := 1) (v := .int .i64 a1.from_) rfl Try.isAgg2 rfl rfl) rfl ?_
    refine QJ.step (y_fldB (o := 0) fld60_1 rfl) rfl ?_
    refine QJ.step (y_loadB (k := 0) (off := 1) (v := .int .i64 b2.from_) rfl Try.isAgg2 rfl rfl) rfl ?_
    refine QJ.step (y_bin rfl rfl rfl) rfl ?_
    refine QJ.done ?_
    refine PJ.next ?_
    refine WJ.cond (t := (a1.from_ != b2.from_)) rfl (fun hb6 => ?_) (fun hb6 => ?_)
    · replace hm := ifT hm hb6
      refine WJ.seq ?_
      refine WJ.quiet ?_
      refine QJ.step (y_assign rfl) rfl ?_
      refine QJ.done ?_
      refine PJ.next ?_
      refine WJ.ret ?_
      refine PJ.then_ret ?_
      obtain rfl := Option.some.inj hm
      refine PJ.sel (L' := []) [] ⟨List.nodup_nil, rfl⟩ ?_
      exact PJ.retn (vs := [.bool false]) Try.results42 ⟨rfl, trivial⟩ ⟨rfl, rfl⟩
    · replace hm := ifF hm hb6
      refine WJ.skip ?_
      refine PJ.next ?_
      refine WJ.seq ?_
      refine WJ.seq ?_
      refine WJ.quiet ?_
      refine QJ.step (y_fldB (o := 0) fld60_2 rfl) rfl ?_
      refine QJ.step (y_loadB (k := 1) (off := 2) (v := .int .i64 a1.to) rfl Try.isAgg2 rfl rfl) rfl ?_
      refine QJ.step (y_fldB (o := 0) fld60_2 rfl) rfl ?_
      refine QJ.step (y_loadB (k := 0) (off := 2) (v := .int .i64 b2.to) rfl Try.isAgg2 rfl rfl) rfl ?_
      refine QJ.step (y_bin rfl rfl rfl) rfl ?_
      refine QJ.done ?_
      refine PJ.next ?_
      refine WJ.cond (t := (a1.to != b2.to)) rfl (fun hb7 => ?_) (fun hb7 => ?_)
      · replace hm := ifT hm hb7
        refine WJ.seq ?_
        refine WJ.quiet ?_
        refine QJ.step (y_assign rfl) rfl ?_
        refine QJ.done ?_
        refine PJ.next ?_
        refine WJ.ret ?_
        refine PJ.then_ret ?_
        obtain rfl := Option.some.inj hm
        refine PJ.sel (L' := []) [] ⟨List.nodup_nil, rfl⟩ ?_
        exact PJ.retn (vs := [.bool false]) Try.results42 ⟨rfl, trivial⟩ ⟨rfl, rfl⟩
      · replace hm := ifF hm hb7
        refine WJ.skip ?_
        refine PJ.next ?_
        refine WJ.seq ?_
        refine WJ.quiet ?_
        refine QJ.step (y_assign rfl) rfl ?_
        refine QJ.done ?_
        refine PJ.next ?_
        refine WJ.ret ?_
        obtain rfl := Option.some.inj hm
        refine PJ.sel (L' := []) [] ⟨List.nodup_nil, rfl⟩ ?_
        exact PJ.retn (vs := [.bool true]) Try.results42 ⟨rfl, trivial⟩ ⟨rfl, rfl⟩

set_option maxRecDepth 100000 in
set_option maxHeartbeats 1000000 in
theorem ok_w_eqHireS {N : Nat} {a1 : List Hire} {b4 : List Hire} {r : Bool} (hm : w_eqHireS N a1 b4 = some r) (w : World) (v2 : Value) (hr3 : RdS w (cx w).Fz v2 fHire.rp a1) (v5 : Value) (hr6 : RdS w (cx w).Fz v5 fHire.rp b4) :
    Calls Try.prog 16 #[v2, v5] w (Ret (cx w) (.bool r)) := by
  unfold w_eqHireS at hm
  refine Calls.enter [v2, v5] Try.func16 rfl Try.ntmps16 rfl ?_
  refine WJ.seq ?_
  refine WJ.quiet ?_
  refine QJ.step (y_assign rfl) rfl ?_
  refine QJ.done ?_
  refine PJ.next ?_
  refine WJ.seq ?_
  refine WJ.seq ?_
  refine WJ.quiet ?_
  refine QJ.step (y_move rfl) rfl ?_
  refine QJ.step (y_lenS Try.runUnderlying28 hr3 rfl) rfl ?_
  refine QJ.step (y_move rfl) rfl ?_
  refine QJ.step (y_lenS Try.runUnderlying28 hr6 rfl) rfl ?_
  refine QJ.step (y_bin rfl rfl rfl) rfl ?_
  refine QJ.done ?_
  refine PJ.next ?_
  refine WJ.cond (t := ((List.length a1 : Int) != (List.length b4 : Int))) rfl (fun hb7 => ?_) (fun hb7 => ?_)
  · replace hm := ifT hm hb7
    refine WJ.seq ?_
    refine WJ.quiet ?_
    refine QJ.step (y_assign rfl) rfl ?_
    refine QJ.done ?_
    refine PJ.next ?_
    refine WJ.ret ?_
    refine PJ.then_ret ?_
    obtain rfl := Option.some.inj hm
    refine PJ.sel (L' := []) [] ⟨List.nodup_nil, rfl⟩ ?_
    exact PJ.retn (vs := [.bool false]) Try.results16 ⟨rfl, trivial⟩ ⟨rfl, rfl⟩
  · replace hm := ifF hm hb7
    refine WJ.skip ?_
    refine PJ.next ?_
    obtain ⟨k8, hk9, hm⟩ := withK_open hm
    refine WJ.join (X := Unit) (fun (_ : Unit) => k8  = some r) (fun (_ : Unit) => []) (fun (_ : Unit) => []) ?_ ?_
    · clear hk9
      refine WJ.seq ?_
      refine WJ.quiet ?_
      refine QJ.step (y_assign rfl) rfl ?_
      refine QJ.done ?_
      refine PJ.next ?_
      refine WJ.block ?_
      refine WJ.sel (L' := (fun (x : Int) => []) 0) [] ⟨List.nodup_nil, rfl⟩ ?_
      refine WJ.sub (m' := (fun (x : Int) => [(0, v2), (1, v5), (5, .int .i64 x)]) 0) ⟨rfl, rfl, rfl, trivial⟩ ?_
      refine WJ.loop (X := Int) (fun N (x : Int) => w_eqHireS_l1 k8 a1 b4 N x = some r) (fun (x : Int) => [(0, v2), (1, v5), (5, .int .i64 x)]) (fun (x : Int) => []) ?_ N 0 hm
      · rintro N i10 hI
        have hm := hI; clear hI
        cases N with
        | zero => cases hm
        | succ N =>
        unfold w_eqHireS_l1 at hm
        refine WJ.seq ?_
        refine WJ.seq ?_
        refine WJ.quiet ?_
        refine QJ.step (y_move rfl) rfl ?_
        refine QJ.step (y_move rfl) rfl ?_
        refine QJ.step (y_lenS Try.runUnderlying28 hr3 rfl) rfl ?_
        refine QJ.step (y_bin rfl rfl rfl) rfl ?_
        refine QJ.done ?_
        refine PJ.next ?_
        refine WJ.cond (t := decide (i10 < (List.length a1 : Int))) rfl (fun hb11 => ?_) (fun hb11 => ?_)
        · replace hm := ifT hm hb11
          refine WJ.skip ?_
          refine PJ.next ?_
          refine WJ.seq ?_
          refine WJ.block ?_
          refine WJ.seq ?_
          refine WJ.quiet_draw follows (by kernel_rfl) ?_
          refine QJ.step (y_move rfl) rfl ?_
          refine QJ.step (y_move rfl) rfl ?_
          obtain ⟨e12, h13, hm⟩ := bindS hm
          obtain ⟨ad14, _, rfl, ha15, hy16⟩ := hr3.elem h13
          refine QJ.step (hy16 Try.runUnderlying28 Try.sizeOf60 rfl rfl) rfl ?_
          refine QJ.step (y_loadN Try.isAgg60 Try.sizeOf60 rfl ha15 St.frozenC rfl) rfl ?_
          refine QJ.step (y_move rfl) rfl ?_
          refine QJ.step (y_move rfl) rfl ?_
          obtain ⟨e17, h18, hm⟩ := bindS hm
          obtain ⟨ad19, _, rfl, ha20, hy21⟩ := hr6.elem h18
          refine QJ.step (hy21 Try.runUnderlying28 Try.sizeOf60 rfl rfl) rfl ?_
          refine QJ.step (y_loadN Try.isAgg60 Try.sizeOf60 rfl ha20 St.frozenC rfl) rfl ?_
          obtain ⟨r22, h23, hm⟩ := bindS hm
          refine QJ.step (y_call Try.call42 rfl (RetG.quiet fun w hw => ok_w_eqHire h23 w )) rfl ?_
          refine QJ.step (y_not rfl) rfl ?_
          refine QJ.done ?_
          refine PJ.next ?_
          refine WJ.cond (t := !r22) rfl (fun hb24 => ?_) (fun hb24 => ?_)
          · replace hm := ifT hm hb24
            refine WJ.seq ?_
            refine WJ.quiet ?_
            refine QJ.step (y_assign rfl) rfl ?_
            refine QJ.done ?_
            refine PJ.next ?_
            refine WJ.ret ?_
            refine PJ.block_ret (PJ.then_ret (PJ.then_ret (PJ.block_ret (PJ.then_ret ?_))))
            obtain rfl := Option.some.inj hm
            refine PJ.sel (L' := []) [] ⟨List.nodup_nil, rfl⟩ ?_
            exact PJ.retn (vs := [.bool false]) Try.results16 ⟨rfl, trivial⟩ ⟨rfl, rfl⟩
          · replace hm := ifF hm hb24
            refine WJ.skip ?_
            refine PJ.block_normal (PJ.next ?_)
            refine WJ.quiet ?_
            refine QJ.step (y_move rfl) rfl ?_
            refine QJ.step (y_bin rfl rfl rfl) rfl ?_
            refine QJ.step (y_assign rfl) rfl ?_
            refine QJ.done ?_
            exact PJ.round (w64 (i10 + 1)) [] hm ⟨rfl, rfl, rfl, trivial⟩ ⟨List.nodup_nil, rfl⟩
        · replace hm := ifF hm hb11
          refine WJ.exit ?_
          refine PJ.then_exit (PJ.then_exit (PJ.block_exit ?_))
          exact PJ.joined () [] hm trivial ⟨List.nodup_nil, rfl⟩
    · rintro _ hm
      subst hk9
      refine WJ.seq ?_
      refine WJ.quiet ?_
      refine QJ.step (y_assign rfl) rfl ?_
      refine QJ.done ?_
      refine PJ.next ?_
      refine WJ.ret ?_
      obtain rfl := Option.some.inj hm
      refine PJ.sel (L' := []) [] ⟨List.nodup_nil, rfl⟩ ?_
      exact PJ.retn (vs := [.bool true]) Try.results16 ⟨rfl, trivial⟩ ⟨rfl, rfl⟩

set_option maxRecDepth 100000 in
set_option maxHeartbeats 1000000 in
theorem ok_w_FnExactSameHires {N : Nat} {aA1 : List Hire} {aB4 : List Hire} {r : Bool} (hm : w_FnExactSameHires N aA1 aB4 = some r) (w : World) (v2 : Value) (hr3 : RdS w (cx w).Fz v2 fHire.rp aA1) (v5 : Value) (hr6 : RdS w (cx w).Fz v5 fHire.rp aB4) :
    Calls Try.prog 4 #[v2, v5] w (Ret (cx w) (.bool r)) := by
  unfold w_FnExactSameHires at hm
  refine Calls.enter [v2, v5] Try.func4 rfl Try.ntmps4 rfl ?_
  refine WJ.seq ?_
  refine WJ.quiet ?_
  refine QJ.step (y_assign rfl) rfl ?_
  refine QJ.done ?_
  refine PJ.next ?_
  refine WJ.seq ?_
  refine WJ.quiet ?_
  refine QJ.step (y_assign rfl) rfl ?_
  refine QJ.done ?_
  refine PJ.next ?_
  refine WJ.seq ?_
  refine WJ.quiet ?_
  refine QJ.step (y_move rfl) rfl ?_
  refine QJ.step (y_move rfl) rfl ?_
  obtain ⟨r7, h8, hm⟩ := bindS hm
  refine QJ.step (y_call Try.call12 rfl (RetG.quiet fun w hw => ok_w_szHireS h8 w _ (hr3.st hw))) rfl ?_
  refine QJ.step (y_assign rfl) rfl ?_
  refine QJ.done ?_
  refine PJ.next ?_
  refine WJ.seq ?_
  refine WJ.seq ?_
  refine WJ.quiet ?_
  refine QJ.step (y_move rfl) rfl ?_
  refine QJ.step (y_bin rfl rfl rfl) rfl ?_
  refine QJ.done ?_
  refine PJ.next ?_
  refine WJ.cond (t := decide (r7 < 0)) rfl (fun hb9 => ?_) (fun hb9 => ?_)
  · replace hm := ifT hm hb9
    refine WJ.seq ?_
    refine WJ.quiet ?_
    refine QJ.step (y_assign rfl) rfl ?_
    refine QJ.done ?_
    refine PJ.next ?_
    refine WJ.ret ?_
    refine PJ.then_ret ?_
    obtain rfl := Option.some.inj hm
    refine PJ.sel (L' := []) [] ⟨List.nodup_nil, rfl⟩ ?_
    exact PJ.retn (vs := [.bool true]) Try.results4 ⟨rfl, trivial⟩ ⟨rfl, rfl⟩
  · replace hm := ifF hm hb9
    refine WJ.skip ?_
    refine PJ.next ?_
    refine WJ.seq ?_
    refine WJ.quiet ?_
    refine QJ.step (y_move rfl) rfl ?_
    refine QJ.step (y_move rfl) rfl ?_
    obtain ⟨r10, h11, hm⟩ := bindS hm
    refine QJ.step (y_call Try.call12 rfl (RetG.quiet fun w hw => ok_w_szHireS h11 w _ (hr6.st hw))) rfl ?_
    refine QJ.step (y_assign rfl) rfl ?_
    refine QJ.done ?_
    refine PJ.next ?_
    refine WJ.seq ?_
    refine WJ.seq ?_
    refine WJ.quiet ?_
    refine QJ.step (y_move rfl) rfl ?_
    refine QJ.step (y_bin rfl rfl rfl) rfl ?_
    refine QJ.done ?_
    refine PJ.next ?_
    refine WJ.cond (t := decide (r10 < 0)) rfl (fun hb12 => ?_) (fun hb12 => ?_)
    · replace hm := ifT hm hb12
      refine WJ.seq ?_
      refine WJ.quiet ?_
      refine QJ.step (y_assign rfl) rfl ?_
      refine QJ.done ?_
      refine PJ.next ?_
      refine WJ.ret ?_
      refine PJ.then_ret ?_
      obtain rfl := Option.some.inj hm
      refine PJ.sel (L' := []) [] ⟨List.nodup_nil, rfl⟩ ?_
      exact PJ.retn (vs := [.bool true]) Try.results4 ⟨rfl, trivial⟩ ⟨rfl, rfl⟩
    · replace hm := ifF hm hb12
      refine WJ.skip ?_
      refine PJ.next ?_
      refine WJ.seq ?_
      refine WJ.reg ?_
      refine SJ.q (y_move rfl) rfl ?_
      obtain ⟨r13, h14, hm⟩ := bindS hm
      refine SJ.call Try.call14 rfl (fun w hw => ok_w_toHireS h14 w _ (hr3.st hw)) rfl ?_
      rintro v15 _ ⟨_, rfl, rfl⟩
      refine SJ.q (y_move rfl) rfl ?_
      obtain ⟨r16, h17, hm⟩ := bindS hm
      refine SJ.call Try.call14 rfl (fun w hw => ok_w_toHireS h17 w _ (hr6.st hw)) rfl ?_
      rintro v18 _ ⟨_, rfl, rfl⟩
      obtain ⟨r19, h20, hm⟩ := bindS hm
      refine SJ.q (y_call Try.call13 rfl (RetG.quiet fun w hw => ok_s_SameHires h20 w _ (hw.row_rd (k := 1) rfl) _ (hw.row_rd (k := 0) rfl))) rfl ?_
      refine SJ.q (y_assign rfl) rfl ?_
      refine SJ.nil ?_
      refine PJ.next ?_
      refine WJ.seq ?_
      refine WJ.reg ?_
      refine SJ.q (y_move rfl) rfl ?_
      obtain ⟨r21, h22, hm⟩ := bindS hm
      refine SJ.call Try.call14 rfl (fun w hw => ok_w_toHireS h22 w _ (hr3.st hw)) rfl ?_
      rintro v23 _ ⟨_, rfl, rfl⟩
      refine SJ.q (y_assign rfl) rfl ?_
      refine SJ.nil ?_
      refine PJ.next ?_
      refine WJ.seq ?_
      refine WJ.reg ?_
      refine SJ.q (y_move rfl) rfl ?_
      obtain ⟨r24, h25, hm⟩ := bindS hm
      refine SJ.call Try.call14 rfl (fun w hw => ok_w_toHireS h25 w _ (hr6.st hw)) rfl ?_
      rintro v26 _ ⟨_, rfl, rfl⟩
      refine SJ.q (y_assign rfl) rfl ?_
      refine SJ.nil ?_
      refine PJ.next ?_
      refine WJ.seq ?_
      refine WJ.quiet ?_
      refine QJ.step (y_move rfl) rfl ?_
      refine QJ.step (y_move rfl) rfl ?_
      obtain ⟨r27, h28, hm⟩ := bindS hm
      refine QJ.step (y_call Try.call15 rfl (RetG.quiet fun w hw => ok_i_SameHires h28 w _ (hw.row_rd (k := 1) rfl) _ (hw.row_rd (k := 0) rfl))) rfl ?_
      refine QJ.step (y_assign rfl) rfl ?_
      refine QJ.done ?_
      refine PJ.next ?_
      refine WJ.seq ?_
      refine WJ.seq ?_
      refine WJ.quiet ?_
      refine QJ.step (y_move rfl) rfl ?_
      refine QJ.step (y_move rfl) rfl ?_
      refine QJ.step (y_neB Try.underlying4 rfl rfl rfl) rfl ?_
      refine QJ.done ?_
      refine PJ.next ?_
      refine WJ.cond (t := (r27 != r19)) rfl (fun hb29 => ?_) (fun hb29 => ?_)
      · replace hm := ifT hm hb29
        refine WJ.seq ?_
        refine WJ.quiet ?_
        refine QJ.step (y_assign rfl) rfl ?_
        refine QJ.done ?_
        refine PJ.next ?_
        refine WJ.ret ?_
        refine PJ.then_ret ?_
        obtain rfl := Option.some.inj hm
        refine PJ.sel (L' := []) [] ⟨List.nodup_nil, rfl⟩ ?_
        exact PJ.retn (vs := [.bool false]) Try.results4 ⟨rfl, trivial⟩ ⟨rfl, rfl⟩
      · replace hm := ifF hm hb29
        refine WJ.skip ?_
        refine PJ.next ?_
        refine WJ.seq ?_
        refine WJ.seq ?_
        refine WJ.reg ?_
        refine SJ.q (y_move rfl) rfl ?_
        refine SJ.q (y_move rfl) rfl ?_
        obtain ⟨r30, h31, hm⟩ := bindS hm
        refine SJ.call Try.call14 rfl (fun w hw => ok_w_toHireS h31 w _ (hr3.st hw)) rfl ?_
        rintro v32 _ ⟨_, rfl, rfl⟩
        obtain ⟨r33, h34, hm⟩ := bindS hm
        refine SJ.q (y_call Try.call16 rfl (RetG.quiet fun w hw => ok_w_eqHireS h34 w _ (hw.row_rd (k := 2) rfl) _ (hw.row_rd (k := 0) rfl))) rfl ?_
        refine SJ.q (y_not rfl) rfl ?_
        refine SJ.nil ?_
        refine PJ.next ?_
        refine WJ.cond (t := !r33) rfl (fun hb35 => ?_) (fun hb35 => ?_)
        · replace hm := ifT hm hb35
          refine WJ.seq ?_
          refine WJ.quiet ?_
          refine QJ.step (y_assign rfl) rfl ?_
          refine QJ.done ?_
          refine PJ.next ?_
          refine WJ.ret ?_
          refine PJ.then_ret ?_
          obtain rfl := Option.some.inj hm
          refine PJ.sel (L' := []) [] ⟨List.nodup_nil, rfl⟩ ?_
          exact PJ.retn (vs := [.bool false]) Try.results4 ⟨rfl, trivial⟩ ⟨rfl, rfl⟩
        · replace hm := ifF hm hb35
          refine WJ.skip ?_
          refine PJ.next ?_
          refine WJ.seq ?_
          refine WJ.seq ?_
          refine WJ.reg ?_
          refine SJ.q (y_move rfl) rfl ?_
          refine SJ.q (y_move rfl) rfl ?_
          obtain ⟨r36, h37, hm⟩ := bindS hm
          refine SJ.call Try.call14 rfl (fun w hw => ok_w_toHireS h37 w _ (hr6.st hw)) rfl ?_
          rintro v38 _ ⟨_, rfl, rfl⟩
          obtain ⟨r39, h40, hm⟩ := bindS hm
          refine SJ.q (y_call Try.call16 rfl (RetG.quiet fun w hw => ok_w_eqHireS h40 w _ (hw.row_rd (k := 2) rfl) _ (hw.row_rd (k := 0) rfl))) rfl ?_
          refine SJ.q (y_not rfl) rfl ?_
          refine SJ.nil ?_
          refine PJ.next ?_
          refine WJ.cond (t := !r39) rfl (fun hb41 => ?_) (fun hb41 => ?_)
          · replace hm := ifT hm hb41
            refine WJ.seq ?_
            refine WJ.quiet ?_
            refine QJ.step (y_assign rfl) rfl ?_
            refine QJ.done ?_
            refine PJ.next ?_
            refine WJ.ret ?_
            refine PJ.then_ret ?_
            obtain rfl := Option.some.inj hm
            refine PJ.sel (L' := []) [] ⟨List.nodup_nil, rfl⟩ ?_
            exact PJ.retn (vs := [.bool false]) Try.results4 ⟨rfl, trivial⟩ ⟨rfl, rfl⟩
          · replace hm := ifF hm hb41
            refine WJ.skip ?_
            refine PJ.next ?_
            refine WJ.seq ?_
            refine WJ.quiet ?_
            refine QJ.step (y_assign rfl) rfl ?_
            refine QJ.done ?_
            refine PJ.next ?_
            refine WJ.ret ?_
            obtain rfl := Option.some.inj hm
            refine PJ.sel (L' := []) [] ⟨List.nodup_nil, rfl⟩ ?_
            exact PJ.retn (vs := [.bool true]) Try.results4 ⟨rfl, trivial⟩ ⟨rfl, rfl⟩

end Go.Proofs.Ytigjflandggihaa
