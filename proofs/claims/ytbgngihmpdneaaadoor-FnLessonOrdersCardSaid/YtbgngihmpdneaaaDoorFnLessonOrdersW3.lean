/-
  The walks: a call hands back what its plain function computes, where that has a value. No other conditions.
-/
import Derived.Test.YtbgngihmpdneaaaDoorFnLessonOrdersW2
import Derived.Test.YtbgngihmpdneaaaDoorChecked
namespace Go.Proofs.YtbgngihmpdneaaaDoor
open Go.RowKit Go.Proofs
set_option linter.unusedVariables false
set_option linter.unusedSimpArgs false

set_option maxRecDepth 100000 in
set_option maxHeartbeats 1000000 in
theorem ok_i_LessonText {N : Nat} {list1 : List Lesson} {k4 : Int} {r : Str} (hm : i_LessonText N list1 k4 = some r) (w : World) (hT : Tab Tryd.prog tabNm w (cx w).Fz) (v2 : Value) (hr3 : RdS w (cx w).Fz v2 (shLesson.rp fI64.rp) list1) :
    Calls Tryd.prog 23 #[v2, .int .i64 k4] w (Ret (cx w) (str r)) := by
  unfold i_LessonText at hm
  refine Calls.enter [v2, .int .i64 k4] Tryd.func23 rfl Tryd.ntmps23 rfl ?_
  refine WJ.seq ?_
  refine WJ.quiet ?_
  refine QJ.step (YldS.yld (y_assign rfl)) rfl ?_
  refine QJ.done ?_
  refine PJ.next ?_
  refine WJ.seq ?_
  refine WJ.seq ?_
  refine WJ.quiet ?_
  refine QJ.step (YldS.yld (y_move rfl)) rfl ?_
  obtain ⟨r5, h6, hm⟩ := bindS hm
  refine QJ.step (y_call Tryd.call25 rfl (RetG.quiet fun w hw => ok_i_ValidLessons h6 w _ (hr3.st hw))) rfl ?_
  refine QJ.step (YldS.yld (y_not rfl)) rfl ?_
  refine QJ.step (YldS.yld (y_move rfl)) rfl ?_
  obtain ⟨t7, h8, hm⟩ := bindS hm
  refine QJ.cut 7 [(0, v2), (1, .int .i64 k4), (20, .bool t7)] ?_ ?_
  · rcases Bool.eq_false_or_eq_true (!r5) with hb9 | hb9
    · obtain rfl := orT h8 hb9
      refine QJ.off rfl rfl (cB hb9) rfl rfl ?_
      refine QJ.off rfl rfl (cB hb9) rfl rfl ?_
      refine QJ.off rfl rfl (cB hb9) rfl rfl ?_
      refine QJ.off rfl rfl (cB hb9) rfl rfl ?_
      refine QJ.off rfl rfl (cB hb9) rfl rfl ?_
      refine QJ.off rfl rfl (cB hb9) rfl rfl ?_
      refine QJ.step (YldS.yld (y_pick_t (cB hb9) rfl)) rfl ?_
      exact QJ.cut_end ⟨rfl, rfl, rfl, trivial⟩
    · replace h8 := orF h8 hb9
      refine QJ.on rfl rfl (cB hb9) (YldS.yld (y_move rfl)) rfl ?_
      refine QJ.on rfl rfl (cB hb9) (YldS.yld (y_move rfl)) rfl ?_
      refine QJ.on rfl rfl (cB hb9) (YldS.yld (y_lenS Tryd.runUnderlying24 hr3 rfl)) rfl ?_
      refine QJ.on rfl rfl (cB hb9) (YldS.yld (y_bin rfl rfl rfl)) rfl ?_
      obtain ⟨r10, h11, h8⟩ := bindS h8
      refine QJ.on rfl rfl (cB hb9) (y_call Tryd.call70 rfl (RetG.quiet fun w hw => ok_i_between h11 w )) rfl ?_
      refine QJ.on rfl rfl (cB hb9) (YldS.yld (y_not rfl)) rfl ?_
      refine QJ.step (YldS.yld (y_pick_f (cB hb9) rfl)) rfl ?_
      obtain rfl := Option.some.inj h8
      exact QJ.cut_end ⟨rfl, rfl, rfl, trivial⟩
  refine QJ.done ?_
  refine PJ.next ?_
  refine WJ.cond (t := t7) rfl (fun hb12 => ?_) (fun hb12 => ?_)
  · replace hm := ifT hm hb12
    refine WJ.seq ?_
    refine WJ.quiet ?_
    refine QJ.step (YldS.yld (y_assign rfl)) rfl ?_
    refine QJ.done ?_
    refine PJ.next ?_
    refine WJ.ret ?_
    refine PJ.then_ret ?_
    obtain rfl := Option.some.inj hm
    refine PJ.sel (L' := []) [] ⟨List.nodup_nil, rfl⟩ ?_
    exact PJ.retn (vs := [str []]) Tryd.results23 ⟨rfl, trivial⟩ ⟨rfl, rfl⟩
  · replace hm := ifF hm hb12
    refine WJ.skip ?_
    refine PJ.next ?_
    refine WJ.seq ?_
    refine WJ.reg ?_
    refine SJ.q (YldS.yld (y_move rfl)) rfl ?_
    refine SJ.q (YldS.yld (y_move rfl)) rfl ?_
    obtain ⟨e13, h14, hm⟩ := bindS hm
    obtain ⟨ad15, _, ⟨v18, rfl, hr19⟩, ha16, hy17⟩ := hr3.elem h14
    refine SJ.q (YldS.yld (hy17 Tryd.runUnderlying24 Tryd.sizeOf47 rfl rfl)) rfl ?_
    refine SJ.q (YldS.yld (y_loadN Tryd.isAgg47 Tryd.sizeOf47 rfl ha16 St.frozenC rfl)) rfl ?_
    refine SJ.alloc (cs := [str [], str [], .slice none 0 0, .int .i64 0]) Tryd.zeroValue47 rfl rfl fun g20 => ?_
    refine SJ.nil_row 2 fI64 ?_
    have hc21 := And.intro (RdS.cells1 hr19) (RdS.one1 hr19)
    refine SJ.storeL (k := 1) (off := 0) (us := [str e13.name, str e13.letters, v18, .int .i64 e13.hours]) rfl rfl rfl rfl Tryd.sizeOf47 rfl (by simp only [List.all_cons, hc21.2]; rfl) ?_
    refine SJ.nil ?_
    refine PJ.next ?_
    refine WJ.seq ?_
    refine WJ.quiet_draw follows (by kernel_rfl) ?_
    refine QJ.step (YldS.yld (y_fldB (o := 0) fld47_0 rfl)) rfl ?_
    refine QJ.step (YldS.yld (y_loadB (k := 1) (off := 0) (v := str e13.name) rfl Tryd.isAgg9 rfl rfl)) rfl ?_
    obtain ⟨s22, h23, hm⟩ := bindS hm
    refine QJ.step (YldS.yld (y_cat h23 rfl rfl)) rfl ?_
    refine QJ.step (YldS.yld (y_fldB (o := 0) fld47_3 rfl)) rfl ?_
    refine QJ.step (YldS.yld (y_loadB (k := 1) (off := 3) (v := .int .i64 e13.hours) rfl Tryd.isAgg2 rfl rfl)) rfl ?_
    obtain ⟨r24, h25, hm⟩ := bindS hm
    refine QJ.step (y_call Tryd.call71 rfl (RetG.quiet fun w hw => ok_i_Decimal h25 w (hT.st hw))) rfl ?_
    obtain ⟨s26, h27, hm⟩ := bindS hm
    refine QJ.step (YldS.yld (y_cat h27 rfl rfl)) rfl ?_
    obtain ⟨s28, h29, hm⟩ := bindS hm
    refine QJ.step (YldS.yld (y_cat h29 rfl rfl)) rfl ?_
    refine QJ.step (YldS.yld (y_fldB (o := 0) fld47_1 rfl)) rfl ?_
    refine QJ.step (YldS.yld (y_loadB (k := 1) (off := 1) (v := str e13.letters) rfl Tryd.isAgg9 rfl rfl)) rfl ?_
    obtain ⟨s30, h31, hm⟩ := bindS hm
    refine QJ.step (YldS.yld (y_cat h31 rfl rfl)) rfl ?_
    obtain ⟨s32, h33, hm⟩ := bindS hm
    refine QJ.step (YldS.yld (y_cat h33 rfl rfl)) rfl ?_
    refine QJ.step (YldS.yld (y_assign rfl)) rfl ?_
    refine QJ.done ?_
    refine PJ.next ?_
    refine WJ.seq ?_
    refine WJ.reg ?_
    refine SJ.buildSlice (R := fStr) (os := []) [] Tryd.runUnderlying86 Tryd.sizeOf9 Tryd.zeroValue9 rfl rfl rfl rfl rfl rfl fun v34 => ?_
    refine SJ.q (YldS.yld (y_assign rfl)) rfl ?_
    refine SJ.nil ?_
    refine PJ.next ?_
    obtain ⟨kj37, hk38, hm⟩ := withK_open hm
    refine WJ.join (X := (List Str) × Value) (fun (x : (List Str) × Value) => kj37 x.1 = some r) (fun (x : (List Str) × Value) => [(6, str s32), (7, x.2)]) (fun (x : (List Str) × Value) => [row x.2 9 fStr x.1]) ?_ ?_
    · clear hk38
      refine WJ.seq ?_
      refine WJ.quiet ?_
      refine QJ.step (YldS.yld (y_fldB (o := 0) fld47_2 rfl)) rfl ?_
      refine QJ.step (YldS.yld (y_loadB (k := 2) (off := 2) (v := v18) rfl Tryd.isAgg26 rfl rfl)) rfl ?_
      refine QJ.step (YldS.yld (y_lenS Tryd.runUnderlying26 hr19 rfl)) rfl ?_
      refine QJ.step (YldS.yld (y_move rfl)) rfl ?_
      refine QJ.done ?_
      refine PJ.next ?_
      refine WJ.block ?_
      refine WJ.sel (L' := (fun (x : (List Str) × Value × Int) => [row x.2.1 9 fStr x.1]) ([], v34, 0)) [0] ⟨by decide, rfl⟩ ?_
      refine WJ.sub (m' := (fun (x : (List Str) × Value × Int) => [(0, v2), (6, str s32), (7, x.2.1), (39, v18), (40, .int .i64 (List.length e13.needs : Int)), (41, .int .i64 x.2.2)]) ([], v34, 0)) ⟨rfl, rfl, rfl, rfl, rfl, rfl, trivial⟩ ?_
      refine WJ.loop (X := (List Str) × Value × Int) (fun N (x : (List Str) × Value × Int) => i_LessonText_l1 kj37 list1 e13 N x.1 x.2.2 = some r) (fun (x : (List Str) × Value × Int) => [(0, v2), (6, str s32), (7, x.2.1), (39, v18), (40, .int .i64 (List.length e13.needs : Int)), (41, .int .i64 x.2.2)]) (fun (x : (List Str) × Value × Int) => [row x.2.1 9 fStr x.1]) ?_ N ([], v34, 0) hm
      · rintro N ⟨l39, v40, x41⟩ hI
        have hm := hI; clear hI
        cases N with
        | zero => cases hm
        | succ N =>
        unfold i_LessonText_l1 at hm
        refine WJ.seq ?_
        refine WJ.quiet ?_
        refine QJ.step (YldS.yld (y_bin rfl rfl rfl)) rfl ?_
        refine QJ.done ?_
        refine PJ.next ?_
        refine WJ.seq ?_
        refine WJ.cond (t := decide (x41 < (List.length e13.needs : Int))) rfl (fun hb42 => ?_) (fun hb42 => ?_)
        · replace hm := ifT hm hb42
          refine WJ.skip ?_
          refine PJ.next ?_
          refine WJ.seq ?_
          refine WJ.block ?_
          refine WJ.seq ?_
          refine WJ.quiet ?_
          obtain ⟨e43, h44, hm⟩ := bindS hm
          obtain ⟨ad45, _, rfl, ha46, hy47⟩ := hr19.elem h44
          refine QJ.step (YldS.yld (hy47 Tryd.runUnderlying26 Tryd.sizeOf2 rfl rfl)) rfl ?_
          refine QJ.step (YldS.yld (y_load1 (v := .int .i64 e43) Tryd.isAgg2 ha46 St.frozenC rfl)) rfl ?_
          refine QJ.step (YldS.yld (y_assign rfl)) rfl ?_
          refine QJ.done ?_
          refine PJ.next ?_
          refine WJ.reg ?_
          refine SJ.q (YldS.yld (y_move rfl)) rfl ?_
          refine SJ.q (YldS.yld (y_move rfl)) rfl ?_
          refine SJ.q (YldS.yld (y_move rfl)) rfl ?_
          obtain ⟨e48, h49, hm⟩ := bindS hm
          obtain ⟨ad50, _, ⟨v53, rfl, hr54⟩, ha51, hy52⟩ := hr3.elem h49
          refine SJ.q (YldS.yld (hy52 Tryd.runUnderlying24 Tryd.sizeOf47 rfl rfl)) rfl ?_
          refine SJ.q (YldS.yld (y_fld (ad := ad50) fld47_0 rfl)) rfl ?_
          refine SJ.q (YldS.yld (y_load1 (v := str e48.name) Tryd.isAgg9 (ha51.sub 0 1) St.frozenC rfl)) rfl ?_
          refine SJ.buildSlice (R := fStr) (os := [.tmp 50]) [e48.name] Tryd.runUnderlying86 Tryd.sizeOf9 Tryd.zeroValue9 rfl rfl rfl rfl rfl rfl fun v55 => ?_
          obtain ⟨l56, h57, hm⟩ := bindS hm
          refine SJ.append (k := 1) (R := fStr) h57 rfl Tryd.underlying86 el9 rfl rfl rfl (fun w hw => (hw.row_rd (k := 0) rfl)) rfl fun v58 => ?_
          refine SJ.q (YldS.yld (y_assign rfl)) rfl ?_
          refine SJ.nil ?_
          refine PJ.block_normal (PJ.next ?_)
          refine WJ.quiet ?_
          refine QJ.step (YldS.yld (y_bin rfl rfl rfl)) rfl ?_
          refine QJ.step (YldS.yld (y_move rfl)) rfl ?_
          refine QJ.done ?_
          exact PJ.round (l56, v58, w64 (x41 + 1)) [1] hm ⟨rfl, rfl, rfl, rfl, rfl, rfl, trivial⟩ ⟨by decide, rfl⟩
        · replace hm := ifF hm hb42
          refine WJ.exit ?_
          refine PJ.then_exit (PJ.then_exit (PJ.block_exit ?_))
          exact PJ.joined (l39, v40) [0] hm ⟨rfl, rfl, trivial⟩ ⟨by decide, rfl⟩
    · rintro ⟨l35, v36⟩ hm
      subst hk38
      obtain ⟨kj60, hk61, hm⟩ := withK_open hm
      refine WJ.join (X := Str) (fun (x : Str) => kj60 x = some r) (fun (x : Str) => [(6, str x)]) (fun (x : Str) => []) ?_ ?_
      · clear hk61
        refine WJ.seq ?_
        refine WJ.quiet ?_
        refine QJ.step (YldS.yld (y_move rfl)) rfl ?_
        refine QJ.step (YldS.yld (y_lenRow (k := 0) rfl Tryd.runUnderlying86 rfl)) rfl ?_
        refine QJ.step (YldS.yld (y_bin rfl rfl rfl)) rfl ?_
        refine QJ.done ?_
        refine PJ.next ?_
        refine WJ.cond (t := decide ((List.length l35 : Int) > 0)) rfl (fun hb62 => ?_) (fun hb62 => ?_)
        · replace hm := ifT hm hb62
          refine WJ.quiet ?_
          refine QJ.step (YldS.yld (y_move rfl)) rfl ?_
          refine QJ.step (YldS.yld (y_move rfl)) rfl ?_
          obtain ⟨r63, h64, hm⟩ := bindS hm
          refine QJ.step (y_call Tryd.call72 rfl (RetG.quiet fun w hw => ok_joinO h64 w _ (hw.row_rd (k := 0) rfl) (hw.row_sp (k := 0) rfl))) rfl ?_
          obtain ⟨s65, h66, hm⟩ := bindS hm
          refine QJ.step (YldS.yld (y_cat h66 rfl rfl)) rfl ?_
          obtain ⟨s67, h68, hm⟩ := bindS hm
          refine QJ.step (YldS.yld (y_cat h68 rfl rfl)) rfl ?_
          refine QJ.step (YldS.yld (y_assign rfl)) rfl ?_
          refine QJ.done ?_
          exact PJ.joined s67 [] hm ⟨rfl, trivial⟩ ⟨List.nodup_nil, rfl⟩
        · replace hm := ifF hm hb62
          refine WJ.skip ?_
          exact PJ.joined s32 [] hm ⟨rfl, trivial⟩ ⟨List.nodup_nil, rfl⟩
      · rintro out59 hm
        subst hk61
        refine WJ.seq ?_
        refine WJ.quiet ?_
        refine QJ.step (YldS.yld (y_move rfl)) rfl ?_
        refine QJ.step (YldS.yld (y_assign rfl)) rfl ?_
        refine QJ.done ?_
        refine PJ.next ?_
        refine WJ.ret ?_
        obtain rfl := Option.some.inj hm
        refine PJ.sel (L' := []) [] ⟨List.nodup_nil, rfl⟩ ?_
        exact PJ.retn (vs := [str out59]) Tryd.results23 ⟨rfl, trivial⟩ ⟨rfl, rfl⟩

set_option maxRecDepth 100000 in
set_option maxHeartbeats 1000000 in
theorem ok_s_l01Dec {N : Nat} {n1 : Int} {r : Str} (hm : s_l01Dec N n1 = some r) (w : World)  :
    Calls Tryd.prog 74 #[.int .i64 n1] w (Ret (cx w) (str r)) := by
  unfold s_l01Dec at hm
  refine Calls.enter [.int .i64 n1] Tryd.func74 rfl Tryd.ntmps74 rfl ?_
  refine WJ.seq ?_
  refine WJ.quiet ?_
  refine QJ.step (YldS.yld (y_assign rfl)) rfl ?_
  refine QJ.done ?_
  refine PJ.next ?_
  refine WJ.seq ?_
  refine WJ.reg ?_
  refine SJ.buildSlice (R := fByte) (os := []) [] Tryd.runUnderlying22 Tryd.sizeOf5 Tryd.zeroValue5 rfl rfl rfl rfl rfl rfl fun v2 => ?_
  refine SJ.q (YldS.yld (y_assign rfl)) rfl ?_
  refine SJ.nil ?_
  refine PJ.next ?_
  obtain ⟨kj5, hk6, hm⟩ := withK_open hm
  refine WJ.join (X := (List UInt8) × Value) (fun (x : (List UInt8) × Value) => kj5 x.1 = some r) (fun (x : (List UInt8) × Value) => [(0, .int .i64 n1), (3, x.2)]) (fun (x : (List UInt8) × Value) => [row x.2 5 fByte x.1]) ?_ ?_
  · clear hk6
    refine WJ.seq ?_
    refine WJ.quiet ?_
    refine QJ.step (YldS.yld (y_move rfl)) rfl ?_
    refine QJ.step (YldS.yld (y_assign rfl)) rfl ?_
    refine QJ.done ?_
    refine PJ.next ?_
    refine WJ.block ?_
    refine WJ.sel (L' := (fun (x : (List UInt8) × Value × Int) => [row x.2.1 5 fByte x.1]) ([], v2, n1)) [0] ⟨by decide, rfl⟩ ?_
    refine WJ.sub (m' := (fun (x : (List UInt8) × Value × Int) => [(0, .int .i64 n1), (3, x.2.1), (4, .int .i64 x.2.2)]) ([], v2, n1)) ⟨rfl, rfl, rfl, trivial⟩ ?_
    refine WJ.loop (X := (List UInt8) × Value × Int) (fun N (x : (List UInt8) × Value × Int) => s_l01Dec_l1 kj5 N x.1 x.2.2 = some r) (fun (x : (List UInt8) × Value × Int) => [(0, .int .i64 n1), (3, x.2.1), (4, .int .i64 x.2.2)]) (fun (x : (List UInt8) × Value × Int) => [row x.2.1 5 fByte x.1]) ?_ N ([], v2, n1) hm
    · rintro N ⟨l7, v8, k9⟩ hI
      have hm := hI; clear hI
      cases N with
      | zero => cases hm
      | succ N =>
      unfold s_l01Dec_l1 at hm
      refine WJ.seq ?_
      refine WJ.seq ?_
      refine WJ.quiet ?_
      refine QJ.step (YldS.yld (y_move rfl)) rfl ?_
      refine QJ.step (YldS.yld (y_bin rfl rfl rfl)) rfl ?_
      refine QJ.done ?_
      refine PJ.next ?_
      refine WJ.cond (t := (k9 != 0)) rfl (fun hb10 => ?_) (fun hb10 => ?_)
      · replace hm := ifT hm hb10
        refine WJ.skip ?_
        refine PJ.next ?_
        refine WJ.seq ?_
        refine WJ.block ?_
        refine WJ.seq ?_
        refine WJ.quiet ?_
        refine QJ.step (YldS.yld (y_move rfl)) rfl ?_
        refine QJ.step (YldS.yld (y_rem rfl rfl (by decide))) rfl ?_
        refine QJ.step (YldS.yld (y_assign rfl)) rfl ?_
        refine QJ.done ?_
        refine PJ.next ?_
        obtain ⟨kj12, hk13, hm⟩ := withK_open hm
        refine WJ.join (X := Int) (fun (x : Int) => kj12 x = some r) (fun (x : Int) => [(0, .int .i64 n1), (3, v8), (4, .int .i64 k9), (5, .int .i64 x)]) (fun (x : Int) => [row v8 5 fByte l7]) ?_ ?_
        · clear hk13
          refine WJ.seq ?_
          refine WJ.quiet ?_
          refine QJ.step (YldS.yld (y_move rfl)) rfl ?_
          refine QJ.step (YldS.yld (y_bin rfl rfl rfl)) rfl ?_
          refine QJ.done ?_
          refine PJ.next ?_
          refine WJ.cond (t := decide ((Int.tmod k9 10) < 0)) rfl (fun hb14 => ?_) (fun hb14 => ?_)
          · replace hm := ifT hm hb14
            refine WJ.quiet ?_
            refine QJ.step (YldS.yld (y_move rfl)) rfl ?_
            refine QJ.step (YldS.yld (y_neg rfl)) rfl ?_
            refine QJ.step (YldS.yld (y_assign rfl)) rfl ?_
            refine QJ.done ?_
            exact PJ.joined (w64 (0 - (Int.tmod k9 10))) [0] hm ⟨rfl, rfl, rfl, rfl, trivial⟩ ⟨by decide, rfl⟩
          · replace hm := ifF hm hb14
            refine WJ.skip ?_
            exact PJ.joined (Int.tmod k9 10) [0] hm ⟨rfl, rfl, rfl, rfl, trivial⟩ ⟨by decide, rfl⟩
        · rintro d11 hm
          subst hk13
          refine WJ.reg ?_
          refine SJ.q (YldS.yld (y_move rfl)) rfl ?_
          refine SJ.q (YldS.yld (y_bin rfl rfl rfl)) rfl ?_
          refine SJ.q (YldS.yld (y_convTo8 Tryd.runUnderlying2 Tryd.runUnderlying5 rfl)) rfl ?_
          refine SJ.buildSlice (R := fByte) (os := [.tmp 20]) [UInt8.ofInt (w64 (48 + d11))] Tryd.runUnderlying22 Tryd.sizeOf5 Tryd.zeroValue5 rfl rfl rfl rfl rfl rfl fun v15 => ?_
          refine SJ.q (YldS.yld (y_move rfl)) rfl ?_
          obtain ⟨l16, h17, hm⟩ := bindS hm
          refine SJ.append (k := 0) (R := fByte) h17 rfl Tryd.underlying22 el5 rfl rfl rfl (fun w hw => (hw.row_rd (k := 1) rfl)) rfl fun v18 => ?_
          refine SJ.q (YldS.yld (y_assign rfl)) rfl ?_
          refine SJ.nil ?_
          refine PJ.block_normal (PJ.next ?_)
          refine WJ.quiet ?_
          refine QJ.step (YldS.yld (y_move rfl)) rfl ?_
          refine QJ.step (YldS.yld (y_quo rfl rfl (by decide))) rfl ?_
          refine QJ.step (YldS.yld (y_assign rfl)) rfl ?_
          refine QJ.done ?_
          exact PJ.round (l16, v18, w64 (Int.tdiv k9 10)) [0] hm ⟨rfl, rfl, rfl, trivial⟩ ⟨by decide, rfl⟩
      · replace hm := ifF hm hb10
        refine WJ.exit ?_
        refine PJ.then_exit (PJ.then_exit (PJ.block_exit ?_))
        exact PJ.joined (l7, v8) [0] hm ⟨rfl, rfl, trivial⟩ ⟨by decide, rfl⟩
  · rintro ⟨l3, v4⟩ hm
    subst hk6
    refine WJ.seq ?_
    refine WJ.seq ?_
    refine WJ.quiet ?_
    refine QJ.step (YldS.yld (y_move rfl)) rfl ?_
    refine QJ.step (YldS.yld (y_lenRow (k := 0) rfl Tryd.runUnderlying22 rfl)) rfl ?_
    refine QJ.step (YldS.yld (y_bin rfl rfl rfl)) rfl ?_
    refine QJ.done ?_
    refine PJ.next ?_
    refine WJ.cond (t := ((List.length l3 : Int) == 0)) rfl (fun hb19 => ?_) (fun hb19 => ?_)
    · replace hm := ifT hm hb19
      refine WJ.seq ?_
      refine WJ.quiet ?_
      refine QJ.step (YldS.yld (y_assign rfl)) rfl ?_
      refine QJ.done ?_
      refine PJ.next ?_
      refine WJ.ret ?_
      refine PJ.then_ret ?_
      obtain rfl := Option.some.inj hm
      refine PJ.sel (L' := []) [] ⟨List.nodup_nil, rfl⟩ ?_
      exact PJ.retn (vs := [str [48]]) Tryd.results74 ⟨rfl, trivial⟩ ⟨rfl, rfl⟩
    · replace hm := ifF hm hb19
      refine WJ.skip ?_
      refine PJ.next ?_
      refine WJ.seq ?_
      refine WJ.seq ?_
      refine WJ.quiet ?_
      refine QJ.step (YldS.yld (y_move rfl)) rfl ?_
      refine QJ.step (YldS.yld (y_bin rfl rfl rfl)) rfl ?_
      refine QJ.done ?_
      refine PJ.next ?_
      refine WJ.cond (t := decide (n1 < 0)) rfl (fun hb20 => ?_) (fun hb20 => ?_)
      · replace hm := ifT hm hb20
        refine WJ.seq ?_
        refine WJ.quiet ?_
        refine QJ.step (YldS.yld (y_move rfl)) rfl ?_
        refine QJ.step (YldS.yld (y_b2s Tryd.underlying22 Tryd.underlying9 Tryd.underlying5 (fun w hw => ⟨_, (hw.row_rd (k := 0) rfl)⟩) rfl)) rfl ?_
        obtain ⟨s21, h22, hm⟩ := bindS hm
        refine QJ.step (YldS.yld (y_cat h22 rfl rfl)) rfl ?_
        refine QJ.step (YldS.yld (y_assign rfl)) rfl ?_
        refine QJ.done ?_
        refine PJ.next ?_
        refine WJ.ret ?_
        refine PJ.then_ret ?_
        obtain rfl := Option.some.inj hm
        refine PJ.sel (L' := []) [] ⟨List.nodup_nil, rfl⟩ ?_
        exact PJ.retn (vs := [str s21]) Tryd.results74 ⟨rfl, trivial⟩ ⟨rfl, rfl⟩
      · replace hm := ifF hm hb20
        refine WJ.skip ?_
        refine PJ.next ?_
        refine WJ.seq ?_
        refine WJ.quiet ?_
        refine QJ.step (YldS.yld (y_move rfl)) rfl ?_
        refine QJ.step (YldS.yld (y_b2s Tryd.underlying22 Tryd.underlying9 Tryd.underlying5 (fun w hw => ⟨_, (hw.row_rd (k := 0) rfl)⟩) rfl)) rfl ?_
        refine QJ.step (YldS.yld (y_assign rfl)) rfl ?_
        refine QJ.done ?_
        refine PJ.next ?_
        refine WJ.ret ?_
        obtain rfl := Option.some.inj hm
        refine PJ.sel (L' := []) [] ⟨List.nodup_nil, rfl⟩ ?_
        exact PJ.retn (vs := [str l3]) Tryd.results74 ⟨rfl, trivial⟩ ⟨rfl, rfl⟩

set_option maxRecDepth 100000 in
set_option maxHeartbeats 1000000 in
theorem ok_s_LessonText {N : Nat} {list1 : List Lesson} {k4 : Int} {r : Str} (hm : s_LessonText N list1 k4 = some r) (w : World) (v2 : Value) (hr3 : RdS w (cx w).Fz v2 (shLesson.rp fI64.rp) list1) :
    Calls Tryd.prog 24 #[v2, .int .i64 k4] w (Ret (cx w) (str r)) := by
  unfold s_LessonText at hm
  refine Calls.enter [v2, .int .i64 k4] Tryd.func24 rfl Tryd.ntmps24 rfl ?_
  refine WJ.seq ?_
  refine WJ.quiet ?_
  refine QJ.step (YldS.yld (y_assign rfl)) rfl ?_
  refine QJ.done ?_
  refine PJ.next ?_
  refine WJ.seq ?_
  refine WJ.seq ?_
  refine WJ.quiet ?_
  refine QJ.step (YldS.yld (y_move rfl)) rfl ?_
  obtain ⟨r5, h6, hm⟩ := bindS hm
  refine QJ.step (y_call Tryd.call52 rfl (RetG.quiet fun w hw => ok_s_l18Ok h6 w _ (hr3.st hw))) rfl ?_
  refine QJ.step (YldS.yld (y_not rfl)) rfl ?_
  refine QJ.step (YldS.yld (y_move rfl)) rfl ?_
  obtain ⟨t7, h8, hm⟩ := bindS hm
  refine QJ.cut 7 [(0, v2), (1, .int .i64 k4), (18, .bool t7)] ?_ ?_
  · rcases Bool.eq_false_or_eq_true (!r5) with hb9 | hb9
    · obtain rfl := orT h8 hb9
      refine QJ.off rfl rfl (cB hb9) rfl rfl ?_
      refine QJ.off rfl rfl (cB hb9) rfl rfl ?_
      refine QJ.off rfl rfl (cB hb9) rfl rfl ?_
      refine QJ.off rfl rfl (cB hb9) rfl rfl ?_
      refine QJ.off rfl rfl (cB hb9) rfl rfl ?_
      refine QJ.off rfl rfl (cB hb9) rfl rfl ?_
      refine QJ.step (YldS.yld (y_pick_t (cB hb9) rfl)) rfl ?_
      exact QJ.cut_end ⟨rfl, rfl, rfl, trivial⟩
    · replace h8 := orF h8 hb9
      refine QJ.on rfl rfl (cB hb9) (YldS.yld (y_move rfl)) rfl ?_
      refine QJ.on rfl rfl (cB hb9) (YldS.yld (y_move rfl)) rfl ?_
      refine QJ.on rfl rfl (cB hb9) (YldS.yld (y_lenS Tryd.runUnderlying24 hr3 rfl)) rfl ?_
      refine QJ.on rfl rfl (cB hb9) (YldS.yld (y_bin rfl rfl rfl)) rfl ?_
      obtain ⟨r10, h11, h8⟩ := bindS h8
      refine QJ.on rfl rfl (cB hb9) (y_call Tryd.call73 rfl (RetG.quiet fun w hw => ok_s_l00In h11 w )) rfl ?_
      refine QJ.on rfl rfl (cB hb9) (YldS.yld (y_not rfl)) rfl ?_
      refine QJ.step (YldS.yld (y_pick_f (cB hb9) rfl)) rfl ?_
      obtain rfl := Option.some.inj h8
      exact QJ.cut_end ⟨rfl, rfl, rfl, trivial⟩
  refine QJ.done ?_
  refine PJ.next ?_
  refine WJ.cond (t := t7) rfl (fun hb12 => ?_) (fun hb12 => ?_)
  · replace hm := ifT hm hb12
    refine WJ.seq ?_
    refine WJ.quiet ?_
    refine QJ.step (YldS.yld (y_assign rfl)) rfl ?_
    refine QJ.done ?_
    refine PJ.next ?_
    refine WJ.ret ?_
    refine PJ.then_ret ?_
    obtain rfl := Option.some.inj hm
    refine PJ.sel (L' := []) [] ⟨List.nodup_nil, rfl⟩ ?_
    exact PJ.retn (vs := [str []]) Tryd.results24 ⟨rfl, trivial⟩ ⟨rfl, rfl⟩
  · replace hm := ifF hm hb12
    refine WJ.skip ?_
    refine PJ.next ?_
    refine WJ.seq ?_
    refine WJ.quiet ?_
    refine QJ.step (YldS.yld (y_move rfl)) rfl ?_
    refine QJ.step (YldS.yld (y_move rfl)) rfl ?_
    obtain ⟨e13, h14, hm⟩ := bindS hm
    obtain ⟨ad15, _, ⟨v18, rfl, hr19⟩, ha16, hy17⟩ := hr3.elem h14
    refine QJ.step (YldS.yld (hy17 Tryd.runUnderlying24 Tryd.sizeOf47 rfl rfl)) rfl ?_
    refine QJ.step (YldS.yld (y_assign rfl)) rfl ?_
    refine QJ.done ?_
    refine PJ.next ?_
    refine WJ.seq ?_
    refine WJ.quiet_draw follows (by kernel_rfl) ?_
    refine QJ.step (YldS.yld (y_move rfl)) rfl ?_
    refine QJ.step (YldS.yld (y_nil rfl)) rfl ?_
    refine QJ.step (YldS.yld (y_fld (ad := ad15) fld47_0 rfl)) rfl ?_
    refine QJ.step (YldS.yld (y_load1 (v := str e13.name) Tryd.isAgg9 (ha16.sub 0 1) St.frozenC rfl)) rfl ?_
    obtain ⟨s20, h21, hm⟩ := bindS hm
    refine QJ.step (YldS.yld (y_cat h21 rfl rfl)) rfl ?_
    refine QJ.step (YldS.yld (y_move rfl)) rfl ?_
    refine QJ.step (YldS.yld (y_nil rfl)) rfl ?_
    refine QJ.step (YldS.yld (y_fld (ad := ad15) fld47_3 rfl)) rfl ?_
    refine QJ.step (YldS.yld (y_load1 (v := .int .i64 e13.hours) Tryd.isAgg2 (ha16.sub 3 1) St.frozenC rfl)) rfl ?_
    obtain ⟨r22, h23, hm⟩ := bindS hm
    refine QJ.step (y_call Tryd.call74 rfl (RetG.quiet fun w hw => ok_s_l01Dec h23 w )) rfl ?_
    obtain ⟨s24, h25, hm⟩ := bindS hm
    refine QJ.step (YldS.yld (y_cat h25 rfl rfl)) rfl ?_
    obtain ⟨s26, h27, hm⟩ := bindS hm
    refine QJ.step (YldS.yld (y_cat h27 rfl rfl)) rfl ?_
    refine QJ.step (YldS.yld (y_move rfl)) rfl ?_
    refine QJ.step (YldS.yld (y_nil rfl)) rfl ?_
    refine QJ.step (YldS.yld (y_fld (ad := ad15) fld47_1 rfl)) rfl ?_
    refine QJ.step (YldS.yld (y_load1 (v := str e13.letters) Tryd.isAgg9 (ha16.sub 1 1) St.frozenC rfl)) rfl ?_
    obtain ⟨s28, h29, hm⟩ := bindS hm
    refine QJ.step (YldS.yld (y_cat h29 rfl rfl)) rfl ?_
    obtain ⟨s30, h31, hm⟩ := bindS hm
    refine QJ.step (YldS.yld (y_cat h31 rfl rfl)) rfl ?_
    refine QJ.step (YldS.yld (y_assign rfl)) rfl ?_
    refine QJ.done ?_
    refine PJ.next ?_
    obtain ⟨kj33, hk34, hm⟩ := withK_open hm
    refine WJ.join (X := Str) (fun (x : Str) => kj33 x = some r) (fun (x : Str) => [(6, str x)]) (fun (x : Str) => []) ?_ ?_
    · clear hk34
      refine WJ.seq ?_
      refine WJ.quiet ?_
      refine QJ.step (YldS.yld (y_assign rfl)) rfl ?_
      refine QJ.done ?_
      refine PJ.next ?_
      refine WJ.block ?_
      refine WJ.sel (L' := (fun (x : Str × Int) => []) (s30, 0)) [] ⟨List.nodup_nil, rfl⟩ ?_
      refine WJ.sub (m' := (fun (x : Str × Int) => [(0, v2), (5, .pointer (some ad15)), (6, str x.1), (7, .int .i64 x.2)]) (s30, 0)) ⟨rfl, rfl, rfl, rfl, trivial⟩ ?_
      refine WJ.loop (X := Str × Int) (fun N (x : Str × Int) => s_LessonText_l1 kj33 list1 e13 N x.1 x.2 = some r) (fun (x : Str × Int) => [(0, v2), (5, .pointer (some ad15)), (6, str x.1), (7, .int .i64 x.2)]) (fun (x : Str × Int) => []) ?_ N (s30, 0) hm
      · rintro N ⟨out35, i36⟩ hI
        have hm := hI; clear hI
        cases N with
        | zero => cases hm
        | succ N =>
        unfold s_LessonText_l1 at hm
        refine WJ.seq ?_
        refine WJ.seq ?_
        refine WJ.quiet ?_
        refine QJ.step (YldS.yld (y_move rfl)) rfl ?_
        refine QJ.step (YldS.yld (y_move rfl)) rfl ?_
        refine QJ.step (YldS.yld (y_nil rfl)) rfl ?_
        refine QJ.step (YldS.yld (y_fld (ad := ad15) fld47_2 rfl)) rfl ?_
        refine QJ.step (YldS.yld (y_load1 (v := v18) Tryd.isAgg26 (ha16.sub 2 1) St.frozenC rfl)) rfl ?_
        refine QJ.step (YldS.yld (y_lenS Tryd.runUnderlying26 hr19 rfl)) rfl ?_
        refine QJ.step (YldS.yld (y_bin rfl rfl rfl)) rfl ?_
        refine QJ.done ?_
        refine PJ.next ?_
        refine WJ.cond (t := decide (i36 < (List.length e13.needs : Int))) rfl (fun hb37 => ?_) (fun hb37 => ?_)
        · replace hm := ifT hm hb37
          refine WJ.skip ?_
          refine PJ.next ?_
          refine WJ.seq ?_
          refine WJ.block ?_
          obtain ⟨kj39, hk40, hm⟩ := withK_open hm
          refine WJ.join (X := Str) (fun (x : Str) => kj39 x = some r) (fun (x : Str) => [(0, v2), (5, .pointer (some ad15)), (6, str x), (7, .int .i64 i36)]) (fun (x : Str) => []) ?_ ?_
          · clear hk40
            refine WJ.seq ?_
            refine WJ.quiet ?_
            refine QJ.step (YldS.yld (y_move rfl)) rfl ?_
            refine QJ.step (YldS.yld (y_bin rfl rfl rfl)) rfl ?_
            refine QJ.done ?_
            refine PJ.next ?_
            refine WJ.cond (t := (i36 == 0)) rfl (fun hb41 => ?_) (fun hb41 => ?_)
            · replace hm := ifT hm hb41
              refine WJ.quiet ?_
              refine QJ.step (YldS.yld (y_move rfl)) rfl ?_
              obtain ⟨s42, h43, hm⟩ := bindS hm
              refine QJ.step (YldS.yld (y_cat h43 rfl rfl)) rfl ?_
              refine QJ.step (YldS.yld (y_assign rfl)) rfl ?_
              refine QJ.done ?_
              exact PJ.joined s42 [] hm ⟨rfl, rfl, rfl, rfl, trivial⟩ ⟨List.nodup_nil, rfl⟩
            · replace hm := ifF hm hb41
              refine WJ.quiet ?_
              refine QJ.step (YldS.yld (y_move rfl)) rfl ?_
              obtain ⟨s44, h45, hm⟩ := bindS hm
              refine QJ.step (YldS.yld (y_cat h45 rfl rfl)) rfl ?_
              refine QJ.step (YldS.yld (y_assign rfl)) rfl ?_
              refine QJ.done ?_
              exact PJ.joined s44 [] hm ⟨rfl, rfl, rfl, rfl, trivial⟩ ⟨List.nodup_nil, rfl⟩
          · rintro out38 hm
            subst hk40
            refine WJ.quiet ?_
            refine QJ.step (YldS.yld (y_move rfl)) rfl ?_
            refine QJ.step (YldS.yld (y_move rfl)) rfl ?_
            refine QJ.step (YldS.yld (y_move rfl)) rfl ?_
            refine QJ.step (YldS.yld (y_nil rfl)) rfl ?_
            refine QJ.step (YldS.yld (y_fld (ad := ad15) fld47_2 rfl)) rfl ?_
            refine QJ.step (YldS.yld (y_load1 (v := v18) Tryd.isAgg26 (ha16.sub 2 1) St.frozenC rfl)) rfl ?_
            refine QJ.step (YldS.yld (y_move rfl)) rfl ?_
            obtain ⟨e46, h47, hm⟩ := bindS hm
            obtain ⟨ad48, _, rfl, ha49, hy50⟩ := hr19.elem h47
            refine QJ.step (YldS.yld (hy50 Tryd.runUnderlying26 Tryd.sizeOf2 rfl rfl)) rfl ?_
            refine QJ.step (YldS.yld (y_load1 (v := .int .i64 e46) Tryd.isAgg2 ha49 St.frozenC rfl)) rfl ?_
            obtain ⟨e51, h52, hm⟩ := bindS hm
            obtain ⟨ad53, _, ⟨v56, rfl, hr57⟩, ha54, hy55⟩ := hr3.elem h52
            refine QJ.step (YldS.yld (hy55 Tryd.runUnderlying24 Tryd.sizeOf47 rfl rfl)) rfl ?_
            refine QJ.step (YldS.yld (y_fld (ad := ad53) fld47_0 rfl)) rfl ?_
            refine QJ.step (YldS.yld (y_load1 (v := str e51.name) Tryd.isAgg9 (ha54.sub 0 1) St.frozenC rfl)) rfl ?_
            obtain ⟨s58, h59, hm⟩ := bindS hm
            refine QJ.step (YldS.yld (y_cat h59 rfl rfl)) rfl ?_
            refine QJ.step (YldS.yld (y_assign rfl)) rfl ?_
            refine QJ.done ?_
            refine PJ.block_normal (PJ.next ?_)
            refine WJ.quiet ?_
            refine QJ.step (YldS.yld (y_move rfl)) rfl ?_
            refine QJ.step (YldS.yld (y_bin rfl rfl rfl)) rfl ?_
            refine QJ.step (YldS.yld (y_assign rfl)) rfl ?_
            refine QJ.done ?_
            exact PJ.round (s58, w64 (i36 + 1)) [] hm ⟨rfl, rfl, rfl, rfl, trivial⟩ ⟨List.nodup_nil, rfl⟩
        · replace hm := ifF hm hb37
          refine WJ.exit ?_
          refine PJ.then_exit (PJ.then_exit (PJ.block_exit ?_))
          exact PJ.joined out35 [] hm ⟨rfl, trivial⟩ ⟨List.nodup_nil, rfl⟩
    · rintro out32 hm
      subst hk34
      refine WJ.seq ?_
      refine WJ.quiet ?_
      refine QJ.step (YldS.yld (y_move rfl)) rfl ?_
      refine QJ.step (YldS.yld (y_assign rfl)) rfl ?_
      refine QJ.done ?_
      refine PJ.next ?_
      refine WJ.ret ?_
      obtain rfl := Option.some.inj hm
      refine PJ.sel (L' := []) [] ⟨List.nodup_nil, rfl⟩ ?_
      exact PJ.retn (vs := [str out32]) Tryd.results24 ⟨rfl, trivial⟩ ⟨rfl, rfl⟩

set_option maxRecDepth 100000 in
set_option maxHeartbeats 1000000 in
theorem ok_s_ValidLessons {N : Nat} {list1 : List Lesson} {r : Bool} (hm : s_ValidLessons N list1 = some r) (w : World) (v2 : Value) (hr3 : RdS w (cx w).Fz v2 (shLesson.rp fI64.rp) list1) :
    Calls Tryd.prog 26 #[v2] w (Ret (cx w) (.bool r)) := by
  unfold s_ValidLessons at hm
  refine Calls.enter [v2] Tryd.func26 rfl Tryd.ntmps26 rfl ?_
  refine WJ.seq ?_
  refine WJ.quiet ?_
  refine QJ.step (YldS.yld (y_assign rfl)) rfl ?_
  refine QJ.done ?_
  refine PJ.next ?_
  refine WJ.seq ?_
  refine WJ.quiet ?_
  refine QJ.step (YldS.yld (y_move rfl)) rfl ?_
  obtain ⟨r4, h5, hm⟩ := bindS hm
  refine QJ.step (y_call Tryd.call52 rfl (RetG.quiet fun w hw => ok_s_l18Ok h5 w _ (hr3.st hw))) rfl ?_
  refine QJ.step (YldS.yld (y_assign rfl)) rfl ?_
  refine QJ.done ?_
  refine PJ.next ?_
  refine WJ.ret ?_
  obtain rfl := Option.some.inj hm
  refine PJ.sel (L' := []) [] ⟨List.nodup_nil, rfl⟩ ?_
  exact PJ.retn (vs := [.bool r4]) Tryd.results26 ⟨rfl, trivial⟩ ⟨rfl, rfl⟩

set_option maxRecDepth 100000 in
set_option maxHeartbeats 1000000 in
theorem ok_w_f6has {N : Nat} {list1 : List Int} {n4 : Int} {r : Bool} (hm : w_f6has N list1 n4 = some r) (w : World) (v2 : Value) (hr3 : RdS w (cx w).Fz v2 fI64.rp list1) :
    Calls Tryd.prog 27 #[v2, .int .i64 n4] w (Ret (cx w) (.bool r)) := by
  unfold w_f6has at hm
  refine Calls.enter [v2, .int .i64 n4] Tryd.func27 rfl Tryd.ntmps27 rfl ?_
  refine WJ.seq ?_
  refine WJ.quiet ?_
  refine QJ.step (YldS.yld (y_assign rfl)) rfl ?_
  refine QJ.done ?_
  refine PJ.next ?_
  obtain ⟨kj5, hk6, hm⟩ := withK_open hm
  refine WJ.join (X := Unit) (fun (_ : Unit) => kj5  = some r) (fun (_ : Unit) => []) (fun (_ : Unit) => []) ?_ ?_
  · clear hk6
    refine WJ.seq ?_
    refine WJ.quiet ?_
    refine QJ.step (YldS.yld (y_assign rfl)) rfl ?_
    refine QJ.done ?_
    refine PJ.next ?_
    refine WJ.block ?_
    refine WJ.sel (L' := (fun (x : Int) => []) 0) [] ⟨List.nodup_nil, rfl⟩ ?_
    refine WJ.sub (m' := (fun (x : Int) => [(0, v2), (1, .int .i64 n4), (5, .int .i64 x)]) 0) ⟨rfl, rfl, rfl, trivial⟩ ?_
    refine WJ.loop (X := Int) (fun N (x : Int) => w_f6has_l1 kj5 list1 n4 N x = some r) (fun (x : Int) => [(0, v2), (1, .int .i64 n4), (5, .int .i64 x)]) (fun (x : Int) => []) ?_ N 0 hm
    · rintro N i7 hI
      have hm := hI; clear hI
      cases N with
      | zero => cases hm
      | succ N =>
      unfold w_f6has_l1 at hm
      refine WJ.seq ?_
      refine WJ.seq ?_
      refine WJ.quiet ?_
      refine QJ.step (YldS.yld (y_move rfl)) rfl ?_
      refine QJ.step (YldS.yld (y_move rfl)) rfl ?_
      refine QJ.step (YldS.yld (y_lenS Tryd.runUnderlying26 hr3 rfl)) rfl ?_
      refine QJ.step (YldS.yld (y_bin rfl rfl rfl)) rfl ?_
      refine QJ.done ?_
      refine PJ.next ?_
      refine WJ.cond (t := decide (i7 < (List.length list1 : Int))) rfl (fun hb8 => ?_) (fun hb8 => ?_)
      · replace hm := ifT hm hb8
        refine WJ.skip ?_
        refine PJ.next ?_
        refine WJ.seq ?_
        refine WJ.block ?_
        refine WJ.seq ?_
        refine WJ.quiet ?_
        refine QJ.step (YldS.yld (y_move rfl)) rfl ?_
        refine QJ.step (YldS.yld (y_move rfl)) rfl ?_
        obtain ⟨e9, h10, hm⟩ := bindS hm
        obtain ⟨ad11, _, rfl, ha12, hy13⟩ := hr3.elem h10
        refine QJ.step (YldS.yld (hy13 Tryd.runUnderlying26 Tryd.sizeOf2 rfl rfl)) rfl ?_
        refine QJ.step (YldS.yld (y_load1 (v := .int .i64 e9) Tryd.isAgg2 ha12 St.frozenC rfl)) rfl ?_
        refine QJ.step (YldS.yld (y_move rfl)) rfl ?_
        refine QJ.step (YldS.yld (y_bin rfl rfl rfl)) rfl ?_
        refine QJ.done ?_
        refine PJ.next ?_
        refine WJ.cond (t := (e9 == n4)) rfl (fun hb14 => ?_) (fun hb14 => ?_)
        · replace hm := ifT hm hb14
          refine WJ.seq ?_
          refine WJ.quiet ?_
          refine QJ.step (YldS.yld (y_assign rfl)) rfl ?_
          refine QJ.done ?_
          refine PJ.next ?_
          refine WJ.ret ?_
          refine PJ.block_ret (PJ.then_ret (PJ.then_ret (PJ.block_ret (PJ.then_ret ?_))))
          obtain rfl := Option.some.inj hm
          refine PJ.sel (L' := []) [] ⟨List.nodup_nil, rfl⟩ ?_
          exact PJ.retn (vs := [.bool true]) Tryd.results27 ⟨rfl, trivial⟩ ⟨rfl, rfl⟩
        · replace hm := ifF hm hb14
          refine WJ.skip ?_
          refine PJ.block_normal (PJ.next ?_)
          refine WJ.quiet ?_
          refine QJ.step (YldS.yld (y_move rfl)) rfl ?_
          refine QJ.step (YldS.yld (y_bin rfl rfl rfl)) rfl ?_
          refine QJ.step (YldS.yld (y_assign rfl)) rfl ?_
          refine QJ.done ?_
          exact PJ.round (w64 (i7 + 1)) [] hm ⟨rfl, rfl, rfl, trivial⟩ ⟨List.nodup_nil, rfl⟩
      · replace hm := ifF hm hb8
        refine WJ.exit ?_
        refine PJ.then_exit (PJ.then_exit (PJ.block_exit ?_))
        exact PJ.joined () [] hm trivial ⟨List.nodup_nil, rfl⟩
  · rintro _ hm
    subst hk6
    refine WJ.seq ?_
    refine WJ.quiet ?_
    refine QJ.step (YldS.yld (y_assign rfl)) rfl ?_
    refine QJ.done ?_
    refine PJ.next ?_
    refine WJ.ret ?_
    obtain rfl := Option.some.inj hm
    refine PJ.sel (L' := []) [] ⟨List.nodup_nil, rfl⟩ ?_
    exact PJ.retn (vs := [.bool false]) Tryd.results27 ⟨rfl, trivial⟩ ⟨rfl, rfl⟩

set_option maxRecDepth 100000 in
set_option maxHeartbeats 1000000 in
theorem ok_w_FnLessonOrders {N : Nat} {code1 : List UInt8} {r : Bool} (hm : w_FnLessonOrders N code1 = some r) (w : World) (hT : Tab Tryd.prog tabNm w (cx w).Fz) (v2 : Value) (hr3 : RdS w (cx w).Fz v2 fByte.rp code1) :
    Calls Tryd.prog 3 #[v2] w (Ret (cx w) (.bool r)) := by
  unfold w_FnLessonOrders at hm
  refine Calls.enter [v2] Tryd.func3 rfl Tryd.ntmps3 rfl ?_
  refine WJ.seq ?_
  refine WJ.quiet ?_
  refine QJ.step (YldS.yld (y_assign rfl)) rfl ?_
  refine QJ.done ?_
  refine PJ.next ?_
  refine WJ.seq ?_
  refine WJ.seq ?_
  refine WJ.quiet ?_
  refine QJ.step (YldS.yld (y_move rfl)) rfl ?_
  obtain ⟨r4, h5, hm⟩ := bindS hm
  refine QJ.step (y_call Tryd.call5 rfl (RetG.quiet fun w hw => ok_w_f6big h5 w _ (hr3.st hw))) rfl ?_
  refine QJ.done ?_
  refine PJ.next ?_
  refine WJ.cond (t := r4) rfl (fun hb6 => ?_) (fun hb6 => ?_)
  · replace hm := ifT hm hb6
    refine WJ.seq ?_
    refine WJ.quiet ?_
    refine QJ.step (YldS.yld (y_assign rfl)) rfl ?_
    refine QJ.done ?_
    refine PJ.next ?_
    refine WJ.ret ?_
    refine PJ.then_ret ?_
    obtain rfl := Option.some.inj hm
    refine PJ.sel (L' := []) [] ⟨List.nodup_nil, rfl⟩ ?_
    exact PJ.retn (vs := [.bool true]) Tryd.results3 ⟨rfl, trivial⟩ ⟨rfl, rfl⟩
  · replace hm := ifF hm hb6
    refine WJ.skip ?_
    refine PJ.next ?_
    refine WJ.seq ?_
    refine WJ.reg ?_
    refine SJ.q (YldS.yld (y_move rfl)) rfl ?_
    obtain ⟨r7, h8, hm⟩ := bindS hm
    refine SJ.call Tryd.call6 rfl (fun w hw => ok_s_DrawLessonOrder h8 w _ (hr3.st hw)) rfl ?_
    rintro v9 _ ⟨_, vs10, rfl, rfl⟩
    refine SJ.q (YldS.yld (y_assign rfl)) rfl ?_
    refine SJ.nil ?_
    refine PJ.next ?_
    refine WJ.seq ?_
    refine WJ.reg ?_
    refine SJ.q (YldS.yld (y_move rfl)) rfl ?_
    obtain ⟨r11, h12, hm⟩ := bindS hm
    refine SJ.call Tryd.call7 rfl (fun w hw => ok_i_LessonOrder h12 w _ (hw.nss_rd (k := 0) (j := 1) rfl rfl)) rfl ?_
    rintro _ _ ⟨v13, rfl, rfl⟩
    refine SJ.q (YldS.yld (y_move rfl)) rfl ?_
    refine SJ.q (YldS.yld (y_extract rfl rfl)) rfl ?_
    refine SJ.q (YldS.yld (y_extract rfl rfl)) rfl ?_
    refine SJ.q (YldS.yld (y_assign rfl)) rfl ?_
    refine SJ.q (YldS.yld (y_assign rfl)) rfl ?_
    refine SJ.nil ?_
    refine PJ.next ?_
    refine WJ.seq ?_
    refine WJ.reg ?_
    refine SJ.q (YldS.yld (y_move rfl)) rfl ?_
    obtain ⟨r14, h15, hm⟩ := bindS hm
    refine SJ.call Tryd.call8 rfl (fun w hw => ok_s_LessonOrder h15 w _ (hw.nss_rd (k := 1) (j := 2) rfl rfl)) rfl ?_
    rintro _ _ ⟨v16, rfl, rfl⟩
    refine SJ.q (YldS.yld (y_move rfl)) rfl ?_
    refine SJ.q (YldS.yld (y_extract rfl rfl)) rfl ?_
    refine SJ.q (YldS.yld (y_extract rfl rfl)) rfl ?_
    refine SJ.q (YldS.yld (y_assign rfl)) rfl ?_
    refine SJ.q (YldS.yld (y_assign rfl)) rfl ?_
    refine SJ.nil ?_
    refine PJ.next ?_
    refine WJ.seq ?_
    refine WJ.quiet ?_
    refine QJ.step (YldS.yld (y_move rfl)) rfl ?_
    obtain ⟨r17, h18, hm⟩ := bindS hm
    refine QJ.step (y_call Tryd.call9 rfl (RetG.quiet fun w hw => ok_i_LessonCircle h18 w _ (hw.nss_rd (k := 2) (j := 3) rfl rfl))) rfl ?_
    refine QJ.step (YldS.yld (y_move rfl)) rfl ?_
    refine QJ.step (YldS.yld (y_extract rfl rfl)) rfl ?_
    refine QJ.step (YldS.yld (y_extract rfl rfl)) rfl ?_
    refine QJ.step (YldS.yld (y_assign rfl)) rfl ?_
    refine QJ.step (YldS.yld (y_assign rfl)) rfl ?_
    refine QJ.done ?_
    refine PJ.next ?_
    refine WJ.seq ?_
    refine WJ.quiet ?_
    refine QJ.step (YldS.yld (y_move rfl)) rfl ?_
    obtain ⟨r19, h20, hm⟩ := bindS hm
    refine QJ.step (y_call Tryd.call10 rfl (RetG.quiet fun w hw => ok_s_LessonCircle h20 w _ (hw.nss_rd (k := 2) (j := 3) rfl rfl))) rfl ?_
    refine QJ.step (YldS.yld (y_move rfl)) rfl ?_
    refine QJ.step (YldS.yld (y_extract rfl rfl)) rfl ?_
    refine QJ.step (YldS.yld (y_extract rfl rfl)) rfl ?_
    refine QJ.step (YldS.yld (y_assign rfl)) rfl ?_
    refine QJ.step (YldS.yld (y_assign rfl)) rfl ?_
    refine QJ.done ?_
    refine PJ.next ?_
    refine WJ.seq ?_
    refine WJ.reg ?_
    refine SJ.q (YldS.yld (y_move rfl)) rfl ?_
    obtain ⟨r21, h22, hm⟩ := bindS hm
    refine SJ.call Tryd.call11 rfl (fun w hw => ok_s_DrawNextLessons h22 w _ (hr3.st hw)) rfl ?_
    rintro _ _ ⟨v23, vs24, v25, rfl, rfl⟩
    refine SJ.q (YldS.yld (y_move rfl)) rfl ?_
    refine SJ.q (YldS.yld (y_extract rfl rfl)) rfl ?_
    refine SJ.q (YldS.yld (y_extract rfl rfl)) rfl ?_
    refine SJ.q (YldS.yld (y_assign rfl)) rfl ?_
    refine SJ.q (YldS.yld (y_assign rfl)) rfl ?_
    refine SJ.nil ?_
    refine PJ.next ?_
    refine WJ.seq ?_
    refine WJ.reg ?_
    refine SJ.q (YldS.yld (y_move rfl)) rfl ?_
    refine SJ.q (YldS.yld (y_move rfl)) rfl ?_
    obtain ⟨r26, h27, hm⟩ := bindS hm
    refine SJ.call Tryd.call12 rfl (fun w hw => ok_i_NextLessons h27 w _ (hw.nss_rd (k := 0) (j := 1) rfl rfl) _ (hw.row_rd (k := 2) rfl)) rfl ?_
    rintro _ _ ⟨v28, rfl, rfl⟩
    refine SJ.q (YldS.yld (y_move rfl)) rfl ?_
    refine SJ.q (YldS.yld (y_extract rfl rfl)) rfl ?_
    refine SJ.q (YldS.yld (y_extract rfl rfl)) rfl ?_
    refine SJ.q (YldS.yld (y_assign rfl)) rfl ?_
    refine SJ.q (YldS.yld (y_assign rfl)) rfl ?_
    refine SJ.nil ?_
    refine PJ.next ?_
    refine WJ.seq ?_
    refine WJ.reg ?_
    refine SJ.q (YldS.yld (y_move rfl)) rfl ?_
    refine SJ.q (YldS.yld (y_move rfl)) rfl ?_
    obtain ⟨r29, h30, hm⟩ := bindS hm
    refine SJ.call Tryd.call13 rfl (fun w hw => ok_s_NextLessons h30 w _ (hw.nss_rd (k := 1) (j := 2) rfl rfl) _ (hw.row_rd (k := 3) rfl)) rfl ?_
    rintro _ _ ⟨v31, rfl, rfl⟩
    refine SJ.q (YldS.yld (y_move rfl)) rfl ?_
    refine SJ.q (YldS.yld (y_extract rfl rfl)) rfl ?_
    refine SJ.q (YldS.yld (y_extract rfl rfl)) rfl ?_
    refine SJ.q (YldS.yld (y_assign rfl)) rfl ?_
    refine SJ.q (YldS.yld (y_assign rfl)) rfl ?_
    refine SJ.nil ?_
    refine PJ.next ?_
    refine WJ.seq ?_
    refine WJ.quiet ?_
    refine QJ.step (YldS.yld (y_move rfl)) rfl ?_
    refine QJ.step (YldS.yld (y_move rfl)) rfl ?_
    obtain ⟨r32, h33, hm⟩ := bindS hm
    refine QJ.step (y_call Tryd.call14 rfl (RetG.quiet fun w hw => ok_i_KnownAfter h33 w _ (hw.nss_rd (k := 2) (j := 3) rfl rfl) _ (hw.row_rd (k := 4) rfl))) rfl ?_
    refine QJ.step (YldS.yld (y_move rfl)) rfl ?_
    refine QJ.step (YldS.yld (y_extract rfl rfl)) rfl ?_
    refine QJ.step (YldS.yld (y_extract rfl rfl)) rfl ?_
    refine QJ.step (YldS.yld (y_assign rfl)) rfl ?_
    refine QJ.step (YldS.yld (y_assign rfl)) rfl ?_
    refine QJ.done ?_
    refine PJ.next ?_
    refine WJ.seq ?_
    refine WJ.quiet ?_
    refine QJ.step (YldS.yld (y_move rfl)) rfl ?_
    refine QJ.step (YldS.yld (y_move rfl)) rfl ?_
    obtain ⟨r34, h35, hm⟩ := bindS hm
    refine QJ.step (y_call Tryd.call15 rfl (RetG.quiet fun w hw => ok_s_KnownAfter h35 w _ (hw.nss_rd (k := 2) (j := 3) rfl rfl) _ (hw.row_rd (k := 4) rfl))) rfl ?_
    refine QJ.step (YldS.yld (y_move rfl)) rfl ?_
    refine QJ.step (YldS.yld (y_extract rfl rfl)) rfl ?_
    refine QJ.step (YldS.yld (y_extract rfl rfl)) rfl ?_
    refine QJ.step (YldS.yld (y_assign rfl)) rfl ?_
    refine QJ.step (YldS.yld (y_assign rfl)) rfl ?_
    refine QJ.done ?_
    refine PJ.next ?_
    refine WJ.seq ?_
    refine WJ.quiet ?_
    refine QJ.step (YldS.yld (y_move rfl)) rfl ?_
    refine QJ.step (YldS.yld (y_move rfl)) rfl ?_
    obtain ⟨r36, h37, hm⟩ := bindS hm
    refine QJ.step (y_call Tryd.call16 rfl (RetG.quiet fun w hw => ok_i_HoursOfLessons h37 w _ (hw.nss_rd (k := 2) (j := 3) rfl rfl) _ (hw.row_rd (k := 4) rfl))) rfl ?_
    refine QJ.step (YldS.yld (y_move rfl)) rfl ?_
    refine QJ.step (YldS.yld (y_extract rfl rfl)) rfl ?_
    refine QJ.step (YldS.yld (y_extract rfl rfl)) rfl ?_
    refine QJ.step (YldS.yld (y_assign rfl)) rfl ?_
    refine QJ.step (YldS.yld (y_assign rfl)) rfl ?_
    refine QJ.done ?_
    refine PJ.next ?_
    refine WJ.seq ?_
    refine WJ.quiet ?_
    refine QJ.step (YldS.yld (y_move rfl)) rfl ?_
    refine QJ.step (YldS.yld (y_move rfl)) rfl ?_
    obtain ⟨r38, h39, hm⟩ := bindS hm
    refine QJ.step (y_call Tryd.call17 rfl (RetG.quiet fun w hw => ok_s_HoursOfLessons h39 w _ (hw.nss_rd (k := 2) (j := 3) rfl rfl) _ (hw.row_rd (k := 4) rfl))) rfl ?_
    refine QJ.step (YldS.yld (y_move rfl)) rfl ?_
    refine QJ.step (YldS.yld (y_extract rfl rfl)) rfl ?_
    refine QJ.step (YldS.yld (y_extract rfl rfl)) rfl ?_
    refine QJ.step (YldS.yld (y_assign rfl)) rfl ?_
    refine QJ.step (YldS.yld (y_assign rfl)) rfl ?_
    refine QJ.done ?_
    refine PJ.next ?_
    refine WJ.seq ?_
    refine WJ.reg ?_
    refine SJ.q (YldS.yld (y_move rfl)) rfl ?_
    obtain ⟨r40, h41, hm⟩ := bindS hm
    refine SJ.call Tryd.call18 rfl (fun w hw => ok_s_DrawSameLessons h41 w _ (hr3.st hw)) rfl ?_
    rintro _ _ ⟨v42, vs43, v44, vs45, rfl, rfl⟩
    refine SJ.q (YldS.yld (y_move rfl)) rfl ?_
    refine SJ.q (YldS.yld (y_extract rfl rfl)) rfl ?_
    refine SJ.q (YldS.yld (y_extract rfl rfl)) rfl ?_
    refine SJ.q (YldS.yld (y_assign rfl)) rfl ?_
    refine SJ.q (YldS.yld (y_assign rfl)) rfl ?_
    refine SJ.nil ?_
    refine PJ.next ?_
    refine WJ.seq ?_
    refine WJ.reg ?_
    refine SJ.q (YldS.yld (y_move rfl)) rfl ?_
    obtain ⟨r46, h47, hm⟩ := bindS hm
    refine SJ.call Tryd.call19 rfl (fun w hw => ok_s_DrawLessonText h47 w _ (hr3.st hw)) rfl ?_
    rintro _ _ ⟨v48, vs49, rfl, rfl⟩
    refine SJ.q (YldS.yld (y_move rfl)) rfl ?_
    refine SJ.q (YldS.yld (y_extract rfl rfl)) rfl ?_
    refine SJ.q (YldS.yld (y_extract rfl rfl)) rfl ?_
    refine SJ.q (YldS.yld (y_assign rfl)) rfl ?_
    refine SJ.q (YldS.yld (y_assign rfl)) rfl ?_
    refine SJ.nil ?_
    refine PJ.next ?_
    refine WJ.seq ?_
    refine WJ.seq ?_
    refine WJ.quiet ?_
    refine QJ.step (YldS.yld (y_move rfl)) rfl ?_
    refine QJ.step (YldS.yld (y_move rfl)) rfl ?_
    refine QJ.step (YldS.yld (y_bin rfl rfl rfl)) rfl ?_
    refine QJ.step (YldS.yld (y_move rfl)) rfl ?_
    obtain ⟨t50, h51, hm⟩ := bindS hm
    refine QJ.cut 5 [(3, v9), (5, .int .i64 r11.2), (6, v16), (8, .int .i64 r17.1), (9, .int .i64 r17.2), (10, .int .i64 r19.1), (11, .int .i64 r19.2), (12, v23), (13, v25), (14, v28), (15, .int .i64 r26.2), (16, v31), (17, .int .i64 r29.2), (18, str r32.1), (19, .int .i64 r32.2), (20, str r34.1), (21, .int .i64 r34.2), (22, .int .i64 r36.1), (23, .int .i64 r36.2), (24, .int .i64 r38.1), (25, .int .i64 r38.2), (26, v42), (27, v44), (28, v48), (29, .int .i64 r46.2), (117, .bool t50)] ?_ ?_
    · rcases Bool.eq_false_or_eq_true (r11.2 != r14.2) with hb52 | hb52
      · obtain rfl := orT h51 hb52
        refine QJ.off rfl rfl (cB hb52) rfl rfl ?_
        refine QJ.off rfl rfl (cB hb52) rfl rfl ?_
        refine QJ.off rfl rfl (cB hb52) rfl rfl ?_
        refine QJ.off rfl rfl (cB hb52) rfl rfl ?_
        refine QJ.step (YldS.yld (y_pick_t (cB hb52) rfl)) rfl ?_
        exact QJ.cut_end ⟨rfl, rfl, rfl, rfl, rfl, rfl, rfl, rfl, rfl, rfl, rfl, rfl, rfl, rfl, rfl, rfl, rfl, rfl, rfl, rfl, rfl, rfl, rfl, rfl, rfl, rfl, trivial⟩
      · replace h51 := orF h51 hb52
        refine QJ.on rfl rfl (cB hb52) (YldS.yld (y_move rfl)) rfl ?_
        refine QJ.on rfl rfl (cB hb52) (YldS.yld (y_move rfl)) rfl ?_
        obtain ⟨r53, h54, h51⟩ := bindS h51
        refine QJ.on rfl rfl (cB hb52) (y_call Tryd.call20 rfl (RetG.quiet fun w hw => ok_w_f6ints h54 w _ (hw.row_rd (k := 12) rfl) _ (hw.row_rd (k := 11) rfl))) rfl ?_
        refine QJ.on rfl rfl (cB hb52) (YldS.yld (y_not rfl)) rfl ?_
        refine QJ.step (YldS.yld (y_pick_f (cB hb52) rfl)) rfl ?_
        obtain rfl := Option.some.inj h51
        exact QJ.cut_end ⟨rfl, rfl, rfl, rfl, rfl, rfl, rfl, rfl, rfl, rfl, rfl, rfl, rfl, rfl, rfl, rfl, rfl, rfl, rfl, rfl, rfl, rfl, rfl, rfl, rfl, rfl, trivial⟩
    refine QJ.step (YldS.yld (y_move rfl)) rfl ?_
    obtain ⟨t55, h56, hm⟩ := bindS hm
    refine QJ.cut 4 [(3, v9), (5, .int .i64 r11.2), (6, v16), (8, .int .i64 r17.1), (9, .int .i64 r17.2), (10, .int .i64 r19.1), (12, v23), (13, v25), (14, v28), (15, .int .i64 r26.2), (16, v31), (17, .int .i64 r29.2), (18, str r32.1), (19, .int .i64 r32.2), (20, str r34.1), (21, .int .i64 r34.2), (22, .int .i64 r36.1), (23, .int .i64 r36.2), (24, .int .i64 r38.1), (25, .int .i64 r38.2), (26, v42), (27, v44), (28, v48), (29, .int .i64 r46.2), (122, .bool t55)] ?_ ?_
    · rcases Bool.eq_false_or_eq_true t50 with hb57 | hb57
      · obtain rfl := orT h56 hb57
        refine QJ.off rfl rfl (cB hb57) rfl rfl ?_
        refine QJ.off rfl rfl (cB hb57) rfl rfl ?_
        refine QJ.off rfl rfl (cB hb57) rfl rfl ?_
        refine QJ.step (YldS.yld (y_pick_t (cB hb57) rfl)) rfl ?_
        exact QJ.cut_end ⟨rfl, rfl, rfl, rfl, rfl, rfl, rfl, rfl, rfl, rfl, rfl, rfl, rfl, rfl, rfl, rfl, rfl, rfl, rfl, rfl, rfl, rfl, rfl, rfl, rfl, trivial⟩
      · replace h56 := orF h56 hb57
        refine QJ.on rfl rfl (cB hb57) (YldS.yld (y_move rfl)) rfl ?_
        refine QJ.on rfl rfl (cB hb57) (YldS.yld (y_move rfl)) rfl ?_
        refine QJ.on rfl rfl (cB hb57) (YldS.yld (y_bin rfl rfl rfl)) rfl ?_
        refine QJ.step (YldS.yld (y_pick_f (cB hb57) rfl)) rfl ?_
        obtain rfl := Option.some.inj h56
        exact QJ.cut_end ⟨rfl, rfl, rfl, rfl, rfl, rfl, rfl, rfl, rfl, rfl, rfl, rfl, rfl, rfl, rfl, rfl, rfl, rfl, rfl, rfl, rfl, rfl, rfl, rfl, rfl, trivial⟩
    refine QJ.step (YldS.yld (y_move rfl)) rfl ?_
    obtain ⟨t58, h59, hm⟩ := bindS hm
    refine QJ.cut 4 [(3, v9), (5, .int .i64 r11.2), (6, v16), (8, .int .i64 r17.1), (9, .int .i64 r17.2), (12, v23), (13, v25), (14, v28), (15, .int .i64 r26.2), (16, v31), (17, .int .i64 r29.2), (18, str r32.1), (19, .int .i64 r32.2), (20, str r34.1), (21, .int .i64 r34.2), (22, .int .i64 r36.1), (23, .int .i64 r36.2), (24, .int .i64 r38.1), (25, .int .i64 r38.2), (26, v42), (27, v44), (28, v48), (29, .int .i64 r46.2), (127, .bool t58)] ?_ ?_
    · rcases Bool.eq_false_or_eq_true t55 with hb60 | hb60
      · obtain rfl := orT h59 hb60
        refine QJ.off rfl rfl (cB hb60) rfl rfl ?_
        refine QJ.off rfl rfl (cB hb60) rfl rfl ?_
        refine QJ.off rfl rfl (cB hb60) rfl rfl ?_
        refine QJ.step (YldS.yld (y_pick_t (cB hb60) rfl)) rfl ?_
        exact QJ.cut_end ⟨rfl, rfl, rfl, rfl, rfl, rfl, rfl, rfl, rfl, rfl, rfl, rfl, rfl, rfl, rfl, rfl, rfl, rfl, rfl, rfl, rfl, rfl, rfl, rfl, trivial⟩
      · replace h59 := orF h59 hb60
        refine QJ.on rfl rfl (cB hb60) (YldS.yld (y_move rfl)) rfl ?_
        refine QJ.on rfl rfl (cB hb60) (YldS.yld (y_move rfl)) rfl ?_
        refine QJ.on rfl rfl (cB hb60) (YldS.yld (y_bin rfl rfl rfl)) rfl ?_
        refine QJ.step (YldS.yld (y_pick_f (cB hb60) rfl)) rfl ?_
        obtain rfl := Option.some.inj h59
        exact QJ.cut_end ⟨rfl, rfl, rfl, rfl, rfl, rfl, rfl, rfl, rfl, rfl, rfl, rfl, rfl, rfl, rfl, rfl, rfl, rfl, rfl, rfl, rfl, rfl, rfl, rfl, trivial⟩
    refine QJ.step (YldS.yld (y_move rfl)) rfl ?_
    obtain ⟨t61, h62, hm⟩ := bindS hm
    refine QJ.cut 4 [(3, v9), (5, .int .i64 r11.2), (6, v16), (8, .int .i64 r17.1), (9, .int .i64 r17.2), (12, v23), (13, v25), (14, v28), (15, .int .i64 r26.2), (16, v31), (18, str r32.1), (19, .int .i64 r32.2), (20, str r34.1), (21, .int .i64 r34.2), (22, .int .i64 r36.1), (23, .int .i64 r36.2), (24, .int .i64 r38.1), (25, .int .i64 r38.2), (26, v42), (27, v44), (28, v48), (29, .int .i64 r46.2), (132, .bool t61)] ?_ ?_
    · rcases Bool.eq_false_or_eq_true t58 with hb63 | hb63
      · obtain rfl := orT h62 hb63
        refine QJ.off rfl rfl (cB hb63) rfl rfl ?_
        refine QJ.off rfl rfl (cB hb63) rfl rfl ?_
        refine QJ.off rfl rfl (cB hb63) rfl rfl ?_
        refine QJ.step (YldS.yld (y_pick_t (cB hb63) rfl)) rfl ?_
        exact QJ.cut_end ⟨rfl, rfl, rfl, rfl, rfl, rfl, rfl, rfl, rfl, rfl, rfl, rfl, rfl, rfl, rfl, rfl, rfl, rfl, rfl, rfl, rfl, rfl, rfl, trivial⟩
      · replace h62 := orF h62 hb63
        refine QJ.on rfl rfl (cB hb63) (YldS.yld (y_move rfl)) rfl ?_
        refine QJ.on rfl rfl (cB hb63) (YldS.yld (y_move rfl)) rfl ?_
        refine QJ.on rfl rfl (cB hb63) (YldS.yld (y_bin rfl rfl rfl)) rfl ?_
        refine QJ.step (YldS.yld (y_pick_f (cB hb63) rfl)) rfl ?_
        obtain rfl := Option.some.inj h62
        exact QJ.cut_end ⟨rfl, rfl, rfl, rfl, rfl, rfl, rfl, rfl, rfl, rfl, rfl, rfl, rfl, rfl, rfl, rfl, rfl, rfl, rfl, rfl, rfl, rfl, rfl, trivial⟩
    refine QJ.step (YldS.yld (y_move rfl)) rfl ?_
    obtain ⟨t64, h65, hm⟩ := bindS hm
    refine QJ.cut 5 [(3, v9), (5, .int .i64 r11.2), (6, v16), (8, .int .i64 r17.1), (9, .int .i64 r17.2), (12, v23), (13, v25), (15, .int .i64 r26.2), (16, v31), (18, str r32.1), (19, .int .i64 r32.2), (20, str r34.1), (21, .int .i64 r34.2), (22, .int .i64 r36.1), (23, .int .i64 r36.2), (24, .int .i64 r38.1), (25, .int .i64 r38.2), (26, v42), (27, v44), (28, v48), (29, .int .i64 r46.2), (138, .bool t64)] ?_ ?_
    · rcases Bool.eq_false_or_eq_true t61 with hb66 | hb66
      · obtain rfl := orT h65 hb66
        refine QJ.off rfl rfl (cB hb66) rfl rfl ?_
        refine QJ.off rfl rfl (cB hb66) rfl rfl ?_
        refine QJ.off rfl rfl (cB hb66) rfl rfl ?_
        refine QJ.off rfl rfl (cB hb66) rfl rfl ?_
        refine QJ.step (YldS.yld (y_pick_t (cB hb66) rfl)) rfl ?_
        exact QJ.cut_end ⟨rfl, rfl, rfl, rfl, rfl, rfl, rfl, rfl, rfl, rfl, rfl, rfl, rfl, rfl, rfl, rfl, rfl, rfl, rfl, rfl, rfl, rfl, trivial⟩
      · replace h65 := orF h65 hb66
        refine QJ.on rfl rfl (cB hb66) (YldS.yld (y_move rfl)) rfl ?_
        refine QJ.on rfl rfl (cB hb66) (YldS.yld (y_move rfl)) rfl ?_
        obtain ⟨r67, h68, h65⟩ := bindS h65
        refine QJ.on rfl rfl (cB hb66) (y_call Tryd.call20 rfl (RetG.quiet fun w hw => ok_w_f6ints h68 w _ (hw.row_rd (k := 7) rfl) _ (hw.row_rd (k := 6) rfl))) rfl ?_
        refine QJ.on rfl rfl (cB hb66) (YldS.yld (y_not rfl)) rfl ?_
        refine QJ.step (YldS.yld (y_pick_f (cB hb66) rfl)) rfl ?_
        obtain rfl := Option.some.inj h65
        exact QJ.cut_end ⟨rfl, rfl, rfl, rfl, rfl, rfl, rfl, rfl, rfl, rfl, rfl, rfl, rfl, rfl, rfl, rfl, rfl, rfl, rfl, rfl, rfl, rfl, trivial⟩
    refine QJ.step (YldS.yld (y_move rfl)) rfl ?_
    obtain ⟨t69, h70, hm⟩ := bindS hm
    refine QJ.cut 4 [(3, v9), (5, .int .i64 r11.2), (6, v16), (8, .int .i64 r17.1), (9, .int .i64 r17.2), (12, v23), (13, v25), (15, .int .i64 r26.2), (16, v31), (18, str r32.1), (20, str r34.1), (22, .int .i64 r36.1), (23, .int .i64 r36.2), (24, .int .i64 r38.1), (25, .int .i64 r38.2), (26, v42), (27, v44), (28, v48), (29, .int .i64 r46.2), (143, .bool t69)] ?_ ?_
    · rcases Bool.eq_false_or_eq_true t64 with hb71 | hb71
      · obtain rfl := orT h70 hb71
        refine QJ.off rfl rfl (cB hb71) rfl rfl ?_
        refine QJ.off rfl rfl (cB hb71) rfl rfl ?_
        refine QJ.off rfl rfl (cB hb71) rfl rfl ?_
        refine QJ.step (YldS.yld (y_pick_t (cB hb71) rfl)) rfl ?_
        exact QJ.cut_end ⟨rfl, rfl, rfl, rfl, rfl, rfl, rfl, rfl, rfl, rfl, rfl, rfl, rfl, rfl, rfl, rfl, rfl, rfl, rfl, rfl, trivial⟩
      · replace h70 := orF h70 hb71
        refine QJ.on rfl rfl (cB hb71) (YldS.yld (y_move rfl)) rfl ?_
        refine QJ.on rfl rfl (cB hb71) (YldS.yld (y_move rfl)) rfl ?_
        refine QJ.on rfl rfl (cB hb71) (YldS.yld (y_bin rfl rfl rfl)) rfl ?_
        refine QJ.step (YldS.yld (y_pick_f (cB hb71) rfl)) rfl ?_
        obtain rfl := Option.some.inj h70
        exact QJ.cut_end ⟨rfl, rfl, rfl, rfl, rfl, rfl, rfl, rfl, rfl, rfl, rfl, rfl, rfl, rfl, rfl, rfl, rfl, rfl, rfl, rfl, trivial⟩
    refine QJ.step (YldS.yld (y_move rfl)) rfl ?_
    obtain ⟨t72, h73, hm⟩ := bindS hm
    refine QJ.cut 4 [(3, v9), (5, .int .i64 r11.2), (6, v16), (8, .int .i64 r17.1), (9, .int .i64 r17.2), (12, v23), (13, v25), (15, .int .i64 r26.2), (16, v31), (22, .int .i64 r36.1), (23, .int .i64 r36.2), (24, .int .i64 r38.1), (25, .int .i64 r38.2), (26, v42), (27, v44), (28, v48), (29, .int .i64 r46.2), (148, .bool t72)] ?_ ?_
    · rcases Bool.eq_false_or_eq_true t69 with hb74 | hb74
      · obtain rfl := orT h73 hb74
        refine QJ.off rfl rfl (cB hb74) rfl rfl ?_
        refine QJ.off rfl rfl (cB hb74) rfl rfl ?_
        refine QJ.off rfl rfl (cB hb74) rfl rfl ?_
        refine QJ.step (YldS.yld (y_pick_t (cB hb74) rfl)) rfl ?_
        exact QJ.cut_end ⟨rfl, rfl, rfl, rfl, rfl, rfl, rfl, rfl, rfl, rfl, rfl, rfl, rfl, rfl, rfl, rfl, rfl, rfl, trivial⟩
      · replace h73 := orF h73 hb74
        refine QJ.on rfl rfl (cB hb74) (YldS.yld (y_move rfl)) rfl ?_
        refine QJ.on rfl rfl (cB hb74) (YldS.yld (y_move rfl)) rfl ?_
        refine QJ.on rfl rfl (cB hb74) (YldS.yld (y_binS rfl rfl rfl)) rfl ?_
        refine QJ.step (YldS.yld (y_pick_f (cB hb74) rfl)) rfl ?_
        obtain rfl := Option.some.inj h73
        exact QJ.cut_end ⟨rfl, rfl, rfl, rfl, rfl, rfl, rfl, rfl, rfl, rfl, rfl, rfl, rfl, rfl, rfl, rfl, rfl, rfl, trivial⟩
    refine QJ.step (YldS.yld (y_move rfl)) rfl ?_
    obtain ⟨t75, h76, hm⟩ := bindS hm
    refine QJ.cut 4 [(3, v9), (5, .int .i64 r11.2), (6, v16), (8, .int .i64 r17.1), (9, .int .i64 r17.2), (12, v23), (13, v25), (15, .int .i64 r26.2), (16, v31), (22, .int .i64 r36.1), (24, .int .i64 r38.1), (26, v42), (27, v44), (28, v48), (29, .int .i64 r46.2), (153, .bool t75)] ?_ ?_
    · rcases Bool.eq_false_or_eq_true t72 with hb77 | hb77
      · obtain rfl := orT h76 hb77
        refine QJ.off rfl rfl (cB hb77) rfl rfl ?_
        refine QJ.off rfl rfl (cB hb77) rfl rfl ?_
        refine QJ.off rfl rfl (cB hb77) rfl rfl ?_
        refine QJ.step (YldS.yld (y_pick_t (cB hb77) rfl)) rfl ?_
        exact QJ.cut_end ⟨rfl, rfl, rfl, rfl, rfl, rfl, rfl, rfl, rfl, rfl, rfl, rfl, rfl, rfl, rfl, rfl, trivial⟩
      · replace h76 := orF h76 hb77
        refine QJ.on rfl rfl (cB hb77) (YldS.yld (y_move rfl)) rfl ?_
        refine QJ.on rfl rfl (cB hb77) (YldS.yld (y_move rfl)) rfl ?_
        refine QJ.on rfl rfl (cB hb77) (YldS.yld (y_bin rfl rfl rfl)) rfl ?_
        refine QJ.step (YldS.yld (y_pick_f (cB hb77) rfl)) rfl ?_
        obtain rfl := Option.some.inj h76
        exact QJ.cut_end ⟨rfl, rfl, rfl, rfl, rfl, rfl, rfl, rfl, rfl, rfl, rfl, rfl, rfl, rfl, rfl, rfl, trivial⟩
    refine QJ.step (YldS.yld (y_move rfl)) rfl ?_
    obtain ⟨t78, h79, hm⟩ := bindS hm
    refine QJ.cut 4 [(3, v9), (5, .int .i64 r11.2), (6, v16), (8, .int .i64 r17.1), (9, .int .i64 r17.2), (12, v23), (13, v25), (15, .int .i64 r26.2), (16, v31), (26, v42), (27, v44), (28, v48), (29, .int .i64 r46.2), (158, .bool t78)] ?_ ?_
    · rcases Bool.eq_false_or_eq_true t75 with hb80 | hb80
      · obtain rfl := orT h79 hb80
        refine QJ.off rfl rfl (cB hb80) rfl rfl ?_
        refine QJ.off rfl rfl (cB hb80) rfl rfl ?_
        refine QJ.off rfl rfl (cB hb80) rfl rfl ?_
        refine QJ.step (YldS.yld (y_pick_t (cB hb80) rfl)) rfl ?_
        exact QJ.cut_end ⟨rfl, rfl, rfl, rfl, rfl, rfl, rfl, rfl, rfl, rfl, rfl, rfl, rfl, rfl, trivial⟩
      · replace h79 := orF h79 hb80
        refine QJ.on rfl rfl (cB hb80) (YldS.yld (y_move rfl)) rfl ?_
        refine QJ.on rfl rfl (cB hb80) (YldS.yld (y_move rfl)) rfl ?_
        refine QJ.on rfl rfl (cB hb80) (YldS.yld (y_bin rfl rfl rfl)) rfl ?_
        refine QJ.step (YldS.yld (y_pick_f (cB hb80) rfl)) rfl ?_
        obtain rfl := Option.some.inj h79
        exact QJ.cut_end ⟨rfl, rfl, rfl, rfl, rfl, rfl, rfl, rfl, rfl, rfl, rfl, rfl, rfl, rfl, trivial⟩
    refine QJ.step (YldS.yld (y_move rfl)) rfl ?_
    obtain ⟨t81, h82, hm⟩ := bindS hm
    refine QJ.cut 8 [(3, v9), (5, .int .i64 r11.2), (6, v16), (8, .int .i64 r17.1), (9, .int .i64 r17.2), (12, v23), (13, v25), (15, .int .i64 r26.2), (16, v31), (28, v48), (29, .int .i64 r46.2), (167, .bool t81)] ?_ ?_
    · rcases Bool.eq_false_or_eq_true t78 with hb83 | hb83
      · obtain rfl := orT h82 hb83
        refine QJ.off rfl rfl (cB hb83) rfl rfl ?_
        refine QJ.off rfl rfl (cB hb83) rfl rfl ?_
        refine QJ.off rfl rfl (cB hb83) rfl rfl ?_
        refine QJ.off rfl rfl (cB hb83) rfl rfl ?_
        refine QJ.off rfl rfl (cB hb83) rfl rfl ?_
        refine QJ.off rfl rfl (cB hb83) rfl rfl ?_
        refine QJ.off rfl rfl (cB hb83) rfl rfl ?_
        refine QJ.step (YldS.yld (y_pick_t (cB hb83) rfl)) rfl ?_
        exact QJ.cut_end ⟨rfl, rfl, rfl, rfl, rfl, rfl, rfl, rfl, rfl, rfl, rfl, rfl, trivial⟩
      · replace h82 := orF h82 hb83
        refine QJ.on rfl rfl (cB hb83) (YldS.yld (y_move rfl)) rfl ?_
        refine QJ.on rfl rfl (cB hb83) (YldS.yld (y_move rfl)) rfl ?_
        obtain ⟨r84, h85, h82⟩ := bindS h82
        refine QJ.on rfl rfl (cB hb83) (y_call Tryd.call21 rfl (RetG.quiet fun w hw => ok_i_SameLessons h85 w _ (hw.nss_rd (k := 2) (j := 3) rfl rfl) _ (hw.nss_rd (k := 4) (j := 5) rfl rfl))) rfl ?_
        refine QJ.on rfl rfl (cB hb83) (YldS.yld (y_move rfl)) rfl ?_
        refine QJ.on rfl rfl (cB hb83) (YldS.yld (y_move rfl)) rfl ?_
        obtain ⟨r86, h87, h82⟩ := bindS h82
        refine QJ.on rfl rfl (cB hb83) (y_call Tryd.call22 rfl (RetG.quiet fun w hw => ok_s_SameLessons h87 w _ (hw.nss_rd (k := 2) (j := 3) rfl rfl) _ (hw.nss_rd (k := 4) (j := 5) rfl rfl))) rfl ?_
        refine QJ.on rfl rfl (cB hb83) (YldS.yld (y_neB Tryd.underlying4 rfl rfl rfl)) rfl ?_
        refine QJ.step (YldS.yld (y_pick_f (cB hb83) rfl)) rfl ?_
        obtain rfl := Option.some.inj h82
        exact QJ.cut_end ⟨rfl, rfl, rfl, rfl, rfl, rfl, rfl, rfl, rfl, rfl, rfl, rfl, trivial⟩
    refine QJ.step (YldS.yld (y_move rfl)) rfl ?_
    obtain ⟨t88, h89, hm⟩ := bindS hm
    refine QJ.cut 8 [(3, v9), (5, .int .i64 r11.2), (6, v16), (8, .int .i64 r17.1), (9, .int .i64 r17.2), (12, v23), (13, v25), (15, .int .i64 r26.2), (16, v31), (176, .bool t88)] ?_ ?_
    · rcases Bool.eq_false_or_eq_true t81 with hb90 | hb90
      · obtain rfl := orT h89 hb90
        refine QJ.off rfl rfl (cB hb90) rfl rfl ?_
        refine QJ.off rfl rfl (cB hb90) rfl rfl ?_
        refine QJ.off rfl rfl (cB hb90) rfl rfl ?_
        refine QJ.off rfl rfl (cB hb90) rfl rfl ?_
        refine QJ.off rfl rfl (cB hb90) rfl rfl ?_
        refine QJ.off rfl rfl (cB hb90) rfl rfl ?_
        refine QJ.off rfl rfl (cB hb90) rfl rfl ?_
        refine QJ.step (YldS.yld (y_pick_t (cB hb90) rfl)) rfl ?_
        exact QJ.cut_end ⟨rfl, rfl, rfl, rfl, rfl, rfl, rfl, rfl, rfl, rfl, trivial⟩
      · replace h89 := orF h89 hb90
        refine QJ.on rfl rfl (cB hb90) (YldS.yld (y_move rfl)) rfl ?_
        refine QJ.on rfl rfl (cB hb90) (YldS.yld (y_move rfl)) rfl ?_
        obtain ⟨r91, h92, h89⟩ := bindS h89
        refine QJ.on rfl rfl (cB hb90) (y_call Tryd.call23 rfl (RetG.quiet fun w hw => ok_i_LessonText h92 w (hT.st hw) _ (hw.nss_rd (k := 0) (j := 1) rfl rfl))) rfl ?_
        refine QJ.on rfl rfl (cB hb90) (YldS.yld (y_move rfl)) rfl ?_
        refine QJ.on rfl rfl (cB hb90) (YldS.yld (y_move rfl)) rfl ?_
        obtain ⟨r93, h94, h89⟩ := bindS h89
        refine QJ.on rfl rfl (cB hb90) (y_call Tryd.call24 rfl (RetG.quiet fun w hw => ok_s_LessonText h94 w _ (hw.nss_rd (k := 0) (j := 1) rfl rfl))) rfl ?_
        refine QJ.on rfl rfl (cB hb90) (YldS.yld (y_binS rfl rfl rfl)) rfl ?_
        refine QJ.step (YldS.yld (y_pick_f (cB hb90) rfl)) rfl ?_
        obtain rfl := Option.some.inj h89
        exact QJ.cut_end ⟨rfl, rfl, rfl, rfl, rfl, rfl, rfl, rfl, rfl, rfl, trivial⟩
    refine QJ.step (YldS.yld (y_move rfl)) rfl ?_
    obtain ⟨t95, h96, hm⟩ := bindS hm
    refine QJ.cut 6 [(3, v9), (5, .int .i64 r11.2), (6, v16), (8, .int .i64 r17.1), (9, .int .i64 r17.2), (12, v23), (13, v25), (15, .int .i64 r26.2), (16, v31), (183, .bool t95)] ?_ ?_
    · rcases Bool.eq_false_or_eq_true t88 with hb97 | hb97
      · obtain rfl := orT h96 hb97
        refine QJ.off rfl rfl (cB hb97) rfl rfl ?_
        refine QJ.off rfl rfl (cB hb97) rfl rfl ?_
        refine QJ.off rfl rfl (cB hb97) rfl rfl ?_
        refine QJ.off rfl rfl (cB hb97) rfl rfl ?_
        refine QJ.off rfl rfl (cB hb97) rfl rfl ?_
        refine QJ.step (YldS.yld (y_pick_t (cB hb97) rfl)) rfl ?_
        exact QJ.cut_end ⟨rfl, rfl, rfl, rfl, rfl, rfl, rfl, rfl, rfl, rfl, trivial⟩
      · replace h96 := orF h96 hb97
        refine QJ.on rfl rfl (cB hb97) (YldS.yld (y_move rfl)) rfl ?_
        obtain ⟨r98, h99, h96⟩ := bindS h96
        refine QJ.on rfl rfl (cB hb97) (y_call Tryd.call25 rfl (RetG.quiet fun w hw => ok_i_ValidLessons h99 w _ (hw.nss_rd (k := 13) (j := 14) rfl rfl))) rfl ?_
        refine QJ.on rfl rfl (cB hb97) (YldS.yld (y_move rfl)) rfl ?_
        obtain ⟨r100, h101, h96⟩ := bindS h96
        refine QJ.on rfl rfl (cB hb97) (y_call Tryd.call26 rfl (RetG.quiet fun w hw => ok_s_ValidLessons h101 w _ (hw.nss_rd (k := 13) (j := 14) rfl rfl))) rfl ?_
        refine QJ.on rfl rfl (cB hb97) (YldS.yld (y_neB Tryd.underlying4 rfl rfl rfl)) rfl ?_
        refine QJ.step (YldS.yld (y_pick_f (cB hb97) rfl)) rfl ?_
        obtain rfl := Option.some.inj h96
        exact QJ.cut_end ⟨rfl, rfl, rfl, rfl, rfl, rfl, rfl, rfl, rfl, rfl, trivial⟩
    refine QJ.done ?_
    refine PJ.next ?_
    refine WJ.cond (t := t95) rfl (fun hb102 => ?_) (fun hb102 => ?_)
    · replace hm := ifT hm hb102
      refine WJ.seq ?_
      refine WJ.quiet ?_
      refine QJ.step (YldS.yld (y_assign rfl)) rfl ?_
      refine QJ.done ?_
      refine PJ.next ?_
      refine WJ.ret ?_
      refine PJ.then_ret ?_
      obtain rfl := Option.some.inj hm
      refine PJ.sel (L' := []) [] ⟨List.nodup_nil, rfl⟩ ?_
      exact PJ.retn (vs := [.bool false]) Tryd.results3 ⟨rfl, trivial⟩ ⟨rfl, rfl⟩
    · replace hm := ifF hm hb102
      refine WJ.skip ?_
      refine PJ.next ?_
      obtain ⟨kj103, hk104, hm⟩ := withK_open hm
      refine WJ.join (X := Unit) (fun (_ : Unit) => kj103  = some r) (fun (_ : Unit) => [(3, v9), (5, .int .i64 r11.2), (6, v16), (8, .int .i64 r17.1), (9, .int .i64 r17.2)]) (fun (_ : Unit) => [row v16 2 fI64 r14.1, row v9 47 fRaw4 vs10, ins shLesson 2 fI64 vs10 r7]) ?_ ?_
      · clear hk104
        refine WJ.seq ?_
        refine WJ.quiet ?_
        refine QJ.step (YldS.yld (y_move rfl)) rfl ?_
        refine QJ.step (YldS.yld (y_bin rfl rfl rfl)) rfl ?_
        refine QJ.done ?_
        refine PJ.next ?_
        refine WJ.cond (t := (r26.2 == 0)) rfl (fun hb105 => ?_) (fun hb105 => ?_)
        · replace hm := ifT hm hb105
          refine WJ.seq ?_
          refine WJ.quiet ?_
          refine QJ.step (YldS.yld (y_assign rfl)) rfl ?_
          refine QJ.done ?_
          refine PJ.next ?_
          refine WJ.block ?_
          refine WJ.sel (L' := (fun (x : Int) => [row v31 2 fI64 r29.1, row v23 47 fRaw4 vs24, ins shLesson 2 fI64 vs24 r21.1, row v25 2 fI64 r21.2, row v16 2 fI64 r14.1, row v9 47 fRaw4 vs10, ins shLesson 2 fI64 vs10 r7]) 0) [6, 8, 9, 10, 11, 13, 14] ⟨by decide, rfl⟩ ?_
          refine WJ.sub (m' := (fun (x : Int) => [(3, v9), (5, .int .i64 r11.2), (6, v16), (8, .int .i64 r17.1), (9, .int .i64 r17.2), (12, v23), (13, v25), (16, v31), (30, .int .i64 x)]) 0) ⟨rfl, rfl, rfl, rfl, rfl, rfl, rfl, rfl, rfl, trivial⟩ ?_
          refine WJ.loop (X := Int) (fun N (x : Int) => w_FnLessonOrders_l1 kj103 r21 r29 N x = some r) (fun (x : Int) => [(3, v9), (5, .int .i64 r11.2), (6, v16), (8, .int .i64 r17.1), (9, .int .i64 r17.2), (12, v23), (13, v25), (16, v31), (30, .int .i64 x)]) (fun (x : Int) => [row v31 2 fI64 r29.1, row v23 47 fRaw4 vs24, ins shLesson 2 fI64 vs24 r21.1, row v25 2 fI64 r21.2, row v16 2 fI64 r14.1, row v9 47 fRaw4 vs10, ins shLesson 2 fI64 vs10 r7]) ?_ N 0 hm
          · rintro N i106 hI
            have hm := hI; clear hI
            cases N with
            | zero => cases hm
            | succ N =>
            unfold w_FnLessonOrders_l1 at hm
            refine WJ.seq ?_
            refine WJ.seq ?_
            refine WJ.quiet ?_
            refine QJ.step (YldS.yld (y_move rfl)) rfl ?_
            refine QJ.step (YldS.yld (y_move rfl)) rfl ?_
            refine QJ.step (YldS.yld (y_lenRow (k := 0) rfl Tryd.runUnderlying26 rfl)) rfl ?_
            refine QJ.step (YldS.yld (y_bin rfl rfl rfl)) rfl ?_
            refine QJ.done ?_
            refine PJ.next ?_
            refine WJ.cond (t := decide (i106 < (List.length r29.1 : Int))) rfl (fun hb107 => ?_) (fun hb107 => ?_)
            · replace hm := ifT hm hb107
              refine WJ.skip ?_
              refine PJ.next ?_
              obtain ⟨kj108, hk109, hm⟩ := withK_open hm
              refine WJ.join (X := Unit) (fun (_ : Unit) => kj108  = some r) (fun (_ : Unit) => [(3, v9), (5, .int .i64 r11.2), (6, v16), (8, .int .i64 r17.1), (9, .int .i64 r17.2), (12, v23), (13, v25), (16, v31), (30, .int .i64 i106)]) (fun (_ : Unit) => [row v31 2 fI64 r29.1, row v23 47 fRaw4 vs24, ins shLesson 2 fI64 vs24 r21.1, row v25 2 fI64 r21.2, row v16 2 fI64 r14.1, row v9 47 fRaw4 vs10, ins shLesson 2 fI64 vs10 r7]) ?_ ?_
              · clear hk109
                refine WJ.block ?_
                refine WJ.seq ?_
                refine WJ.seq ?_
                refine WJ.quiet ?_
                refine QJ.step (YldS.yld (y_move rfl)) rfl ?_
                refine QJ.step (YldS.yld (y_move rfl)) rfl ?_
                refine QJ.step (YldS.yld (y_move rfl)) rfl ?_
                obtain ⟨e110, h111, hm⟩ := bindS hm
                refine QJ.step (YldS.yld (y_ixRow (k := 0) (R := fI64) rfl Tryd.runUnderlying26 Tryd.sizeOf2 rfl rfl h111)) rfl ?_
                refine QJ.step (YldS.yld (y_loadR (k := 0) (i := (Int.toNat i106)) (off := 0) (u := .int .i64 e110) rfl Tryd.isAgg2 rfl (idx_get h111) rfl)) rfl ?_
                obtain ⟨r112, h113, hm⟩ := bindS hm
                refine QJ.step (y_call Tryd.call27 rfl (RetG.quiet fun w hw => ok_w_f6has h113 w _ (hw.row_rd (k := 3) rfl))) rfl ?_
                refine QJ.done ?_
                refine PJ.next ?_
                refine WJ.cond (t := r112) rfl (fun hb114 => ?_) (fun hb114 => ?_)
                · replace hm := ifT hm hb114
                  refine WJ.seq ?_
                  refine WJ.quiet ?_
                  refine QJ.step (YldS.yld (y_assign rfl)) rfl ?_
                  refine QJ.done ?_
                  refine PJ.next ?_
                  refine WJ.ret ?_
                  refine PJ.then_ret (PJ.block_ret (PJ.then_ret (PJ.then_ret (PJ.block_ret (PJ.then_ret ?_)))))
                  obtain rfl := Option.some.inj hm
                  refine PJ.sel (L' := []) [] ⟨List.nodup_nil, rfl⟩ ?_
                  exact PJ.retn (vs := [.bool false]) Tryd.results3 ⟨rfl, trivial⟩ ⟨rfl, rfl⟩
                · replace hm := ifF hm hb114
                  refine WJ.skip ?_
                  refine PJ.next ?_
                  refine WJ.seq ?_
                  refine WJ.quiet ?_
                  refine QJ.step (YldS.yld (y_assign rfl)) rfl ?_
                  refine QJ.done ?_
                  refine PJ.next ?_
                  refine WJ.block ?_
                  refine WJ.sel (L' := (fun (x : Int) => [row v31 2 fI64 r29.1, row v23 47 fRaw4 vs24, ins shLesson 2 fI64 vs24 r21.1, row v25 2 fI64 r21.2, row v16 2 fI64 r14.1, row v9 47 fRaw4 vs10, ins shLesson 2 fI64 vs10 r7]) 0) [0, 1, 2, 3, 4, 5, 6] ⟨by decide, rfl⟩ ?_
                  refine WJ.sub (m' := (fun (x : Int) => [(3, v9), (5, .int .i64 r11.2), (6, v16), (8, .int .i64 r17.1), (9, .int .i64 r17.2), (12, v23), (13, v25), (16, v31), (30, .int .i64 i106), (31, .int .i64 x)]) 0) ⟨rfl, rfl, rfl, rfl, rfl, rfl, rfl, rfl, rfl, rfl, trivial⟩ ?_
                  refine WJ.loop (X := Int) (fun N (x : Int) => w_FnLessonOrders_l2 kj108 r21 r29 i106 N x = some r) (fun (x : Int) => [(3, v9), (5, .int .i64 r11.2), (6, v16), (8, .int .i64 r17.1), (9, .int .i64 r17.2), (12, v23), (13, v25), (16, v31), (30, .int .i64 i106), (31, .int .i64 x)]) (fun (x : Int) => [row v31 2 fI64 r29.1, row v23 47 fRaw4 vs24, ins shLesson 2 fI64 vs24 r21.1, row v25 2 fI64 r21.2, row v16 2 fI64 r14.1, row v9 47 fRaw4 vs10, ins shLesson 2 fI64 vs10 r7]) ?_ N 0 hm
                  · rintro N j115 hI
                    have hm := hI; clear hI
                    cases N with
                    | zero => cases hm
                    | succ N =>
                    unfold w_FnLessonOrders_l2 at hm
                    refine WJ.seq ?_
                    refine WJ.seq ?_
                    refine WJ.ins_len 2 rfl fun hl116 => ?_
                    refine WJ.ins_len 6 rfl fun hl117 => ?_
                    refine WJ.quiet ?_
                    refine QJ.step (YldS.yld (y_move rfl)) rfl ?_
                    refine QJ.step (YldS.yld (y_move rfl)) rfl ?_
                    refine QJ.step (YldS.yld (y_move rfl)) rfl ?_
                    refine QJ.step (YldS.yld (y_move rfl)) rfl ?_
                    obtain ⟨e118, h119, hm⟩ := bindS hm
                    refine QJ.step (YldS.yld (y_ixRow (k := 0) (R := fI64) rfl Tryd.runUnderlying26 Tryd.sizeOf2 rfl rfl h119)) rfl ?_
                    refine QJ.step (YldS.yld (y_loadR (k := 0) (i := (Int.toNat i106)) (off := 0) (u := .int .i64 e118) rfl Tryd.isAgg2 rfl (idx_get h119) rfl)) rfl ?_
                    obtain ⟨e120, h121, hm⟩ := bindS hm
                    obtain ⟨y122, hy123⟩ := inn_idx hl116.1 h121
                    obtain hs124 := hl116.2 _ _ _ hy123 h121
                    refine QJ.step (YldS.yld (y_ixRow (k := 1) (R := fRaw4) rfl Tryd.runUnderlying24 Tryd.sizeOf47 rfl rfl hy123)) rfl ?_
                    refine QJ.step (YldS.yld (y_fldR fld47_2 rfl)) rfl ?_
                    refine QJ.step (YldS.yld (y_loadR (k := 1) (i := (Int.toNat e118)) (off := 2) (u := (shLesson.sl y122)) rfl Tryd.isAgg26 rfl (idx_get hy123) (sh_cell hs124 rfl))) rfl ?_
                    refine QJ.step (YldS.yld (y_lenG (fun w hw => (hw.ins_rd (k := 2) rfl rfl hy123 h121)) Tryd.runUnderlying26 rfl)) rfl ?_
                    refine QJ.step (YldS.yld (y_bin rfl rfl rfl)) rfl ?_
                    refine QJ.done ?_
                    refine PJ.next ?_
                    refine WJ.cond (t := decide (j115 < (List.length e120.needs : Int))) rfl (fun hb125 => ?_) (fun hb125 => ?_)
                    · replace hm := ifT hm hb125
                      refine WJ.skip ?_
                      refine PJ.next ?_
                      refine WJ.seq ?_
                      refine WJ.block ?_
                      refine WJ.seq ?_
                      refine WJ.ins_len 2 rfl fun hl126 => ?_
                      refine WJ.ins_len 6 rfl fun hl127 => ?_
                      refine WJ.quiet ?_
                      refine QJ.step (YldS.yld (y_move rfl)) rfl ?_
                      refine QJ.step (YldS.yld (y_move rfl)) rfl ?_
                      refine QJ.step (YldS.yld (y_move rfl)) rfl ?_
                      refine QJ.step (YldS.yld (y_move rfl)) rfl ?_
                      obtain ⟨e128, h129, hm⟩ := bindS hm
                      refine QJ.step (YldS.yld (y_ixRow (k := 0) (R := fI64) rfl Tryd.runUnderlying26 Tryd.sizeOf2 rfl rfl h129)) rfl ?_
                      refine QJ.step (YldS.yld (y_loadR (k := 0) (i := (Int.toNat i106)) (off := 0) (u := .int .i64 e128) rfl Tryd.isAgg2 rfl (idx_get h129) rfl)) rfl ?_
                      obtain ⟨e130, h131, hm⟩ := bindS hm
                      obtain ⟨y132, hy133⟩ := inn_idx hl126.1 h131
                      obtain hs134 := hl126.2 _ _ _ hy133 h131
                      refine QJ.step (YldS.yld (y_ixRow (k := 1) (R := fRaw4) rfl Tryd.runUnderlying24 Tryd.sizeOf47 rfl rfl hy133)) rfl ?_
                      refine QJ.step (YldS.yld (y_fldR fld47_2 rfl)) rfl ?_
                      refine QJ.step (YldS.yld (y_loadR (k := 1) (i := (Int.toNat e128)) (off := 2) (u := (shLesson.sl y132)) rfl Tryd.isAgg26 rfl (idx_get hy133) (sh_cell hs134 rfl))) rfl ?_
                      refine QJ.step (YldS.yld (y_move rfl)) rfl ?_
                      obtain ⟨e135, h136, hm⟩ := bindS hm
                      refine QJ.step (YldS.yld (y_ixG (R := fI64) (fun w hw => (hw.ins_rd (k := 2) rfl rfl hy133 h131)) Tryd.runUnderlying26 Tryd.sizeOf2 rfl rfl h136)) rfl ?_
                      refine QJ.step (YldS.yld (y_loadG (R := fI64) (i := (Int.toNat j115)) (off := 0) (fun w hw => (hw.ins_rd (k := 2) rfl rfl hy133 h131)) Tryd.isAgg2 rfl (idx_get h136) rfl)) rfl ?_
                      obtain ⟨r137, h138, hm⟩ := bindS hm
                      refine QJ.step (y_call Tryd.call27 rfl (RetG.quiet fun w hw => ok_w_f6has h138 w _ (hw.row_rd (k := 3) rfl))) rfl ?_
                      refine QJ.step (YldS.yld (y_not rfl)) rfl ?_
                      refine QJ.done ?_
                      refine PJ.next ?_
                      refine WJ.cond (t := !r137) rfl (fun hb139 => ?_) (fun hb139 => ?_)
                      · replace hm := ifT hm hb139
                        refine WJ.seq ?_
                        refine WJ.quiet ?_
                        refine QJ.step (YldS.yld (y_assign rfl)) rfl ?_
                        refine QJ.done ?_
                        refine PJ.next ?_
                        refine WJ.ret ?_
                        refine PJ.block_ret (PJ.then_ret (PJ.then_ret (PJ.block_ret (PJ.block_ret (PJ.then_ret (PJ.then_ret (PJ.block_ret (PJ.then_ret ?_))))))))
                        obtain rfl := Option.some.inj hm
                        refine PJ.sel (L' := []) [] ⟨List.nodup_nil, rfl⟩ ?_
                        exact PJ.retn (vs := [.bool false]) Tryd.results3 ⟨rfl, trivial⟩ ⟨rfl, rfl⟩
                      · replace hm := ifF hm hb139
                        refine WJ.skip ?_
                        refine PJ.block_normal (PJ.next ?_)
                        refine WJ.quiet ?_
                        refine QJ.step (YldS.yld (y_move rfl)) rfl ?_
                        refine QJ.step (YldS.yld (y_bin rfl rfl rfl)) rfl ?_
                        refine QJ.step (YldS.yld (y_assign rfl)) rfl ?_
                        refine QJ.done ?_
                        exact PJ.round (w64 (j115 + 1)) [0, 1, 2, 3, 4, 5, 6] hm ⟨rfl, rfl, rfl, rfl, rfl, rfl, rfl, rfl, rfl, rfl, trivial⟩ ⟨by decide, rfl⟩
                    · replace hm := ifF hm hb125
                      refine WJ.exit ?_
                      refine PJ.then_exit (PJ.then_exit (PJ.block_exit (PJ.block_normal ?_)))
                      exact PJ.joined () [0, 1, 2, 3, 4, 5, 6] hm ⟨rfl, rfl, rfl, rfl, rfl, rfl, rfl, rfl, rfl, trivial⟩ ⟨by decide, rfl⟩
              · rintro _ hm
                subst hk109
                refine WJ.quiet ?_
                refine QJ.step (YldS.yld (y_move rfl)) rfl ?_
                refine QJ.step (YldS.yld (y_bin rfl rfl rfl)) rfl ?_
                refine QJ.step (YldS.yld (y_assign rfl)) rfl ?_
                refine QJ.done ?_
                exact PJ.round (w64 (i106 + 1)) [0, 1, 2, 3, 4, 5, 6] hm ⟨rfl, rfl, rfl, rfl, rfl, rfl, rfl, rfl, rfl, trivial⟩ ⟨by decide, rfl⟩
            · replace hm := ifF hm hb107
              refine WJ.exit ?_
              refine PJ.then_exit (PJ.then_exit (PJ.block_exit ?_))
              exact PJ.joined () [4, 5, 6] hm ⟨rfl, rfl, rfl, rfl, rfl, trivial⟩ ⟨by decide, rfl⟩
        · replace hm := ifF hm hb105
          refine WJ.skip ?_
          exact PJ.joined () [11, 13, 14] hm ⟨rfl, rfl, rfl, rfl, rfl, trivial⟩ ⟨by decide, rfl⟩
      · rintro _ hm
        subst hk104
        refine WJ.seq ?_
        refine WJ.seq ?_
        refine WJ.quiet ?_
        refine QJ.step (YldS.yld (y_move rfl)) rfl ?_
        refine QJ.step (YldS.yld (y_bin rfl rfl rfl)) rfl ?_
        refine QJ.step (YldS.yld (y_move rfl)) rfl ?_
        obtain ⟨t140, h141, hm⟩ := bindS hm
        refine QJ.cut 6 [(3, v9), (5, .int .i64 r11.2), (6, v16), (233, .bool t140)] ?_ ?_
        · rcases Bool.eq_false_or_eq_true (r17.2 == 0) with hb142 | hb142
          · replace h141 := andT h141 hb142
            refine QJ.on rfl rfl (cB hb142) (YldS.yld (y_move rfl)) rfl ?_
            refine QJ.on rfl rfl (cB hb142) (YldS.yld (y_bin rfl rfl rfl)) rfl ?_
            refine QJ.on rfl rfl (cB hb142) (YldS.yld (y_move rfl)) rfl ?_
            refine QJ.on rfl rfl (cB hb142) (YldS.yld (y_bin rfl rfl rfl)) rfl ?_
            refine QJ.on rfl rfl (cB hb142) (YldS.yld (y_neB Tryd.underlying4 rfl rfl rfl)) rfl ?_
            refine QJ.step (YldS.yld (y_pick_t (cB hb142) rfl)) rfl ?_
            obtain rfl := Option.some.inj h141
            exact QJ.cut_end ⟨rfl, rfl, rfl, rfl, trivial⟩
          · obtain rfl := andF h141 hb142
            refine QJ.off rfl rfl (cB hb142) rfl rfl ?_
            refine QJ.off rfl rfl (cB hb142) rfl rfl ?_
            refine QJ.off rfl rfl (cB hb142) rfl rfl ?_
            refine QJ.off rfl rfl (cB hb142) rfl rfl ?_
            refine QJ.off rfl rfl (cB hb142) rfl rfl ?_
            refine QJ.step (YldS.yld (y_pick_f (cB hb142) rfl)) rfl ?_
            exact QJ.cut_end ⟨rfl, rfl, rfl, rfl, trivial⟩
        refine QJ.done ?_
        refine PJ.next ?_
        refine WJ.cond (t := t140) rfl (fun hb143 => ?_) (fun hb143 => ?_)
        · replace hm := ifT hm hb143
          refine WJ.seq ?_
          refine WJ.quiet ?_
          refine QJ.step (YldS.yld (y_assign rfl)) rfl ?_
          refine QJ.done ?_
          refine PJ.next ?_
          refine WJ.ret ?_
          refine PJ.then_ret ?_
          obtain rfl := Option.some.inj hm
          refine PJ.sel (L' := []) [] ⟨List.nodup_nil, rfl⟩ ?_
          exact PJ.retn (vs := [.bool false]) Tryd.results3 ⟨rfl, trivial⟩ ⟨rfl, rfl⟩
        · replace hm := ifF hm hb143
          refine WJ.skip ?_
          refine PJ.next ?_
          refine WJ.seq ?_
          refine WJ.seq ?_
          refine WJ.quiet ?_
          refine QJ.step (YldS.yld (y_move rfl)) rfl ?_
          refine QJ.step (YldS.yld (y_bin rfl rfl rfl)) rfl ?_
          refine QJ.done ?_
          refine PJ.next ?_
          refine WJ.cond (t := (r11.2 != 0)) rfl (fun hb144 => ?_) (fun hb144 => ?_)
          · replace hm := ifT hm hb144
            refine WJ.seq ?_
            refine WJ.quiet ?_
            refine QJ.step (YldS.yld (y_assign rfl)) rfl ?_
            refine QJ.done ?_
            refine PJ.next ?_
            refine WJ.ret ?_
            refine PJ.then_ret ?_
            obtain rfl := Option.some.inj hm
            refine PJ.sel (L' := []) [] ⟨List.nodup_nil, rfl⟩ ?_
            exact PJ.retn (vs := [.bool true]) Tryd.results3 ⟨rfl, trivial⟩ ⟨rfl, rfl⟩
          · replace hm := ifF hm hb144
            refine WJ.skip ?_
            refine PJ.next ?_
            obtain ⟨kj145, hk146, hm⟩ := withK_open hm
            refine WJ.join (X := Unit) (fun (_ : Unit) => kj145  = some r) (fun (_ : Unit) => [(3, v9), (6, v16)]) (fun (_ : Unit) => [row v16 2 fI64 r14.1, row v9 47 fRaw4 vs10, ins shLesson 2 fI64 vs10 r7]) ?_ ?_
            · clear hk146
              refine WJ.seq ?_
              refine WJ.quiet ?_
              refine QJ.step (YldS.yld (y_assign rfl)) rfl ?_
              refine QJ.done ?_
              refine PJ.next ?_
              refine WJ.block ?_
              refine WJ.sel (L' := (fun (x : Int) => [row v16 2 fI64 r14.1, row v9 47 fRaw4 vs10, ins shLesson 2 fI64 vs10 r7]) 0) [0, 1, 2] ⟨by decide, rfl⟩ ?_
              refine WJ.sub (m' := (fun (x : Int) => [(3, v9), (6, v16), (32, .int .i64 x)]) 0) ⟨rfl, rfl, rfl, trivial⟩ ?_
              refine WJ.loop (X := Int) (fun N (x : Int) => w_FnLessonOrders_l3 kj145 r7 r14 N x = some r) (fun (x : Int) => [(3, v9), (6, v16), (32, .int .i64 x)]) (fun (x : Int) => [row v16 2 fI64 r14.1, row v9 47 fRaw4 vs10, ins shLesson 2 fI64 vs10 r7]) ?_ N 0 hm
              · rintro N i147 hI
                have hm := hI; clear hI
                cases N with
                | zero => cases hm
                | succ N =>
                unfold w_FnLessonOrders_l3 at hm
                refine WJ.seq ?_
                refine WJ.seq ?_
                refine WJ.quiet ?_
                refine QJ.step (YldS.yld (y_move rfl)) rfl ?_
                refine QJ.step (YldS.yld (y_move rfl)) rfl ?_
                refine QJ.step (YldS.yld (y_lenRow (k := 0) rfl Tryd.runUnderlying26 rfl)) rfl ?_
                refine QJ.step (YldS.yld (y_bin rfl rfl rfl)) rfl ?_
                refine QJ.done ?_
                refine PJ.next ?_
                refine WJ.cond (t := decide (i147 < (List.length r14.1 : Int))) rfl (fun hb148 => ?_) (fun hb148 => ?_)
                · replace hm := ifT hm hb148
                  refine WJ.skip ?_
                  refine PJ.next ?_
                  obtain ⟨kj149, hk150, hm⟩ := withK_open hm
                  refine WJ.join (X := Unit) (fun (_ : Unit) => kj149  = some r) (fun (_ : Unit) => [(3, v9), (6, v16), (32, .int .i64 i147)]) (fun (_ : Unit) => [row v16 2 fI64 r14.1, row v9 47 fRaw4 vs10, ins shLesson 2 fI64 vs10 r7]) ?_ ?_
                  · clear hk150
                    refine WJ.block ?_
                    refine WJ.seq ?_
                    refine WJ.seq ?_
                    refine WJ.quiet_draw follows (by kernel_rfl) ?_
                    refine QJ.step (YldS.yld (y_move rfl)) rfl ?_
                    refine QJ.step (YldS.yld (y_move rfl)) rfl ?_
                    obtain ⟨l151, h152, hm⟩ := bindS hm
                    refine QJ.step (YldS.yld (y_slcRow (i := none) (j := some i147) (k := 0) h152 rfl Tryd.runUnderlying26 Tryd.sizeOf2 rfl trivial ⟨_, rfl⟩)) rfl ?_
                    refine QJ.step (YldS.yld (y_move rfl)) rfl ?_
                    refine QJ.step (YldS.yld (y_move rfl)) rfl ?_
                    obtain ⟨e153, h154, hm⟩ := bindS hm
                    refine QJ.step (YldS.yld (y_ixRow (k := 0) (R := fI64) rfl Tryd.runUnderlying26 Tryd.sizeOf2 rfl rfl h154)) rfl ?_
                    refine QJ.step (YldS.yld (y_loadR (k := 0) (i := (Int.toNat i147)) (off := 0) (u := .int .i64 e153) rfl Tryd.isAgg2 rfl (idx_get h154) rfl)) rfl ?_
                    obtain ⟨r155, h156, hm⟩ := bindS hm
                    refine QJ.step (y_call Tryd.call27 rfl (RetG.quiet fun w hw => ok_w_f6has h156 w _ (hw.slc_rd (k := 0) (i := none) (j := some i147) rfl h152))) rfl ?_
                    refine QJ.done ?_
                    refine PJ.next ?_
                    refine WJ.cond (t := r155) rfl (fun hb157 => ?_) (fun hb157 => ?_)
                    · replace hm := ifT hm hb157
                      refine WJ.seq ?_
                      refine WJ.quiet ?_
                      refine QJ.step (YldS.yld (y_assign rfl)) rfl ?_
                      refine QJ.done ?_
                      refine PJ.next ?_
                      refine WJ.ret ?_
                      refine PJ.then_ret (PJ.block_ret (PJ.then_ret (PJ.then_ret (PJ.block_ret (PJ.then_ret ?_)))))
                      obtain rfl := Option.some.inj hm
                      refine PJ.sel (L' := []) [] ⟨List.nodup_nil, rfl⟩ ?_
                      exact PJ.retn (vs := [.bool false]) Tryd.results3 ⟨rfl, trivial⟩ ⟨rfl, rfl⟩
                    · replace hm := ifF hm hb157
                      refine WJ.skip ?_
                      refine PJ.next ?_
                      refine WJ.seq ?_
                      refine WJ.quiet ?_
                      refine QJ.step (YldS.yld (y_assign rfl)) rfl ?_
                      refine QJ.done ?_
                      refine PJ.next ?_
                      refine WJ.block ?_
                      refine WJ.sel (L' := (fun (x : Int) => [row v16 2 fI64 r14.1, row v9 47 fRaw4 vs10, ins shLesson 2 fI64 vs10 r7]) 0) [0, 1, 2] ⟨by decide, rfl⟩ ?_
                      refine WJ.sub (m' := (fun (x : Int) => [(3, v9), (6, v16), (32, .int .i64 i147), (33, .int .i64 x)]) 0) ⟨rfl, rfl, rfl, rfl, trivial⟩ ?_
                      refine WJ.loop (X := Int) (fun N (x : Int) => w_FnLessonOrders_l4 kj149 r7 r14 i147 N x = some r) (fun (x : Int) => [(3, v9), (6, v16), (32, .int .i64 i147), (33, .int .i64 x)]) (fun (x : Int) => [row v16 2 fI64 r14.1, row v9 47 fRaw4 vs10, ins shLesson 2 fI64 vs10 r7]) ?_ N 0 hm
                      · rintro N j158 hI
                        have hm := hI; clear hI
                        cases N with
                        | zero => cases hm
                        | succ N =>
                        unfold w_FnLessonOrders_l4 at hm
                        refine WJ.seq ?_
                        refine WJ.seq ?_
                        refine WJ.ins_len 2 rfl fun hl159 => ?_
                        refine WJ.quiet ?_
                        refine QJ.step (YldS.yld (y_move rfl)) rfl ?_
                        refine QJ.step (YldS.yld (y_move rfl)) rfl ?_
                        refine QJ.step (YldS.yld (y_move rfl)) rfl ?_
                        refine QJ.step (YldS.yld (y_move rfl)) rfl ?_
                        obtain ⟨e160, h161, hm⟩ := bindS hm
                        refine QJ.step (YldS.yld (y_ixRow (k := 0) (R := fI64) rfl Tryd.runUnderlying26 Tryd.sizeOf2 rfl rfl h161)) rfl ?_
                        refine QJ.step (YldS.yld (y_loadR (k := 0) (i := (Int.toNat i147)) (off := 0) (u := .int .i64 e160) rfl Tryd.isAgg2 rfl (idx_get h161) rfl)) rfl ?_
                        obtain ⟨e162, h163, hm⟩ := bindS hm
                        obtain ⟨y164, hy165⟩ := inn_idx hl159.1 h163
                        obtain hs166 := hl159.2 _ _ _ hy165 h163
                        refine QJ.step (YldS.yld (y_ixRow (k := 1) (R := fRaw4) rfl Tryd.runUnderlying24 Tryd.sizeOf47 rfl rfl hy165)) rfl ?_
                        refine QJ.step (YldS.yld (y_fldR fld47_2 rfl)) rfl ?_
                        refine QJ.step (YldS.yld (y_loadR (k := 1) (i := (Int.toNat e160)) (off := 2) (u := (shLesson.sl y164)) rfl Tryd.isAgg26 rfl (idx_get hy165) (sh_cell hs166 rfl))) rfl ?_
                        refine QJ.step (YldS.yld (y_lenG (fun w hw => (hw.ins_rd (k := 2) rfl rfl hy165 h163)) Tryd.runUnderlying26 rfl)) rfl ?_
                        refine QJ.step (YldS.yld (y_bin rfl rfl rfl)) rfl ?_
                        refine QJ.done ?_
                        refine PJ.next ?_
                        refine WJ.cond (t := decide (j158 < (List.length e162.needs : Int))) rfl (fun hb167 => ?_) (fun hb167 => ?_)
                        · replace hm := ifT hm hb167
                          refine WJ.skip ?_
                          refine PJ.next ?_
                          refine WJ.seq ?_
                          refine WJ.block ?_
                          refine WJ.seq ?_
                          refine WJ.ins_len 2 rfl fun hl168 => ?_
                          refine WJ.quiet_draw follows (by kernel_rfl) ?_
                          refine QJ.step (YldS.yld (y_move rfl)) rfl ?_
                          refine QJ.step (YldS.yld (y_move rfl)) rfl ?_
                          obtain ⟨l169, h170, hm⟩ := bindS hm
                          refine QJ.step (YldS.yld (y_slcRow (i := none) (j := some i147) (k := 0) h170 rfl Tryd.runUnderlying26 Tryd.sizeOf2 rfl trivial ⟨_, rfl⟩)) rfl ?_
                          refine QJ.step (YldS.yld (y_move rfl)) rfl ?_
                          refine QJ.step (YldS.yld (y_move rfl)) rfl ?_
                          refine QJ.step (YldS.yld (y_move rfl)) rfl ?_
                          obtain ⟨e171, h172, hm⟩ := bindS hm
                          refine QJ.step (YldS.yld (y_ixRow (k := 0) (R := fI64) rfl Tryd.runUnderlying26 Tryd.sizeOf2 rfl rfl h172)) rfl ?_
                          refine QJ.step (YldS.yld (y_loadR (k := 0) (i := (Int.toNat i147)) (off := 0) (u := .int .i64 e171) rfl Tryd.isAgg2 rfl (idx_get h172) rfl)) rfl ?_
                          obtain ⟨e173, h174, hm⟩ := bindS hm
                          obtain ⟨y175, hy176⟩ := inn_idx hl168.1 h174
                          obtain hs177 := hl168.2 _ _ _ hy176 h174
                          refine QJ.step (YldS.yld (y_ixRow (k := 1) (R := fRaw4) rfl Tryd.runUnderlying24 Tryd.sizeOf47 rfl rfl hy176)) rfl ?_
                          refine QJ.step (YldS.yld (y_fldR fld47_2 rfl)) rfl ?_
                          refine QJ.step (YldS.yld (y_loadR (k := 1) (i := (Int.toNat e171)) (off := 2) (u := (shLesson.sl y175)) rfl Tryd.isAgg26 rfl (idx_get hy176) (sh_cell hs177 rfl))) rfl ?_
                          refine QJ.step (YldS.yld (y_move rfl)) rfl ?_
                          obtain ⟨e178, h179, hm⟩ := bindS hm
                          refine QJ.step (YldS.yld (y_ixG (R := fI64) (fun w hw => (hw.ins_rd (k := 2) rfl rfl hy176 h174)) Tryd.runUnderlying26 Tryd.sizeOf2 rfl rfl h179)) rfl ?_
                          refine QJ.step (YldS.yld (y_loadG (R := fI64) (i := (Int.toNat j158)) (off := 0) (fun w hw => (hw.ins_rd (k := 2) rfl rfl hy176 h174)) Tryd.isAgg2 rfl (idx_get h179) rfl)) rfl ?_
                          obtain ⟨r180, h181, hm⟩ := bindS hm
                          refine QJ.step (y_call Tryd.call27 rfl (RetG.quiet fun w hw => ok_w_f6has h181 w _ (hw.slc_rd (k := 0) (i := none) (j := some i147) rfl h170))) rfl ?_
                          refine QJ.step (YldS.yld (y_not rfl)) rfl ?_
                          refine QJ.done ?_
                          refine PJ.next ?_
                          refine WJ.cond (t := !r180) rfl (fun hb182 => ?_) (fun hb182 => ?_)
                          · replace hm := ifT hm hb182
                            refine WJ.seq ?_
                            refine WJ.quiet ?_
                            refine QJ.step (YldS.yld (y_assign rfl)) rfl ?_
                            refine QJ.done ?_
                            refine PJ.next ?_
                            refine WJ.ret ?_
                            refine PJ.block_ret (PJ.then_ret (PJ.then_ret (PJ.block_ret (PJ.block_ret (PJ.then_ret (PJ.then_ret (PJ.block_ret (PJ.then_ret ?_))))))))
                            obtain rfl := Option.some.inj hm
                            refine PJ.sel (L' := []) [] ⟨List.nodup_nil, rfl⟩ ?_
                            exact PJ.retn (vs := [.bool false]) Tryd.results3 ⟨rfl, trivial⟩ ⟨rfl, rfl⟩
                          · replace hm := ifF hm hb182
                            refine WJ.skip ?_
                            refine PJ.block_normal (PJ.next ?_)
                            refine WJ.quiet ?_
                            refine QJ.step (YldS.yld (y_move rfl)) rfl ?_
                            refine QJ.step (YldS.yld (y_bin rfl rfl rfl)) rfl ?_
                            refine QJ.step (YldS.yld (y_assign rfl)) rfl ?_
                            refine QJ.done ?_
                            exact PJ.round (w64 (j158 + 1)) [0, 1, 2] hm ⟨rfl, rfl, rfl, rfl, trivial⟩ ⟨by decide, rfl⟩
                        · replace hm := ifF hm hb167
                          refine WJ.exit ?_
                          refine PJ.then_exit (PJ.then_exit (PJ.block_exit (PJ.block_normal ?_)))
                          exact PJ.joined () [0, 1, 2] hm ⟨rfl, rfl, rfl, trivial⟩ ⟨by decide, rfl⟩
                  · rintro _ hm
                    subst hk150
                    refine WJ.quiet ?_
                    refine QJ.step (YldS.yld (y_move rfl)) rfl ?_
                    refine QJ.step (YldS.yld (y_bin rfl rfl rfl)) rfl ?_
                    refine QJ.step (YldS.yld (y_assign rfl)) rfl ?_
                    refine QJ.done ?_
                    exact PJ.round (w64 (i147 + 1)) [0, 1, 2] hm ⟨rfl, rfl, rfl, trivial⟩ ⟨by decide, rfl⟩
                · replace hm := ifF hm hb148
                  refine WJ.exit ?_
                  refine PJ.then_exit (PJ.then_exit (PJ.block_exit ?_))
                  exact PJ.joined () [0, 1, 2] hm ⟨rfl, rfl, trivial⟩ ⟨by decide, rfl⟩
            · rintro _ hm
              subst hk146
              refine WJ.seq ?_
              refine WJ.quiet ?_
              refine QJ.step (YldS.yld (y_move rfl)) rfl ?_
              refine QJ.step (YldS.yld (y_lenRow (k := 0) rfl Tryd.runUnderlying26 rfl)) rfl ?_
              refine QJ.step (YldS.yld (y_move rfl)) rfl ?_
              refine QJ.step (YldS.yld (y_lenSh (k := 1) (j := 2) rfl rfl Tryd.runUnderlying24 rfl)) rfl ?_
              refine QJ.step (YldS.yld (y_bin rfl rfl rfl)) rfl ?_
              refine QJ.step (YldS.yld (y_assign rfl)) rfl ?_
              refine QJ.done ?_
              refine PJ.next ?_
              refine WJ.ret ?_
              obtain rfl := Option.some.inj hm
              refine PJ.sel (L' := []) [] ⟨List.nodup_nil, rfl⟩ ?_
              exact PJ.retn (vs := [.bool ((List.length r14.1 : Int) == (List.length r7 : Int))]) Tryd.results3 ⟨rfl, trivial⟩ ⟨rfl, rfl⟩

end Go.Proofs.YtbgngihmpdneaaaDoor
