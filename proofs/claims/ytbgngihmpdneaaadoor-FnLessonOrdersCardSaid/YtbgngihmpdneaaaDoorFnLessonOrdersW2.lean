/-
  The walks: a call hands back what its plain function computes, where that has a value. No other conditions.
-/
import Derived.Test.YtbgngihmpdneaaaDoorFnLessonOrdersW
import Derived.Test.YtbgngihmpdneaaaDoorChecked
namespace Go.Proofs.YtbgngihmpdneaaaDoor
open Go.RowKit Go.Proofs
set_option linter.unusedVariables false
set_option linter.unusedSimpArgs false

set_option maxRecDepth 100000 in
set_option maxHeartbeats 1000000 in
theorem ok_s_l00Rises {N : Nat} {list1 : List Int} {low4 : Int} {high5 : Int} {r : Bool} (hm : s_l00Rises N list1 low4 high5 = some r) (w : World) (v2 : Value) (hr3 : RdS w (cx w).Fz v2 fI64.rp list1) :
    Calls Tryd.prog 96 #[v2, .int .i64 low4, .int .i64 high5] w (Ret (cx w) (.bool r)) := by
  unfold s_l00Rises at hm
  refine Calls.enter [v2, .int .i64 low4, .int .i64 high5] Tryd.func96 rfl Tryd.ntmps96 rfl ?_
  refine WJ.seq ?_
  refine WJ.quiet ?_
  refine QJ.step (YldS.yld (y_assign rfl)) rfl ?_
  refine QJ.done ?_
  refine PJ.next ?_
  obtain ⟨kj6, hk7, hm⟩ := withK_open hm
  refine WJ.join (X := Unit) (fun (_ : Unit) => kj6  = some r) (fun (_ : Unit) => []) (fun (_ : Unit) => []) ?_ ?_
  · clear hk7
    refine WJ.seq ?_
    refine WJ.quiet ?_
    refine QJ.step (YldS.yld (y_assign rfl)) rfl ?_
    refine QJ.done ?_
    refine PJ.next ?_
    refine WJ.block ?_
    refine WJ.sel (L' := (fun (x : Int) => []) 0) [] ⟨List.nodup_nil, rfl⟩ ?_
    refine WJ.sub (m' := (fun (x : Int) => [(0, v2), (1, .int .i64 low4), (2, .int .i64 high5), (7, .int .i64 x)]) 0) ⟨rfl, rfl, rfl, rfl, trivial⟩ ?_
    refine WJ.loop (X := Int) (fun N (x : Int) => s_l00Rises_l1 kj6 list1 low4 high5 N x = some r) (fun (x : Int) => [(0, v2), (1, .int .i64 low4), (2, .int .i64 high5), (7, .int .i64 x)]) (fun (x : Int) => []) ?_ N 0 hm
    · rintro N i8 hI
      have hm := hI; clear hI
      cases N with
      | zero => cases hm
      | succ N =>
      unfold s_l00Rises_l1 at hm
      refine WJ.seq ?_
      refine WJ.seq ?_
      refine WJ.quiet ?_
      refine QJ.step (YldS.yld (y_move rfl)) rfl ?_
      refine QJ.step (YldS.yld (y_move rfl)) rfl ?_
      refine QJ.step (YldS.yld (y_lenS Tryd.runUnderlying26 hr3 rfl)) rfl ?_
      refine QJ.step (YldS.yld (y_bin rfl rfl rfl)) rfl ?_
      refine QJ.done ?_
      refine PJ.next ?_
      refine WJ.cond (t := decide (i8 < (List.length list1 : Int))) rfl (fun hb9 => ?_) (fun hb9 => ?_)
      · replace hm := ifT hm hb9
        refine WJ.skip ?_
        refine PJ.next ?_
        refine WJ.seq ?_
        refine WJ.block ?_
        refine WJ.seq ?_
        refine WJ.quiet_draw follows (by kernel_rfl) ?_
        refine QJ.step (YldS.yld (y_move rfl)) rfl ?_
        refine QJ.step (YldS.yld (y_move rfl)) rfl ?_
        obtain ⟨e10, h11, hm⟩ := bindS hm
        obtain ⟨ad12, _, rfl, ha13, hy14⟩ := hr3.elem h11
        refine QJ.step (YldS.yld (hy14 Tryd.runUnderlying26 Tryd.sizeOf2 rfl rfl)) rfl ?_
        refine QJ.step (YldS.yld (y_load1 (v := .int .i64 e10) Tryd.isAgg2 ha13 St.frozenC rfl)) rfl ?_
        refine QJ.step (YldS.yld (y_move rfl)) rfl ?_
        refine QJ.step (YldS.yld (y_move rfl)) rfl ?_
        obtain ⟨r15, h16, hm⟩ := bindS hm
        refine QJ.step (y_call Tryd.call73 rfl (RetG.quiet fun w hw => ok_s_l00In h16 w )) rfl ?_
        refine QJ.step (YldS.yld (y_not rfl)) rfl ?_
        refine QJ.step (YldS.yld (y_move rfl)) rfl ?_
        obtain ⟨t17, h18, hm⟩ := bindS hm
        refine QJ.cut 15 [(0, v2), (1, .int .i64 low4), (2, .int .i64 high5), (7, .int .i64 i8), (37, .bool t17)] ?_ ?_
        · rcases Bool.eq_false_or_eq_true (!r15) with hb19 | hb19
          · obtain rfl := orT h18 hb19
            refine QJ.off rfl rfl (cB hb19) rfl rfl ?_
            refine QJ.off rfl rfl (cB hb19) rfl rfl ?_
            refine QJ.off rfl rfl (cB hb19) rfl rfl ?_
            refine QJ.off_undef rfl rfl rfl rfl ?_
            refine QJ.off_undef rfl rfl rfl rfl ?_
            refine QJ.off_undef rfl rfl rfl rfl ?_
            refine QJ.off_undef rfl rfl rfl rfl ?_
            refine QJ.off_undef rfl rfl rfl rfl ?_
            refine QJ.off_undef rfl rfl rfl rfl ?_
            refine QJ.off_undef rfl rfl rfl rfl ?_
            refine QJ.off_undef rfl rfl rfl rfl ?_
            refine QJ.off_undef rfl rfl rfl rfl ?_
            refine QJ.off_undef rfl rfl rfl rfl ?_
            refine QJ.off rfl rfl (cB hb19) rfl rfl ?_
            refine QJ.step (YldS.yld (y_pick_t (cB hb19) rfl)) rfl ?_
            exact QJ.cut_end ⟨rfl, rfl, rfl, rfl, rfl, trivial⟩
          · replace h18 := orF h18 hb19
            refine QJ.on rfl rfl (cB hb19) (YldS.yld (y_move rfl)) rfl ?_
            refine QJ.on rfl rfl (cB hb19) (YldS.yld (y_bin rfl rfl rfl)) rfl ?_
            refine QJ.on rfl rfl (cB hb19) (YldS.yld (y_move rfl)) rfl ?_
            obtain ⟨t20, h21, h18⟩ := bindS h18
            refine QJ.cut 11 [(0, v2), (1, .int .i64 low4), (2, .int .i64 high5), (7, .int .i64 i8), (22, .bool (!r15)), (36, .bool t20)] ?_ ?_
            · rcases Bool.eq_false_or_eq_true (decide (i8 > 0)) with hb22 | hb22
              · replace h21 := andT h21 hb22
                refine QJ.on rfl rfl (cB hb22) (YldS.yld (y_move rfl)) rfl ?_
                refine QJ.on rfl rfl (cB hb22) (YldS.yld (y_move rfl)) rfl ?_
                refine QJ.on rfl rfl (cB hb22) (YldS.yld (y_bin rfl rfl rfl)) rfl ?_
                obtain ⟨e23, h24, h21⟩ := bindS h21
                obtain ⟨ad25, _, rfl, ha26, hy27⟩ := hr3.elem h24
                refine QJ.on rfl rfl (cB hb22) (YldS.yld (hy27 Tryd.runUnderlying26 Tryd.sizeOf2 rfl rfl)) rfl ?_
                refine QJ.on rfl rfl (cB hb22) (YldS.yld (y_load1 (v := .int .i64 e23) Tryd.isAgg2 ha26 St.frozenC rfl)) rfl ?_
                refine QJ.on rfl rfl (cB hb22) (YldS.yld (y_move rfl)) rfl ?_
                refine QJ.on rfl rfl (cB hb22) (YldS.yld (y_move rfl)) rfl ?_
                obtain ⟨e28, h29, h21⟩ := bindS h21
                obtain ⟨ad30, _, rfl, ha31, hy32⟩ := hr3.elem h29
                refine QJ.on rfl rfl (cB hb22) (YldS.yld (hy32 Tryd.runUnderlying26 Tryd.sizeOf2 rfl rfl)) rfl ?_
                refine QJ.on rfl rfl (cB hb22) (YldS.yld (y_load1 (v := .int .i64 e28) Tryd.isAgg2 ha31 St.frozenC rfl)) rfl ?_
                refine QJ.on rfl rfl (cB hb22) (YldS.yld (y_bin rfl rfl rfl)) rfl ?_
                refine QJ.on rfl rfl (cB hb19) (YldS.yld (y_pick_t (cB hb22) rfl)) rfl ?_
                obtain rfl := Option.some.inj h21
                exact QJ.cut_end ⟨rfl, rfl, rfl, rfl, rfl, rfl, trivial⟩
              · obtain rfl := andF h21 hb22
                refine QJ.off rfl rfl (cB hb22) rfl rfl ?_
                refine QJ.off rfl rfl (cB hb22) rfl rfl ?_
                refine QJ.off rfl rfl (cB hb22) rfl rfl ?_
                refine QJ.off rfl rfl (cB hb22) rfl rfl ?_
                refine QJ.off rfl rfl (cB hb22) rfl rfl ?_
                refine QJ.off rfl rfl (cB hb22) rfl rfl ?_
                refine QJ.off rfl rfl (cB hb22) rfl rfl ?_
                refine QJ.off rfl rfl (cB hb22) rfl rfl ?_
                refine QJ.off rfl rfl (cB hb22) rfl rfl ?_
                refine QJ.off rfl rfl (cB hb22) rfl rfl ?_
                refine QJ.on rfl rfl (cB hb19) (YldS.yld (y_pick_f (cB hb22) rfl)) rfl ?_
                exact QJ.cut_end ⟨rfl, rfl, rfl, rfl, rfl, rfl, trivial⟩
            refine QJ.step (YldS.yld (y_pick_f (cB hb19) rfl)) rfl ?_
            obtain rfl := Option.some.inj h18
            exact QJ.cut_end ⟨rfl, rfl, rfl, rfl, rfl, trivial⟩
        refine QJ.done ?_
        refine PJ.next ?_
        refine WJ.cond (t := t17) rfl (fun hb33 => ?_) (fun hb33 => ?_)
        · replace hm := ifT hm hb33
          refine WJ.seq ?_
          refine WJ.quiet ?_
          refine QJ.step (YldS.yld (y_assign rfl)) rfl ?_
          refine QJ.done ?_
          refine PJ.next ?_
          refine WJ.ret ?_
          refine PJ.block_ret (PJ.then_ret (PJ.then_ret (PJ.block_ret (PJ.then_ret ?_))))
          obtain rfl := Option.some.inj hm
          refine PJ.sel (L' := []) [] ⟨List.nodup_nil, rfl⟩ ?_
          exact PJ.retn (vs := [.bool false]) Tryd.results96 ⟨rfl, trivial⟩ ⟨rfl, rfl⟩
        · replace hm := ifF hm hb33
          refine WJ.skip ?_
          refine PJ.block_normal (PJ.next ?_)
          refine WJ.quiet ?_
          refine QJ.step (YldS.yld (y_move rfl)) rfl ?_
          refine QJ.step (YldS.yld (y_bin rfl rfl rfl)) rfl ?_
          refine QJ.step (YldS.yld (y_assign rfl)) rfl ?_
          refine QJ.done ?_
          exact PJ.round (w64 (i8 + 1)) [] hm ⟨rfl, rfl, rfl, rfl, trivial⟩ ⟨List.nodup_nil, rfl⟩
      · replace hm := ifF hm hb9
        refine WJ.exit ?_
        refine PJ.then_exit (PJ.then_exit (PJ.block_exit ?_))
        exact PJ.joined () [] hm trivial ⟨List.nodup_nil, rfl⟩
  · rintro _ hm
    subst hk7
    refine WJ.seq ?_
    refine WJ.quiet ?_
    refine QJ.step (YldS.yld (y_assign rfl)) rfl ?_
    refine QJ.done ?_
    refine PJ.next ?_
    refine WJ.ret ?_
    obtain rfl := Option.some.inj hm
    refine PJ.sel (L' := []) [] ⟨List.nodup_nil, rfl⟩ ?_
    exact PJ.retn (vs := [.bool true]) Tryd.results96 ⟨rfl, trivial⟩ ⟨rfl, rfl⟩

set_option maxRecDepth 100000 in
set_option maxHeartbeats 1000000 in
theorem ok_s_l00Has {N : Nat} {list1 : List Int} {n4 : Int} {r : Bool} (hm : s_l00Has N list1 n4 = some r) (w : World) (v2 : Value) (hr3 : RdS w (cx w).Fz v2 fI64.rp list1) :
    Calls Tryd.prog 97 #[v2, .int .i64 n4] w (Ret (cx w) (.bool r)) := by
  unfold s_l00Has at hm
  refine Calls.enter [v2, .int .i64 n4] Tryd.func97 rfl Tryd.ntmps97 rfl ?_
  refine WJ.seq ?_
  refine WJ.quiet ?_
  refine QJ.step (YldS.yld (y_assign rfl)) rfl ?_
  refine QJ.done ?_
  refine PJ.next ?_
  obtain ⟨kj5, hk6, hm⟩ := withK_open hm
  refine WJ.join (X := Unit) (fun (_ : Unit) => kj5  = some r) (fun (_ : Unit) => []) (fun (_ : Unit) => []) ?_ ?_
  · clear hk6
    refine WJ.seq ?_
    refine WJ.quiet ?_
    refine QJ.step (YldS.yld (y_assign rfl)) rfl ?_
    refine QJ.done ?_
    refine PJ.next ?_
    refine WJ.block ?_
    refine WJ.sel (L' := (fun (x : Int) => []) 0) [] ⟨List.nodup_nil, rfl⟩ ?_
    refine WJ.sub (m' := (fun (x : Int) => [(0, v2), (1, .int .i64 n4), (5, .int .i64 x)]) 0) ⟨rfl, rfl, rfl, trivial⟩ ?_
    refine WJ.loop (X := Int) (fun N (x : Int) => s_l00Has_l1 kj5 list1 n4 N x = some r) (fun (x : Int) => [(0, v2), (1, .int .i64 n4), (5, .int .i64 x)]) (fun (x : Int) => []) ?_ N 0 hm
    · rintro N i7 hI
      have hm := hI; clear hI
      cases N with
      | zero => cases hm
      | succ N =>
      unfold s_l00Has_l1 at hm
      refine WJ.seq ?_
      refine WJ.seq ?_
      refine WJ.quiet ?_
      refine QJ.step (YldS.yld (y_move rfl)) rfl ?_
      refine QJ.step (YldS.yld (y_move rfl)) rfl ?_
      refine QJ.step (YldS.yld (y_lenS Tryd.runUnderlying26 hr3 rfl)) rfl ?_
      refine QJ.step (YldS.yld (y_bin rfl rfl rfl)) rfl ?_
      refine QJ.done ?_
      refine PJ.next ?_
      refine WJ.cond (t := decide (i7 < (List.length list1 : Int))) rfl (fun hb8 => ?_) (fun hb8 => ?_)
      · replace hm := ifT hm hb8
        refine WJ.skip ?_
        refine PJ.next ?_
        refine WJ.seq ?_
        refine WJ.block ?_
        refine WJ.seq ?_
        refine WJ.quiet ?_
        refine QJ.step (YldS.yld (y_move rfl)) rfl ?_
        refine QJ.step (YldS.yld (y_move rfl)) rfl ?_
        obtain ⟨e9, h10, hm⟩ := bindS hm
        obtain ⟨ad11, _, rfl, ha12, hy13⟩ := hr3.elem h10
        refine QJ.step (YldS.yld (hy13 Tryd.runUnderlying26 Tryd.sizeOf2 rfl rfl)) rfl ?_
        refine QJ.step (YldS.yld (y_load1 (v := .int .i64 e9) Tryd.isAgg2 ha12 St.frozenC rfl)) rfl ?_
        refine QJ.step (YldS.yld (y_move rfl)) rfl ?_
        refine QJ.step (YldS.yld (y_bin rfl rfl rfl)) rfl ?_
        refine QJ.done ?_
        refine PJ.next ?_
        refine WJ.cond (t := (e9 == n4)) rfl (fun hb14 => ?_) (fun hb14 => ?_)
        · replace hm := ifT hm hb14
          refine WJ.seq ?_
          refine WJ.quiet ?_
          refine QJ.step (YldS.yld (y_assign rfl)) rfl ?_
          refine QJ.done ?_
          refine PJ.next ?_
          refine WJ.ret ?_
          refine PJ.block_ret (PJ.then_ret (PJ.then_ret (PJ.block_ret (PJ.then_ret ?_))))
          obtain rfl := Option.some.inj hm
          refine PJ.sel (L' := []) [] ⟨List.nodup_nil, rfl⟩ ?_
          exact PJ.retn (vs := [.bool true]) Tryd.results97 ⟨rfl, trivial⟩ ⟨rfl, rfl⟩
        · replace hm := ifF hm hb14
          refine WJ.skip ?_
          refine PJ.block_normal (PJ.next ?_)
          refine WJ.quiet ?_
          refine QJ.step (YldS.yld (y_move rfl)) rfl ?_
          refine QJ.step (YldS.yld (y_bin rfl rfl rfl)) rfl ?_
          refine QJ.step (YldS.yld (y_assign rfl)) rfl ?_
          refine QJ.done ?_
          exact PJ.round (w64 (i7 + 1)) [] hm ⟨rfl, rfl, rfl, trivial⟩ ⟨List.nodup_nil, rfl⟩
      · replace hm := ifF hm hb8
        refine WJ.exit ?_
        refine PJ.then_exit (PJ.then_exit (PJ.block_exit ?_))
        exact PJ.joined () [] hm trivial ⟨List.nodup_nil, rfl⟩
  · rintro _ hm
    subst hk6
    refine WJ.seq ?_
    refine WJ.quiet ?_
    refine QJ.step (YldS.yld (y_assign rfl)) rfl ?_
    refine QJ.done ?_
    refine PJ.next ?_
    refine WJ.ret ?_
    obtain rfl := Option.some.inj hm
    refine PJ.sel (L' := []) [] ⟨List.nodup_nil, rfl⟩ ?_
    exact PJ.retn (vs := [.bool false]) Tryd.results97 ⟨rfl, trivial⟩ ⟨rfl, rfl⟩

set_option maxRecDepth 100000 in
set_option maxHeartbeats 1000000 in
theorem ok_s_l18Ok {N : Nat} {list1 : List Lesson} {r : Bool} (hm : s_l18Ok N list1 = some r) (w : World) (v2 : Value) (hr3 : RdS w (cx w).Fz v2 (shLesson.rp fI64.rp) list1) :
    Calls Tryd.prog 52 #[v2] w (Ret (cx w) (.bool r)) := by
  unfold s_l18Ok at hm
  refine Calls.enter [v2] Tryd.func52 rfl Tryd.ntmps52 rfl ?_
  refine WJ.seq ?_
  refine WJ.quiet ?_
  refine QJ.step (YldS.yld (y_assign rfl)) rfl ?_
  refine QJ.done ?_
  refine PJ.next ?_
  refine WJ.seq ?_
  refine WJ.quiet ?_
  refine QJ.step (YldS.yld (y_move rfl)) rfl ?_
  refine QJ.step (YldS.yld (y_lenS Tryd.runUnderlying24 hr3 rfl)) rfl ?_
  refine QJ.step (YldS.yld (y_assign rfl)) rfl ?_
  refine QJ.done ?_
  refine PJ.next ?_
  obtain ⟨kj4, hk5, hm⟩ := withK_open hm
  refine WJ.join (X := Unit) (fun (_ : Unit) => kj4  = some r) (fun (_ : Unit) => [(3, .int .i64 (List.length list1 : Int))]) (fun (_ : Unit) => []) ?_ ?_
  · clear hk5
    refine WJ.seq ?_
    refine WJ.quiet ?_
    refine QJ.step (YldS.yld (y_assign rfl)) rfl ?_
    refine QJ.done ?_
    refine PJ.next ?_
    refine WJ.block ?_
    refine WJ.sel (L' := (fun (x : Int) => []) 0) [] ⟨List.nodup_nil, rfl⟩ ?_
    refine WJ.sub (m' := (fun (x : Int) => [(0, v2), (3, .int .i64 (List.length list1 : Int)), (4, .int .i64 x)]) 0) ⟨rfl, rfl, rfl, trivial⟩ ?_
    refine WJ.loop (X := Int) (fun N (x : Int) => s_l18Ok_l1 kj4 list1 N x = some r) (fun (x : Int) => [(0, v2), (3, .int .i64 (List.length list1 : Int)), (4, .int .i64 x)]) (fun (x : Int) => []) ?_ N 0 hm
    · rintro N i6 hI
      have hm := hI; clear hI
      cases N with
      | zero => cases hm
      | succ N =>
      unfold s_l18Ok_l1 at hm
      refine WJ.seq ?_
      refine WJ.seq ?_
      refine WJ.quiet ?_
      refine QJ.step (YldS.yld (y_move rfl)) rfl ?_
      refine QJ.step (YldS.yld (y_move rfl)) rfl ?_
      refine QJ.step (YldS.yld (y_lenS Tryd.runUnderlying24 hr3 rfl)) rfl ?_
      refine QJ.step (YldS.yld (y_bin rfl rfl rfl)) rfl ?_
      refine QJ.done ?_
      refine PJ.next ?_
      refine WJ.cond (t := decide (i6 < (List.length list1 : Int))) rfl (fun hb7 => ?_) (fun hb7 => ?_)
      · replace hm := ifT hm hb7
        refine WJ.skip ?_
        refine PJ.next ?_
        obtain ⟨kj8, hk9, hm⟩ := withK_open hm
        refine WJ.join (X := Unit) (fun (_ : Unit) => kj8  = some r) (fun (_ : Unit) => [(0, v2), (3, .int .i64 (List.length list1 : Int)), (4, .int .i64 i6)]) (fun (_ : Unit) => []) ?_ ?_
        · clear hk9
          refine WJ.block ?_
          refine WJ.seq ?_
          refine WJ.quiet ?_
          refine QJ.step (YldS.yld (y_move rfl)) rfl ?_
          refine QJ.step (YldS.yld (y_move rfl)) rfl ?_
          obtain ⟨e10, h11, hm⟩ := bindS hm
          obtain ⟨ad12, _, ⟨v15, rfl, hr16⟩, ha13, hy14⟩ := hr3.elem h11
          refine QJ.step (YldS.yld (hy14 Tryd.runUnderlying24 Tryd.sizeOf47 rfl rfl)) rfl ?_
          refine QJ.step (YldS.yld (y_assign rfl)) rfl ?_
          refine QJ.done ?_
          refine PJ.next ?_
          refine WJ.seq ?_
          refine WJ.seq ?_
          refine WJ.quiet ?_
          refine QJ.step (YldS.yld (y_move rfl)) rfl ?_
          refine QJ.step (YldS.yld (y_nil rfl)) rfl ?_
          refine QJ.step (YldS.yld (y_fld (ad := ad12) fld47_0 rfl)) rfl ?_
          refine QJ.step (YldS.yld (y_load1 (v := str e10.name) Tryd.isAgg9 (ha13.sub 0 1) St.frozenC rfl)) rfl ?_
          obtain ⟨r17, h18, hm⟩ := bindS hm
          refine QJ.step (y_call Tryd.call94 rfl (RetG.quiet fun w hw => ok_s_IsName h18 w )) rfl ?_
          refine QJ.step (YldS.yld (y_not rfl)) rfl ?_
          refine QJ.step (YldS.yld (y_move rfl)) rfl ?_
          obtain ⟨t19, h20, hm⟩ := bindS hm
          refine QJ.cut 7 [(0, v2), (3, .int .i64 (List.length list1 : Int)), (4, .int .i64 i6), (5, .pointer (some ad12)), (32, .bool t19)] ?_ ?_
          · rcases Bool.eq_false_or_eq_true (!r17) with hb21 | hb21
            · obtain rfl := orT h20 hb21
              refine QJ.off rfl rfl (cB hb21) rfl rfl ?_
              refine QJ.off rfl rfl (cB hb21) rfl rfl ?_
              refine QJ.off rfl rfl (cB hb21) rfl rfl ?_
              refine QJ.off rfl rfl (cB hb21) rfl rfl ?_
              refine QJ.off rfl rfl (cB hb21) rfl rfl ?_
              refine QJ.off rfl rfl (cB hb21) rfl rfl ?_
              refine QJ.step (YldS.yld (y_pick_t (cB hb21) rfl)) rfl ?_
              exact QJ.cut_end ⟨rfl, rfl, rfl, rfl, rfl, trivial⟩
            · replace h20 := orF h20 hb21
              refine QJ.on rfl rfl (cB hb21) (YldS.yld (y_move rfl)) rfl ?_
              refine QJ.on rfl rfl (cB hb21) (YldS.yld (y_nil rfl)) rfl ?_
              refine QJ.on rfl rfl (cB hb21) (YldS.yld (y_fld (ad := ad12) fld47_1 rfl)) rfl ?_
              refine QJ.on rfl rfl (cB hb21) (YldS.yld (y_load1 (v := str e10.letters) Tryd.isAgg9 (ha13.sub 1 1) St.frozenC rfl)) rfl ?_
              obtain ⟨r22, h23, h20⟩ := bindS h20
              refine QJ.on rfl rfl (cB hb21) (y_call Tryd.call95 rfl (RetG.quiet fun w hw => ok_s_l02Text h23 w )) rfl ?_
              refine QJ.on rfl rfl (cB hb21) (YldS.yld (y_not rfl)) rfl ?_
              refine QJ.step (YldS.yld (y_pick_f (cB hb21) rfl)) rfl ?_
              obtain rfl := Option.some.inj h20
              exact QJ.cut_end ⟨rfl, rfl, rfl, rfl, rfl, trivial⟩
          refine QJ.step (YldS.yld (y_move rfl)) rfl ?_
          obtain ⟨t24, h25, hm⟩ := bindS hm
          refine QJ.cut 9 [(0, v2), (3, .int .i64 (List.length list1 : Int)), (4, .int .i64 i6), (5, .pointer (some ad12)), (42, .bool t24)] ?_ ?_
          · rcases Bool.eq_false_or_eq_true t19 with hb26 | hb26
            · obtain rfl := orT h25 hb26
              refine QJ.off rfl rfl (cB hb26) rfl rfl ?_
              refine QJ.off rfl rfl (cB hb26) rfl rfl ?_
              refine QJ.off rfl rfl (cB hb26) rfl rfl ?_
              refine QJ.off rfl rfl (cB hb26) rfl rfl ?_
              refine QJ.off rfl rfl (cB hb26) rfl rfl ?_
              refine QJ.off rfl rfl (cB hb26) rfl rfl ?_
              refine QJ.off rfl rfl (cB hb26) rfl rfl ?_
              refine QJ.off rfl rfl (cB hb26) rfl rfl ?_
              refine QJ.step (YldS.yld (y_pick_t (cB hb26) rfl)) rfl ?_
              exact QJ.cut_end ⟨rfl, rfl, rfl, rfl, rfl, trivial⟩
            · replace h25 := orF h25 hb26
              refine QJ.on rfl rfl (cB hb26) (YldS.yld (y_move rfl)) rfl ?_
              refine QJ.on rfl rfl (cB hb26) (YldS.yld (y_nil rfl)) rfl ?_
              refine QJ.on rfl rfl (cB hb26) (YldS.yld (y_fld (ad := ad12) fld47_2 rfl)) rfl ?_
              refine QJ.on rfl rfl (cB hb26) (YldS.yld (y_load1 (v := v15) Tryd.isAgg26 (ha13.sub 2 1) St.frozenC rfl)) rfl ?_
              refine QJ.on rfl rfl (cB hb26) (YldS.yld (y_move rfl)) rfl ?_
              refine QJ.on rfl rfl (cB hb26) (YldS.yld (y_bin rfl rfl rfl)) rfl ?_
              obtain ⟨r27, h28, h25⟩ := bindS h25
              refine QJ.on rfl rfl (cB hb26) (y_call Tryd.call96 rfl (RetG.quiet fun w hw => ok_s_l00Rises h28 w _ (hr16.st hw))) rfl ?_
              refine QJ.on rfl rfl (cB hb26) (YldS.yld (y_not rfl)) rfl ?_
              refine QJ.step (YldS.yld (y_pick_f (cB hb26) rfl)) rfl ?_
              obtain rfl := Option.some.inj h25
              exact QJ.cut_end ⟨rfl, rfl, rfl, rfl, rfl, trivial⟩
          refine QJ.step (YldS.yld (y_move rfl)) rfl ?_
          obtain ⟨t29, h30, hm⟩ := bindS hm
          refine QJ.cut 7 [(0, v2), (3, .int .i64 (List.length list1 : Int)), (4, .int .i64 i6), (5, .pointer (some ad12)), (50, .bool t29)] ?_ ?_
          · rcases Bool.eq_false_or_eq_true t24 with hb31 | hb31
            · obtain rfl := orT h30 hb31
              refine QJ.off rfl rfl (cB hb31) rfl rfl ?_
              refine QJ.off rfl rfl (cB hb31) rfl rfl ?_
              refine QJ.off rfl rfl (cB hb31) rfl rfl ?_
              refine QJ.off rfl rfl (cB hb31) rfl rfl ?_
              refine QJ.off rfl rfl (cB hb31) rfl rfl ?_
              refine QJ.off rfl rfl (cB hb31) rfl rfl ?_
              refine QJ.step (YldS.yld (y_pick_t (cB hb31) rfl)) rfl ?_
              exact QJ.cut_end ⟨rfl, rfl, rfl, rfl, rfl, trivial⟩
            · replace h30 := orF h30 hb31
              refine QJ.on rfl rfl (cB hb31) (YldS.yld (y_move rfl)) rfl ?_
              refine QJ.on rfl rfl (cB hb31) (YldS.yld (y_nil rfl)) rfl ?_
              refine QJ.on rfl rfl (cB hb31) (YldS.yld (y_fld (ad := ad12) fld47_2 rfl)) rfl ?_
              refine QJ.on rfl rfl (cB hb31) (YldS.yld (y_load1 (v := v15) Tryd.isAgg26 (ha13.sub 2 1) St.frozenC rfl)) rfl ?_
              refine QJ.on rfl rfl (cB hb31) (YldS.yld (y_move rfl)) rfl ?_
              obtain ⟨r32, h33, h30⟩ := bindS h30
              refine QJ.on rfl rfl (cB hb31) (y_call Tryd.call97 rfl (RetG.quiet fun w hw => ok_s_l00Has h33 w _ (hr16.st hw))) rfl ?_
              refine QJ.step (YldS.yld (y_pick_f (cB hb31) rfl)) rfl ?_
              obtain rfl := Option.some.inj h30
              exact QJ.cut_end ⟨rfl, rfl, rfl, rfl, rfl, trivial⟩
          refine QJ.step (YldS.yld (y_move rfl)) rfl ?_
          obtain ⟨t34, h35, hm⟩ := bindS hm
          refine QJ.cut 7 [(0, v2), (3, .int .i64 (List.length list1 : Int)), (4, .int .i64 i6), (5, .pointer (some ad12)), (58, .bool t34)] ?_ ?_
          · rcases Bool.eq_false_or_eq_true t29 with hb36 | hb36
            · obtain rfl := orT h35 hb36
              refine QJ.off rfl rfl (cB hb36) rfl rfl ?_
              refine QJ.off rfl rfl (cB hb36) rfl rfl ?_
              refine QJ.off rfl rfl (cB hb36) rfl rfl ?_
              refine QJ.off rfl rfl (cB hb36) rfl rfl ?_
              refine QJ.off rfl rfl (cB hb36) rfl rfl ?_
              refine QJ.off rfl rfl (cB hb36) rfl rfl ?_
              refine QJ.step (YldS.yld (y_pick_t (cB hb36) rfl)) rfl ?_
              exact QJ.cut_end ⟨rfl, rfl, rfl, rfl, rfl, trivial⟩
            · replace h35 := orF h35 hb36
              refine QJ.on rfl rfl (cB hb36) (YldS.yld (y_move rfl)) rfl ?_
              refine QJ.on rfl rfl (cB hb36) (YldS.yld (y_nil rfl)) rfl ?_
              refine QJ.on rfl rfl (cB hb36) (YldS.yld (y_fld (ad := ad12) fld47_3 rfl)) rfl ?_
              refine QJ.on rfl rfl (cB hb36) (YldS.yld (y_load1 (v := .int .i64 e10.hours) Tryd.isAgg2 (ha13.sub 3 1) St.frozenC rfl)) rfl ?_
              obtain ⟨r37, h38, h35⟩ := bindS h35
              refine QJ.on rfl rfl (cB hb36) (y_call Tryd.call73 rfl (RetG.quiet fun w hw => ok_s_l00In h38 w )) rfl ?_
              refine QJ.on rfl rfl (cB hb36) (YldS.yld (y_not rfl)) rfl ?_
              refine QJ.step (YldS.yld (y_pick_f (cB hb36) rfl)) rfl ?_
              obtain rfl := Option.some.inj h35
              exact QJ.cut_end ⟨rfl, rfl, rfl, rfl, rfl, trivial⟩
          refine QJ.done ?_
          refine PJ.next ?_
          refine WJ.cond (t := t34) rfl (fun hb39 => ?_) (fun hb39 => ?_)
          · replace hm := ifT hm hb39
            refine WJ.seq ?_
            refine WJ.quiet ?_
            refine QJ.step (YldS.yld (y_assign rfl)) rfl ?_
            refine QJ.done ?_
            refine PJ.next ?_
            refine WJ.ret ?_
            refine PJ.then_ret (PJ.block_ret (PJ.then_ret (PJ.then_ret (PJ.block_ret (PJ.then_ret ?_)))))
            obtain rfl := Option.some.inj hm
            refine PJ.sel (L' := []) [] ⟨List.nodup_nil, rfl⟩ ?_
            exact PJ.retn (vs := [.bool false]) Tryd.results52 ⟨rfl, trivial⟩ ⟨rfl, rfl⟩
          · replace hm := ifF hm hb39
            refine WJ.skip ?_
            refine PJ.next ?_
            obtain ⟨kj40, hk41, hm⟩ := withK_open hm
            refine WJ.join (X := Unit) (fun (_ : Unit) => kj40  = some r) (fun (_ : Unit) => [(0, v2), (3, .int .i64 (List.length list1 : Int)), (4, .int .i64 i6), (5, .pointer (some ad12))]) (fun (_ : Unit) => []) ?_ ?_
            · clear hk41
              refine WJ.seq ?_
              refine WJ.quiet ?_
              refine QJ.step (YldS.yld (y_assign rfl)) rfl ?_
              refine QJ.done ?_
              refine PJ.next ?_
              refine WJ.block ?_
              refine WJ.sel (L' := (fun (x : Int) => []) 1) [] ⟨List.nodup_nil, rfl⟩ ?_
              refine WJ.sub (m' := (fun (x : Int) => [(0, v2), (3, .int .i64 (List.length list1 : Int)), (4, .int .i64 i6), (5, .pointer (some ad12)), (6, .int .i64 x)]) 1) ⟨rfl, rfl, rfl, rfl, rfl, trivial⟩ ?_
              refine WJ.loop (X := Int) (fun N (x : Int) => s_l18Ok_l2 kj40 e10 N x = some r) (fun (x : Int) => [(0, v2), (3, .int .i64 (List.length list1 : Int)), (4, .int .i64 i6), (5, .pointer (some ad12)), (6, .int .i64 x)]) (fun (x : Int) => []) ?_ N 1 hm
              · rintro N k42 hI
                have hm := hI; clear hI
                cases N with
                | zero => cases hm
                | succ N =>
                unfold s_l18Ok_l2 at hm
                refine WJ.seq ?_
                refine WJ.seq ?_
                refine WJ.quiet ?_
                refine QJ.step (YldS.yld (y_move rfl)) rfl ?_
                refine QJ.step (YldS.yld (y_move rfl)) rfl ?_
                refine QJ.step (YldS.yld (y_nil rfl)) rfl ?_
                refine QJ.step (YldS.yld (y_fld (ad := ad12) fld47_1 rfl)) rfl ?_
                refine QJ.step (YldS.yld (y_load1 (v := str e10.letters) Tryd.isAgg9 (ha13.sub 1 1) St.frozenC rfl)) rfl ?_
                refine QJ.step (YldS.yld (y_lenStr Tryd.runUnderlying9 rfl)) rfl ?_
                refine QJ.step (YldS.yld (y_bin rfl rfl rfl)) rfl ?_
                refine QJ.done ?_
                refine PJ.next ?_
                refine WJ.cond (t := decide (k42 < (List.length e10.letters : Int))) rfl (fun hb43 => ?_) (fun hb43 => ?_)
                · replace hm := ifT hm hb43
                  refine WJ.skip ?_
                  refine PJ.next ?_
                  refine WJ.seq ?_
                  refine WJ.block ?_
                  refine WJ.seq ?_
                  refine WJ.quiet_draw follows (by kernel_rfl) ?_
                  refine QJ.step (YldS.yld (y_move rfl)) rfl ?_
                  refine QJ.step (YldS.yld (y_nil rfl)) rfl ?_
                  refine QJ.step (YldS.yld (y_fld (ad := ad12) fld47_1 rfl)) rfl ?_
                  refine QJ.step (YldS.yld (y_load1 (v := str e10.letters) Tryd.isAgg9 (ha13.sub 1 1) St.frozenC rfl)) rfl ?_
                  refine QJ.step (YldS.yld (y_move rfl)) rfl ?_
                  refine QJ.step (YldS.yld (y_bin rfl rfl rfl)) rfl ?_
                  obtain ⟨c44, h45, hm⟩ := bindS hm
                  refine QJ.step (YldS.yld (y_idxStr Tryd.runUnderlying9 rfl rfl h45)) rfl ?_
                  refine QJ.step (YldS.yld (y_move rfl)) rfl ?_
                  refine QJ.step (YldS.yld (y_nil rfl)) rfl ?_
                  refine QJ.step (YldS.yld (y_fld (ad := ad12) fld47_1 rfl)) rfl ?_
                  refine QJ.step (YldS.yld (y_load1 (v := str e10.letters) Tryd.isAgg9 (ha13.sub 1 1) St.frozenC rfl)) rfl ?_
                  refine QJ.step (YldS.yld (y_move rfl)) rfl ?_
                  obtain ⟨c46, h47, hm⟩ := bindS hm
                  refine QJ.step (YldS.yld (y_idxStr Tryd.runUnderlying9 rfl rfl h47)) rfl ?_
                  refine QJ.step (YldS.yld (y_bin8 c44 c46 rfl rfl rfl)) rfl ?_
                  refine QJ.done ?_
                  refine PJ.next ?_
                  refine WJ.cond (t := decide (c44 ≥ c46)) rfl (fun hb48 => ?_) (fun hb48 => ?_)
                  · replace hm := ifT hm hb48
                    refine WJ.seq ?_
                    refine WJ.quiet ?_
                    refine QJ.step (YldS.yld (y_assign rfl)) rfl ?_
                    refine QJ.done ?_
                    refine PJ.next ?_
                    refine WJ.ret ?_
                    refine PJ.block_ret (PJ.then_ret (PJ.then_ret (PJ.block_ret (PJ.then_ret (PJ.block_ret (PJ.then_ret (PJ.then_ret (PJ.block_ret (PJ.then_ret ?_)))))))))
                    obtain rfl := Option.some.inj hm
                    refine PJ.sel (L' := []) [] ⟨List.nodup_nil, rfl⟩ ?_
                    exact PJ.retn (vs := [.bool false]) Tryd.results52 ⟨rfl, trivial⟩ ⟨rfl, rfl⟩
                  · replace hm := ifF hm hb48
                    refine WJ.skip ?_
                    refine PJ.block_normal (PJ.next ?_)
                    refine WJ.quiet ?_
                    refine QJ.step (YldS.yld (y_move rfl)) rfl ?_
                    refine QJ.step (YldS.yld (y_bin rfl rfl rfl)) rfl ?_
                    refine QJ.step (YldS.yld (y_assign rfl)) rfl ?_
                    refine QJ.done ?_
                    exact PJ.round (w64 (k42 + 1)) [] hm ⟨rfl, rfl, rfl, rfl, rfl, trivial⟩ ⟨List.nodup_nil, rfl⟩
                · replace hm := ifF hm hb43
                  refine WJ.exit ?_
                  refine PJ.then_exit (PJ.then_exit (PJ.block_exit ?_))
                  exact PJ.joined () [] hm ⟨rfl, rfl, rfl, rfl, trivial⟩ ⟨List.nodup_nil, rfl⟩
            · rintro _ hm
              subst hk41
              refine WJ.seq ?_
              refine WJ.quiet ?_
              refine QJ.step (YldS.yld (y_assign rfl)) rfl ?_
              refine QJ.done ?_
              refine PJ.next ?_
              refine WJ.block ?_
              refine WJ.sel (L' := (fun (x : Int) => []) 0) [] ⟨List.nodup_nil, rfl⟩ ?_
              refine WJ.sub (m' := (fun (x : Int) => [(0, v2), (3, .int .i64 (List.length list1 : Int)), (4, .int .i64 i6), (5, .pointer (some ad12)), (7, .int .i64 x)]) 0) ⟨rfl, rfl, rfl, rfl, rfl, trivial⟩ ?_
              refine WJ.loop (X := Int) (fun N (x : Int) => s_l18Ok_l3 kj8 list1 i6 e10 N x = some r) (fun (x : Int) => [(0, v2), (3, .int .i64 (List.length list1 : Int)), (4, .int .i64 i6), (5, .pointer (some ad12)), (7, .int .i64 x)]) (fun (x : Int) => []) ?_ N 0 hm
              · rintro N k49 hI
                have hm := hI; clear hI
                cases N with
                | zero => cases hm
                | succ N =>
                unfold s_l18Ok_l3 at hm
                refine WJ.seq ?_
                refine WJ.seq ?_
                refine WJ.quiet ?_
                refine QJ.step (YldS.yld (y_move rfl)) rfl ?_
                refine QJ.step (YldS.yld (y_move rfl)) rfl ?_
                refine QJ.step (YldS.yld (y_bin rfl rfl rfl)) rfl ?_
                refine QJ.done ?_
                refine PJ.next ?_
                refine WJ.cond (t := decide (k49 < i6)) rfl (fun hb50 => ?_) (fun hb50 => ?_)
                · replace hm := ifT hm hb50
                  refine WJ.skip ?_
                  refine PJ.next ?_
                  refine WJ.seq ?_
                  refine WJ.block ?_
                  refine WJ.seq ?_
                  refine WJ.quiet_draw follows (by kernel_rfl) ?_
                  refine QJ.step (YldS.yld (y_move rfl)) rfl ?_
                  refine QJ.step (YldS.yld (y_move rfl)) rfl ?_
                  obtain ⟨e51, h52, hm⟩ := bindS hm
                  obtain ⟨ad53, _, ⟨v56, rfl, hr57⟩, ha54, hy55⟩ := hr3.elem h52
                  refine QJ.step (YldS.yld (hy55 Tryd.runUnderlying24 Tryd.sizeOf47 rfl rfl)) rfl ?_
                  refine QJ.step (YldS.yld (y_fld (ad := ad53) fld47_0 rfl)) rfl ?_
                  refine QJ.step (YldS.yld (y_load1 (v := str e51.name) Tryd.isAgg9 (ha54.sub 0 1) St.frozenC rfl)) rfl ?_
                  refine QJ.step (YldS.yld (y_move rfl)) rfl ?_
                  refine QJ.step (YldS.yld (y_nil rfl)) rfl ?_
                  refine QJ.step (YldS.yld (y_fld (ad := ad12) fld47_0 rfl)) rfl ?_
                  refine QJ.step (YldS.yld (y_load1 (v := str e10.name) Tryd.isAgg9 (ha13.sub 0 1) St.frozenC rfl)) rfl ?_
                  refine QJ.step (YldS.yld (y_binS rfl rfl rfl)) rfl ?_
                  refine QJ.done ?_
                  refine PJ.next ?_
                  refine WJ.cond (t := (e51.name == e10.name)) rfl (fun hb58 => ?_) (fun hb58 => ?_)
                  · replace hm := ifT hm hb58
                    refine WJ.seq ?_
                    refine WJ.quiet ?_
                    refine QJ.step (YldS.yld (y_assign rfl)) rfl ?_
                    refine QJ.done ?_
                    refine PJ.next ?_
                    refine WJ.ret ?_
                    refine PJ.block_ret (PJ.then_ret (PJ.then_ret (PJ.block_ret (PJ.block_ret (PJ.then_ret (PJ.then_ret (PJ.block_ret (PJ.then_ret ?_))))))))
                    obtain rfl := Option.some.inj hm
                    refine PJ.sel (L' := []) [] ⟨List.nodup_nil, rfl⟩ ?_
                    exact PJ.retn (vs := [.bool false]) Tryd.results52 ⟨rfl, trivial⟩ ⟨rfl, rfl⟩
                  · replace hm := ifF hm hb58
                    refine WJ.skip ?_
                    refine PJ.block_normal (PJ.next ?_)
                    refine WJ.quiet ?_
                    refine QJ.step (YldS.yld (y_move rfl)) rfl ?_
                    refine QJ.step (YldS.yld (y_bin rfl rfl rfl)) rfl ?_
                    refine QJ.step (YldS.yld (y_assign rfl)) rfl ?_
                    refine QJ.done ?_
                    exact PJ.round (w64 (k49 + 1)) [] hm ⟨rfl, rfl, rfl, rfl, rfl, trivial⟩ ⟨List.nodup_nil, rfl⟩
                · replace hm := ifF hm hb50
                  refine WJ.exit ?_
                  refine PJ.then_exit (PJ.then_exit (PJ.block_exit (PJ.block_normal ?_)))
                  exact PJ.joined () [] hm ⟨rfl, rfl, rfl, trivial⟩ ⟨List.nodup_nil, rfl⟩
        · rintro _ hm
          subst hk9
          refine WJ.quiet ?_
          refine QJ.step (YldS.yld (y_move rfl)) rfl ?_
          refine QJ.step (YldS.yld (y_bin rfl rfl rfl)) rfl ?_
          refine QJ.step (YldS.yld (y_assign rfl)) rfl ?_
          refine QJ.done ?_
          exact PJ.round (w64 (i6 + 1)) [] hm ⟨rfl, rfl, rfl, trivial⟩ ⟨List.nodup_nil, rfl⟩
      · replace hm := ifF hm hb7
        refine WJ.exit ?_
        refine PJ.then_exit (PJ.then_exit (PJ.block_exit ?_))
        exact PJ.joined () [] hm ⟨rfl, trivial⟩ ⟨List.nodup_nil, rfl⟩
  · rintro _ hm
    subst hk5
    refine WJ.seq ?_
    refine WJ.quiet ?_
    refine QJ.step (YldS.yld (y_move rfl)) rfl ?_
    refine QJ.step (YldS.yld (y_bin rfl rfl rfl)) rfl ?_
    refine QJ.step (YldS.yld (y_assign rfl)) rfl ?_
    refine QJ.done ?_
    refine PJ.next ?_
    refine WJ.ret ?_
    obtain rfl := Option.some.inj hm
    refine PJ.sel (L' := []) [] ⟨List.nodup_nil, rfl⟩ ?_
    exact PJ.retn (vs := [.bool (decide ((List.length list1 : Int) ≤ 12))]) Tryd.results52 ⟨rfl, trivial⟩ ⟨rfl, rfl⟩

set_option maxRecDepth 100000 in
set_option maxHeartbeats 1000000 in
theorem ok_s_l00Own {list1 : List Int} {r : (List Int)} (hm : s_l00Own list1 = some r) (w : World) (v2 : Value) (hr3 : RdS w (cx w).Fz v2 fI64.rp list1) :
    Calls Tryd.prog 65 #[v2] w (RetG (cx w) fun u L => ∃ (u1 : Value), (u = u1 ∧ L = [row u1 2 fI64 r])) := by
  unfold s_l00Own at hm
  refine Calls.enter [v2] Tryd.func65 rfl Tryd.ntmps65 rfl ?_
  refine WJ.seq ?_
  refine WJ.quiet ?_
  refine QJ.step (YldS.yld (y_assign rfl)) rfl ?_
  refine QJ.done ?_
  refine PJ.next ?_
  refine WJ.seq ?_
  refine WJ.reg ?_
  refine SJ.buildSlice (R := fI64) (os := []) [] Tryd.runUnderlying26 Tryd.sizeOf2 Tryd.zeroValue2 rfl rfl rfl rfl rfl rfl fun v4 => ?_
  refine SJ.q (YldS.yld (y_move rfl)) rfl ?_
  obtain ⟨l5, h6, hm⟩ := bindS hm
  refine SJ.append (k := 0) (R := fI64) h6 rfl Tryd.underlying26 el2 rfl rfl rfl (fun w hw => (hr3.st hw)) rfl fun v7 => ?_
  refine SJ.q (YldS.yld (y_assign rfl)) rfl ?_
  refine SJ.nil ?_
  refine PJ.next ?_
  refine WJ.ret ?_
  obtain rfl := Option.some.inj hm
  refine PJ.sel (L' := [row v7 2 fI64 l5]) [0] ⟨by decide, rfl⟩ ?_
  exact PJ.retn (vs := [v7]) Tryd.results65 ⟨rfl, trivial⟩ ⟨_, rfl, rfl⟩

set_option maxRecDepth 100000 in
set_option maxHeartbeats 1000000 in
theorem ok_s_l00Put {N : Nat} {list1 : List Int} {n4 : Int} {r : (List Int)} (hm : s_l00Put N list1 n4 = some r) (w : World) (v2 : Value) (hr3 : RdS w (cx w).Fz v2 fI64.rp list1) :
    Calls Tryd.prog 88 #[v2, .int .i64 n4] w (RetG (cx w) fun u L => ∃ (u1 : Value), (u = u1 ∧ L = [row u1 2 fI64 r])) := by
  unfold s_l00Put at hm
  refine Calls.enter [v2, .int .i64 n4] Tryd.func88 rfl Tryd.ntmps88 rfl ?_
  refine WJ.seq ?_
  refine WJ.quiet ?_
  refine QJ.step (YldS.yld (y_assign rfl)) rfl ?_
  refine QJ.done ?_
  refine PJ.next ?_
  refine WJ.seq ?_
  refine WJ.reg ?_
  refine SJ.buildSlice (R := fI64) (os := []) [] Tryd.runUnderlying26 Tryd.sizeOf2 Tryd.zeroValue2 rfl rfl rfl rfl rfl rfl fun v5 => ?_
  refine SJ.q (YldS.yld (y_assign rfl)) rfl ?_
  refine SJ.nil ?_
  refine PJ.next ?_
  refine WJ.seq ?_
  refine WJ.quiet ?_
  refine QJ.step (YldS.yld (y_assign rfl)) rfl ?_
  refine QJ.done ?_
  refine PJ.next ?_
  obtain ⟨kj9, hk10, hm⟩ := withK_open hm
  refine WJ.join (X := (List Int) × Value × Bool) (fun (x : (List Int) × Value × Bool) => kj9 x.1 x.2.2 = some r) (fun (x : (List Int) × Value × Bool) => [(1, .int .i64 n4), (5, x.2.1), (6, .bool x.2.2)]) (fun (x : (List Int) × Value × Bool) => [row x.2.1 2 fI64 x.1]) ?_ ?_
  · clear hk10
    refine WJ.seq ?_
    refine WJ.quiet ?_
    refine QJ.step (YldS.yld (y_assign rfl)) rfl ?_
    refine QJ.done ?_
    refine PJ.next ?_
    refine WJ.block ?_
    refine WJ.sel (L' := (fun (x : (List Int) × Value × Bool × Int) => [row x.2.1 2 fI64 x.1]) ([], v5, false, 0)) [0] ⟨by decide, rfl⟩ ?_
    refine WJ.sub (m' := (fun (x : (List Int) × Value × Bool × Int) => [(0, v2), (1, .int .i64 n4), (5, x.2.1), (6, .bool x.2.2.1), (7, .int .i64 x.2.2.2)]) ([], v5, false, 0)) ⟨rfl, rfl, rfl, rfl, rfl, trivial⟩ ?_
    refine WJ.loop (X := (List Int) × Value × Bool × Int) (fun N (x : (List Int) × Value × Bool × Int) => s_l00Put_l1 kj9 list1 n4 N x.1 x.2.2.1 x.2.2.2 = some r) (fun (x : (List Int) × Value × Bool × Int) => [(0, v2), (1, .int .i64 n4), (5, x.2.1), (6, .bool x.2.2.1), (7, .int .i64 x.2.2.2)]) (fun (x : (List Int) × Value × Bool × Int) => [row x.2.1 2 fI64 x.1]) ?_ N ([], v5, false, 0) hm
    · rintro N ⟨l11, v12, done13, i14⟩ hI
      have hm := hI; clear hI
      cases N with
      | zero => cases hm
      | succ N =>
      unfold s_l00Put_l1 at hm
      refine WJ.seq ?_
      refine WJ.seq ?_
      refine WJ.quiet ?_
      refine QJ.step (YldS.yld (y_move rfl)) rfl ?_
      refine QJ.step (YldS.yld (y_move rfl)) rfl ?_
      refine QJ.step (YldS.yld (y_lenS Tryd.runUnderlying26 hr3 rfl)) rfl ?_
      refine QJ.step (YldS.yld (y_bin rfl rfl rfl)) rfl ?_
      refine QJ.done ?_
      refine PJ.next ?_
      refine WJ.cond (t := decide (i14 < (List.length list1 : Int))) rfl (fun hb15 => ?_) (fun hb15 => ?_)
      · replace hm := ifT hm hb15
        refine WJ.skip ?_
        refine PJ.next ?_
        refine WJ.seq ?_
        refine WJ.block ?_
        obtain ⟨kj19, hk20, hm⟩ := withK_open hm
        refine WJ.join (X := (List Int) × Value × Bool) (fun (x : (List Int) × Value × Bool) => kj19 x.1 x.2.2 = some r) (fun (x : (List Int) × Value × Bool) => [(0, v2), (1, .int .i64 n4), (5, x.2.1), (6, .bool x.2.2), (7, .int .i64 i14)]) (fun (x : (List Int) × Value × Bool) => [row x.2.1 2 fI64 x.1]) ?_ ?_
        · clear hk20
          refine WJ.seq ?_
          refine WJ.quiet ?_
          refine QJ.step (YldS.yld (y_move rfl)) rfl ?_
          refine QJ.step (YldS.yld (y_not rfl)) rfl ?_
          refine QJ.step (YldS.yld (y_move rfl)) rfl ?_
          obtain ⟨t21, h22, hm⟩ := bindS hm
          refine QJ.cut 7 [(0, v2), (1, .int .i64 n4), (5, v12), (6, .bool done13), (7, .int .i64 i14), (24, .bool t21)] ?_ ?_
          · rcases Bool.eq_false_or_eq_true (!done13) with hb23 | hb23
            · replace h22 := andT h22 hb23
              refine QJ.on rfl rfl (cB hb23) (YldS.yld (y_move rfl)) rfl ?_
              refine QJ.on rfl rfl (cB hb23) (YldS.yld (y_move rfl)) rfl ?_
              obtain ⟨e24, h25, h22⟩ := bindS h22
              obtain ⟨ad26, _, rfl, ha27, hy28⟩ := hr3.elem h25
              refine QJ.on rfl rfl (cB hb23) (YldS.yld (hy28 Tryd.runUnderlying26 Tryd.sizeOf2 rfl rfl)) rfl ?_
              refine QJ.on rfl rfl (cB hb23) (YldS.yld (y_load1 (v := .int .i64 e24) Tryd.isAgg2 ha27 St.frozenC rfl)) rfl ?_
              refine QJ.on rfl rfl (cB hb23) (YldS.yld (y_move rfl)) rfl ?_
              refine QJ.on rfl rfl (cB hb23) (YldS.yld (y_bin rfl rfl rfl)) rfl ?_
              refine QJ.step (YldS.yld (y_pick_t (cB hb23) rfl)) rfl ?_
              obtain rfl := Option.some.inj h22
              exact QJ.cut_end ⟨rfl, rfl, rfl, rfl, rfl, rfl, trivial⟩
            · obtain rfl := andF h22 hb23
              refine QJ.off rfl rfl (cB hb23) rfl rfl ?_
              refine QJ.off rfl rfl (cB hb23) rfl rfl ?_
              refine QJ.off rfl rfl (cB hb23) rfl rfl ?_
              refine QJ.off rfl rfl (cB hb23) rfl rfl ?_
              refine QJ.off rfl rfl (cB hb23) rfl rfl ?_
              refine QJ.off rfl rfl (cB hb23) rfl rfl ?_
              refine QJ.step (YldS.yld (y_pick_f (cB hb23) rfl)) rfl ?_
              exact QJ.cut_end ⟨rfl, rfl, rfl, rfl, rfl, rfl, trivial⟩
          refine QJ.done ?_
          refine PJ.next ?_
          refine WJ.cond (t := t21) rfl (fun hb29 => ?_) (fun hb29 => ?_)
          · replace hm := ifT hm hb29
            refine WJ.seq ?_
            refine WJ.quiet ?_
            refine QJ.step (YldS.yld (y_assign rfl)) rfl ?_
            refine QJ.done ?_
            refine PJ.next ?_
            refine WJ.seq ?_
            refine WJ.quiet ?_
            refine QJ.step (YldS.yld (y_move rfl)) rfl ?_
            refine QJ.step (YldS.yld (y_move rfl)) rfl ?_
            obtain ⟨e30, h31, hm⟩ := bindS hm
            obtain ⟨ad32, _, rfl, ha33, hy34⟩ := hr3.elem h31
            refine QJ.step (YldS.yld (hy34 Tryd.runUnderlying26 Tryd.sizeOf2 rfl rfl)) rfl ?_
            refine QJ.step (YldS.yld (y_load1 (v := .int .i64 e30) Tryd.isAgg2 ha33 St.frozenC rfl)) rfl ?_
            refine QJ.step (YldS.yld (y_move rfl)) rfl ?_
            refine QJ.step (YldS.yld (y_bin rfl rfl rfl)) rfl ?_
            refine QJ.done ?_
            refine PJ.next ?_
            refine WJ.cond (t := decide (e30 > n4)) rfl (fun hb35 => ?_) (fun hb35 => ?_)
            · replace hm := ifT hm hb35
              refine WJ.reg ?_
              refine SJ.q (YldS.yld (y_move rfl)) rfl ?_
              refine SJ.q (YldS.yld (y_move rfl)) rfl ?_
              refine SJ.buildSlice (R := fI64) (os := [.tmp 32]) [n4] Tryd.runUnderlying26 Tryd.sizeOf2 Tryd.zeroValue2 rfl rfl rfl rfl rfl rfl fun v36 => ?_
              obtain ⟨l37, h38, hm⟩ := bindS hm
              refine SJ.append (k := 1) (R := fI64) h38 rfl Tryd.underlying26 el2 rfl rfl rfl (fun w hw => (hw.row_rd (k := 0) rfl)) rfl fun v39 => ?_
              refine SJ.q (YldS.yld (y_assign rfl)) rfl ?_
              refine SJ.nil ?_
              exact PJ.joined (l37, v39, true) [1] hm ⟨rfl, rfl, rfl, rfl, rfl, trivial⟩ ⟨by decide, rfl⟩
            · replace hm := ifF hm hb35
              refine WJ.skip ?_
              exact PJ.joined (l11, v12, true) [0] hm ⟨rfl, rfl, rfl, rfl, rfl, trivial⟩ ⟨by decide, rfl⟩
          · replace hm := ifF hm hb29
            refine WJ.skip ?_
            exact PJ.joined (l11, v12, done13) [0] hm ⟨rfl, rfl, rfl, rfl, rfl, trivial⟩ ⟨by decide, rfl⟩
        · rintro ⟨l16, v17, done18⟩ hm
          subst hk20
          refine WJ.reg ?_
          refine SJ.q (YldS.yld (y_move rfl)) rfl ?_
          refine SJ.q (YldS.yld (y_move rfl)) rfl ?_
          refine SJ.q (YldS.yld (y_move rfl)) rfl ?_
          obtain ⟨e40, h41, hm⟩ := bindS hm
          obtain ⟨ad42, _, rfl, ha43, hy44⟩ := hr3.elem h41
          refine SJ.q (YldS.yld (hy44 Tryd.runUnderlying26 Tryd.sizeOf2 rfl rfl)) rfl ?_
          refine SJ.q (YldS.yld (y_load1 (v := .int .i64 e40) Tryd.isAgg2 ha43 St.frozenC rfl)) rfl ?_
          refine SJ.buildSlice (R := fI64) (os := [.tmp 39]) [e40] Tryd.runUnderlying26 Tryd.sizeOf2 Tryd.zeroValue2 rfl rfl rfl rfl rfl rfl fun v45 => ?_
          obtain ⟨l46, h47, hm⟩ := bindS hm
          refine SJ.append (k := 1) (R := fI64) h47 rfl Tryd.underlying26 el2 rfl rfl rfl (fun w hw => (hw.row_rd (k := 0) rfl)) rfl fun v48 => ?_
          refine SJ.q (YldS.yld (y_assign rfl)) rfl ?_
          refine SJ.nil ?_
          refine PJ.block_normal (PJ.next ?_)
          refine WJ.quiet ?_
          refine QJ.step (YldS.yld (y_move rfl)) rfl ?_
          refine QJ.step (YldS.yld (y_bin rfl rfl rfl)) rfl ?_
          refine QJ.step (YldS.yld (y_assign rfl)) rfl ?_
          refine QJ.done ?_
          exact PJ.round (l46, v48, done18, w64 (i14 + 1)) [1] hm ⟨rfl, rfl, rfl, rfl, rfl, trivial⟩ ⟨by decide, rfl⟩
      · replace hm := ifF hm hb15
        refine WJ.exit ?_
        refine PJ.then_exit (PJ.then_exit (PJ.block_exit ?_))
        exact PJ.joined (l11, v12, done13) [0] hm ⟨rfl, rfl, rfl, trivial⟩ ⟨by decide, rfl⟩
  · rintro ⟨l6, v7, done8⟩ hm
    subst hk10
    obtain ⟨kj51, hk52, hm⟩ := withK_open hm
    refine WJ.join (X := (List Int) × Value) (fun (x : (List Int) × Value) => kj51 x.1 = some r) (fun (x : (List Int) × Value) => [(5, x.2)]) (fun (x : (List Int) × Value) => [row x.2 2 fI64 x.1]) ?_ ?_
    · clear hk52
      refine WJ.seq ?_
      refine WJ.quiet ?_
      refine QJ.step (YldS.yld (y_move rfl)) rfl ?_
      refine QJ.step (YldS.yld (y_not rfl)) rfl ?_
      refine QJ.done ?_
      refine PJ.next ?_
      refine WJ.cond (t := !done8) rfl (fun hb53 => ?_) (fun hb53 => ?_)
      · replace hm := ifT hm hb53
        refine WJ.reg ?_
        refine SJ.q (YldS.yld (y_move rfl)) rfl ?_
        refine SJ.q (YldS.yld (y_move rfl)) rfl ?_
        refine SJ.buildSlice (R := fI64) (os := [.tmp 45]) [n4] Tryd.runUnderlying26 Tryd.sizeOf2 Tryd.zeroValue2 rfl rfl rfl rfl rfl rfl fun v54 => ?_
        obtain ⟨l55, h56, hm⟩ := bindS hm
        refine SJ.append (k := 1) (R := fI64) h56 rfl Tryd.underlying26 el2 rfl rfl rfl (fun w hw => (hw.row_rd (k := 0) rfl)) rfl fun v57 => ?_
        refine SJ.q (YldS.yld (y_assign rfl)) rfl ?_
        refine SJ.nil ?_
        exact PJ.joined (l55, v57) [1] hm ⟨rfl, trivial⟩ ⟨by decide, rfl⟩
      · replace hm := ifF hm hb53
        refine WJ.skip ?_
        exact PJ.joined (l6, v7) [0] hm ⟨rfl, trivial⟩ ⟨by decide, rfl⟩
    · rintro ⟨l49, v50⟩ hm
      subst hk52
      refine WJ.seq ?_
      refine WJ.quiet ?_
      refine QJ.step (YldS.yld (y_move rfl)) rfl ?_
      refine QJ.step (YldS.yld (y_assign rfl)) rfl ?_
      refine QJ.done ?_
      refine PJ.next ?_
      refine WJ.ret ?_
      obtain rfl := Option.some.inj hm
      refine PJ.sel (L' := [row v50 2 fI64 l49]) [0] ⟨by decide, rfl⟩ ?_
      exact PJ.retn (vs := [v50]) Tryd.results88 ⟨rfl, trivial⟩ ⟨_, rfl, rfl⟩

set_option maxRecDepth 100000 in
set_option maxHeartbeats 1000000 in
theorem ok_s_l18All {N : Nat} {list1 : List Lesson} {some4 : List Int} {r : (List Int)} (hm : s_l18All N list1 some4 = some r) (w : World) (v2 : Value) (hr3 : RdS w (cx w).Fz v2 (shLesson.rp fI64.rp) list1) (v5 : Value) (hr6 : RdS w (cx w).Fz v5 fI64.rp some4) :
    Calls Tryd.prog 98 #[v2, v5] w (RetG (cx w) fun u L => ∃ (u1 : Value), (u = u1 ∧ L = [row u1 2 fI64 r])) := by
  unfold s_l18All at hm
  refine Calls.enter [v2, v5] Tryd.func98 rfl Tryd.ntmps98 rfl ?_
  refine WJ.seq ?_
  refine WJ.quiet ?_
  refine QJ.step (YldS.yld (y_assign rfl)) rfl ?_
  refine QJ.done ?_
  refine PJ.next ?_
  refine WJ.seq ?_
  refine WJ.reg ?_
  refine SJ.q (YldS.yld (y_move rfl)) rfl ?_
  obtain ⟨r7, h8, hm⟩ := bindS hm
  refine SJ.call Tryd.call65 rfl (fun w hw => ok_s_l00Own h8 w _ (hr6.st hw)) rfl ?_
  rintro v9 _ ⟨_, rfl, rfl⟩
  refine SJ.q (YldS.yld (y_assign rfl)) rfl ?_
  refine SJ.nil ?_
  refine PJ.next ?_
  obtain ⟨kj12, hk13, hm⟩ := withK_open hm
  refine WJ.join (X := (List Int) × Value) (fun (x : (List Int) × Value) => kj12 x.1 = some r) (fun (x : (List Int) × Value) => [(5, x.2)]) (fun (x : (List Int) × Value) => [row x.2 2 fI64 x.1]) ?_ ?_
  · clear hk13
    refine WJ.seq ?_
    refine WJ.quiet ?_
    refine QJ.step (YldS.yld (y_assign rfl)) rfl ?_
    refine QJ.done ?_
    refine PJ.next ?_
    refine WJ.block ?_
    refine WJ.sel (L' := (fun (x : (List Int) × Value × Int) => [row x.2.1 2 fI64 x.1]) (r7, v9, 0)) [0] ⟨by decide, rfl⟩ ?_
    refine WJ.sub (m' := (fun (x : (List Int) × Value × Int) => [(0, v2), (5, x.2.1), (6, .int .i64 x.2.2)]) (r7, v9, 0)) ⟨rfl, rfl, rfl, trivial⟩ ?_
    refine WJ.loop (X := (List Int) × Value × Int) (fun N (x : (List Int) × Value × Int) => s_l18All_l1 kj12 list1 N x.1 x.2.2 = some r) (fun (x : (List Int) × Value × Int) => [(0, v2), (5, x.2.1), (6, .int .i64 x.2.2)]) (fun (x : (List Int) × Value × Int) => [row x.2.1 2 fI64 x.1]) ?_ N (r7, v9, 0) hm
    · rintro N ⟨l14, v15, i16⟩ hI
      have hm := hI; clear hI
      cases N with
      | zero => cases hm
      | succ N =>
      unfold s_l18All_l1 at hm
      refine WJ.seq ?_
      refine WJ.seq ?_
      refine WJ.quiet ?_
      refine QJ.step (YldS.yld (y_move rfl)) rfl ?_
      refine QJ.step (YldS.yld (y_move rfl)) rfl ?_
      refine QJ.step (YldS.yld (y_lenRow (k := 0) rfl Tryd.runUnderlying26 rfl)) rfl ?_
      refine QJ.step (YldS.yld (y_bin rfl rfl rfl)) rfl ?_
      refine QJ.done ?_
      refine PJ.next ?_
      refine WJ.cond (t := decide (i16 < (List.length l14 : Int))) rfl (fun hb17 => ?_) (fun hb17 => ?_)
      · replace hm := ifT hm hb17
        refine WJ.skip ?_
        refine PJ.next ?_
        obtain ⟨kj21, hk22, hm⟩ := withK_open hm
        refine WJ.join (X := (List Int) × Value × Int) (fun (x : (List Int) × Value × Int) => kj21 x.1 x.2.2 = some r) (fun (x : (List Int) × Value × Int) => [(0, v2), (5, x.2.1), (6, .int .i64 x.2.2)]) (fun (x : (List Int) × Value × Int) => [row x.2.1 2 fI64 x.1]) ?_ ?_
        · clear hk22
          refine WJ.block ?_
          refine WJ.seq ?_
          refine WJ.quiet ?_
          refine QJ.step (YldS.yld (y_move rfl)) rfl ?_
          refine QJ.step (YldS.yld (y_move rfl)) rfl ?_
          refine QJ.step (YldS.yld (y_move rfl)) rfl ?_
          obtain ⟨e23, h24, hm⟩ := bindS hm
          refine QJ.step (YldS.yld (y_ixRow (k := 0) (R := fI64) rfl Tryd.runUnderlying26 Tryd.sizeOf2 rfl rfl h24)) rfl ?_
          refine QJ.step (YldS.yld (y_loadR (k := 0) (i := (Int.toNat i16)) (off := 0) (u := .int .i64 e23) rfl Tryd.isAgg2 rfl (idx_get h24) rfl)) rfl ?_
          obtain ⟨e25, h26, hm⟩ := bindS hm
          obtain ⟨ad27, _, ⟨v30, rfl, hr31⟩, ha28, hy29⟩ := hr3.elem h26
          refine QJ.step (YldS.yld (hy29 Tryd.runUnderlying24 Tryd.sizeOf47 rfl rfl)) rfl ?_
          refine QJ.step (YldS.yld (y_fld (ad := ad27) fld47_2 rfl)) rfl ?_
          refine QJ.step (YldS.yld (y_load1 (v := v30) Tryd.isAgg26 (ha28.sub 2 1) St.frozenC rfl)) rfl ?_
          refine QJ.step (YldS.yld (y_assign rfl)) rfl ?_
          refine QJ.done ?_
          refine PJ.next ?_
          refine WJ.seq ?_
          refine WJ.quiet ?_
          refine QJ.step (YldS.yld (y_assign rfl)) rfl ?_
          refine QJ.done ?_
          refine PJ.next ?_
          refine WJ.block ?_
          refine WJ.sel (L' := (fun (x : Int × Int) => [row v15 2 fI64 l14]) (i16, 0)) [0] ⟨by decide, rfl⟩ ?_
          refine WJ.sub (m' := (fun (x : Int × Int) => [(0, v2), (5, v15), (6, .int .i64 x.1), (7, v30), (8, .int .i64 x.2)]) (i16, 0)) ⟨rfl, rfl, rfl, rfl, rfl, trivial⟩ ?_
          refine WJ.loop (X := Int × Int) (fun N (x : Int × Int) => s_l18All_l2 kj21 l14 e25 N x.1 x.2 = some r) (fun (x : Int × Int) => [(0, v2), (5, v15), (6, .int .i64 x.1), (7, v30), (8, .int .i64 x.2)]) (fun (x : Int × Int) => [row v15 2 fI64 l14]) ?_ N (i16, 0) hm
          · rintro N ⟨i32, k33⟩ hI
            have hm := hI; clear hI
            cases N with
            | zero => cases hm
            | succ N =>
            unfold s_l18All_l2 at hm
            refine WJ.seq ?_
            refine WJ.seq ?_
            refine WJ.quiet ?_
            refine QJ.step (YldS.yld (y_move rfl)) rfl ?_
            refine QJ.step (YldS.yld (y_move rfl)) rfl ?_
            refine QJ.step (YldS.yld (y_lenS Tryd.runUnderlying26 hr31 rfl)) rfl ?_
            refine QJ.step (YldS.yld (y_bin rfl rfl rfl)) rfl ?_
            refine QJ.done ?_
            refine PJ.next ?_
            refine WJ.cond (t := decide (k33 < (List.length e25.needs : Int))) rfl (fun hb34 => ?_) (fun hb34 => ?_)
            · replace hm := ifT hm hb34
              refine WJ.skip ?_
              refine PJ.next ?_
              refine WJ.seq ?_
              refine WJ.block ?_
              refine WJ.seq ?_
              refine WJ.quiet ?_
              refine QJ.step (YldS.yld (y_move rfl)) rfl ?_
              refine QJ.step (YldS.yld (y_move rfl)) rfl ?_
              refine QJ.step (YldS.yld (y_move rfl)) rfl ?_
              obtain ⟨e35, h36, hm⟩ := bindS hm
              obtain ⟨ad37, _, rfl, ha38, hy39⟩ := hr31.elem h36
              refine QJ.step (YldS.yld (hy39 Tryd.runUnderlying26 Tryd.sizeOf2 rfl rfl)) rfl ?_
              refine QJ.step (YldS.yld (y_load1 (v := .int .i64 e35) Tryd.isAgg2 ha38 St.frozenC rfl)) rfl ?_
              obtain ⟨r40, h41, hm⟩ := bindS hm
              refine QJ.step (y_call Tryd.call97 rfl (RetG.quiet fun w hw => ok_s_l00Has h41 w _ (hw.row_rd (k := 0) rfl))) rfl ?_
              refine QJ.step (YldS.yld (y_not rfl)) rfl ?_
              refine QJ.done ?_
              refine PJ.next ?_
              refine WJ.cond (t := !r40) rfl (fun hb42 => ?_) (fun hb42 => ?_)
              · replace hm := ifT hm hb42
                refine WJ.seq ?_
                refine WJ.reg ?_
                refine SJ.q (YldS.yld (y_move rfl)) rfl ?_
                refine SJ.q (YldS.yld (y_move rfl)) rfl ?_
                refine SJ.q (YldS.yld (y_move rfl)) rfl ?_
                obtain ⟨e43, h44, hm⟩ := bindS hm
                obtain ⟨ad45, _, rfl, ha46, hy47⟩ := hr31.elem h44
                refine SJ.q (YldS.yld (hy47 Tryd.runUnderlying26 Tryd.sizeOf2 rfl rfl)) rfl ?_
                refine SJ.q (YldS.yld (y_load1 (v := .int .i64 e43) Tryd.isAgg2 ha46 St.frozenC rfl)) rfl ?_
                obtain ⟨r48, h49, hm⟩ := bindS hm
                refine SJ.call Tryd.call88 rfl (fun w hw => ok_s_l00Put h49 w _ (hw.row_rd (k := 0) rfl)) rfl ?_
                rintro v50 _ ⟨_, rfl, rfl⟩
                refine SJ.q (YldS.yld (y_assign rfl)) rfl ?_
                refine SJ.nil ?_
                refine PJ.next ?_
                refine WJ.seq ?_
                refine WJ.quiet ?_
                refine QJ.step (YldS.yld (y_assign rfl)) rfl ?_
                refine QJ.done ?_
                refine PJ.next ?_
                refine WJ.exit ?_
                refine PJ.block_exit_ne rfl (PJ.then_exit (PJ.then_exit (PJ.block_exit (PJ.block_normal ?_))))
                exact PJ.joined (r48, v50, (-1)) [0] hm ⟨rfl, rfl, rfl, trivial⟩ ⟨by decide, rfl⟩
              · replace hm := ifF hm hb42
                refine WJ.skip ?_
                refine PJ.block_normal (PJ.next ?_)
                refine WJ.quiet ?_
                refine QJ.step (YldS.yld (y_move rfl)) rfl ?_
                refine QJ.step (YldS.yld (y_bin rfl rfl rfl)) rfl ?_
                refine QJ.step (YldS.yld (y_assign rfl)) rfl ?_
                refine QJ.done ?_
                exact PJ.round (i32, w64 (k33 + 1)) [0] hm ⟨rfl, rfl, rfl, rfl, rfl, trivial⟩ ⟨by decide, rfl⟩
            · replace hm := ifF hm hb34
              refine WJ.exit ?_
              refine PJ.then_exit (PJ.then_exit (PJ.block_exit (PJ.block_normal ?_)))
              exact PJ.joined (l14, v15, i32) [0] hm ⟨rfl, rfl, rfl, trivial⟩ ⟨by decide, rfl⟩
        · rintro ⟨l18, v19, i20⟩ hm
          subst hk22
          refine WJ.quiet ?_
          refine QJ.step (YldS.yld (y_move rfl)) rfl ?_
          refine QJ.step (YldS.yld (y_bin rfl rfl rfl)) rfl ?_
          refine QJ.step (YldS.yld (y_assign rfl)) rfl ?_
          refine QJ.done ?_
          exact PJ.round (l18, v19, w64 (i20 + 1)) [0] hm ⟨rfl, rfl, rfl, trivial⟩ ⟨by decide, rfl⟩
      · replace hm := ifF hm hb17
        refine WJ.exit ?_
        refine PJ.then_exit (PJ.then_exit (PJ.block_exit ?_))
        exact PJ.joined (l14, v15) [0] hm ⟨rfl, trivial⟩ ⟨by decide, rfl⟩
  · rintro ⟨l10, v11⟩ hm
    subst hk13
    refine WJ.seq ?_
    refine WJ.quiet ?_
    refine QJ.step (YldS.yld (y_move rfl)) rfl ?_
    refine QJ.step (YldS.yld (y_assign rfl)) rfl ?_
    refine QJ.done ?_
    refine PJ.next ?_
    refine WJ.ret ?_
    obtain rfl := Option.some.inj hm
    refine PJ.sel (L' := [row v11 2 fI64 l10]) [0] ⟨by decide, rfl⟩ ?_
    exact PJ.retn (vs := [v11]) Tryd.results98 ⟨rfl, trivial⟩ ⟨_, rfl, rfl⟩

set_option maxRecDepth 100000 in
set_option maxHeartbeats 1000000 in
theorem ok_s_l18Circle {N : Nat} {list1 : List Lesson} {r : Int} (hm : s_l18Circle N list1 = some r) (w : World) (v2 : Value) (hr3 : RdS w (cx w).Fz v2 (shLesson.rp fI64.rp) list1) :
    Calls Tryd.prog 53 #[v2] w (Ret (cx w) (.int .i64 r)) := by
  unfold s_l18Circle at hm
  refine Calls.enter [v2] Tryd.func53 rfl Tryd.ntmps53 rfl ?_
  refine WJ.seq ?_
  refine WJ.quiet ?_
  refine QJ.step (YldS.yld (y_assign rfl)) rfl ?_
  refine QJ.done ?_
  refine PJ.next ?_
  obtain ⟨kj4, hk5, hm⟩ := withK_open hm
  refine WJ.join (X := Unit) (fun (_ : Unit) => kj4  = some r) (fun (_ : Unit) => []) (fun (_ : Unit) => []) ?_ ?_
  · clear hk5
    refine WJ.seq ?_
    refine WJ.quiet ?_
    refine QJ.step (YldS.yld (y_assign rfl)) rfl ?_
    refine QJ.done ?_
    refine PJ.next ?_
    refine WJ.block ?_
    refine WJ.sel (L' := (fun (x : Int) => []) 0) [] ⟨List.nodup_nil, rfl⟩ ?_
    refine WJ.sub (m' := (fun (x : Int) => [(0, v2), (3, .int .i64 x)]) 0) ⟨rfl, rfl, trivial⟩ ?_
    refine WJ.loop (X := Int) (fun N (x : Int) => s_l18Circle_l1 kj4 list1 N x = some r) (fun (x : Int) => [(0, v2), (3, .int .i64 x)]) (fun (x : Int) => []) ?_ N 0 hm
    · rintro N k6 hI
      have hm := hI; clear hI
      cases N with
      | zero => cases hm
      | succ N =>
      unfold s_l18Circle_l1 at hm
      refine WJ.seq ?_
      refine WJ.seq ?_
      refine WJ.quiet ?_
      refine QJ.step (YldS.yld (y_move rfl)) rfl ?_
      refine QJ.step (YldS.yld (y_move rfl)) rfl ?_
      refine QJ.step (YldS.yld (y_lenS Tryd.runUnderlying24 hr3 rfl)) rfl ?_
      refine QJ.step (YldS.yld (y_bin rfl rfl rfl)) rfl ?_
      refine QJ.done ?_
      refine PJ.next ?_
      refine WJ.cond (t := decide (k6 < (List.length list1 : Int))) rfl (fun hb7 => ?_) (fun hb7 => ?_)
      · replace hm := ifT hm hb7
        refine WJ.skip ?_
        refine PJ.next ?_
        refine WJ.seq ?_
        refine WJ.block ?_
        refine WJ.seq ?_
        refine WJ.reg ?_
        refine SJ.q (YldS.yld (y_move rfl)) rfl ?_
        refine SJ.q (YldS.yld (y_move rfl)) rfl ?_
        refine SJ.q (YldS.yld (y_move rfl)) rfl ?_
        obtain ⟨e8, h9, hm⟩ := bindS hm
        obtain ⟨ad10, _, ⟨v13, rfl, hr14⟩, ha11, hy12⟩ := hr3.elem h9
        refine SJ.q (YldS.yld (hy12 Tryd.runUnderlying24 Tryd.sizeOf47 rfl rfl)) rfl ?_
        refine SJ.q (YldS.yld (y_fld (ad := ad10) fld47_2 rfl)) rfl ?_
        refine SJ.q (YldS.yld (y_load1 (v := v13) Tryd.isAgg26 (ha11.sub 2 1) St.frozenC rfl)) rfl ?_
        obtain ⟨r15, h16, hm⟩ := bindS hm
        refine SJ.call Tryd.call98 rfl (fun w hw => ok_s_l18All h16 w _ (hr3.st hw) _ (hr14.st hw)) rfl ?_
        rintro v17 _ ⟨_, rfl, rfl⟩
        refine SJ.q (YldS.yld (y_move rfl)) rfl ?_
        obtain ⟨r18, h19, hm⟩ := bindS hm
        refine SJ.q (y_call Tryd.call97 rfl (RetG.quiet fun w hw => ok_s_l00Has h19 w _ (hw.row_rd (k := 0) rfl))) rfl ?_
        refine SJ.nil ?_
        refine PJ.next ?_
        refine WJ.cond (t := r18) rfl (fun hb20 => ?_) (fun hb20 => ?_)
        · replace hm := ifT hm hb20
          refine WJ.seq ?_
          refine WJ.quiet ?_
          refine QJ.step (YldS.yld (y_move rfl)) rfl ?_
          refine QJ.step (YldS.yld (y_assign rfl)) rfl ?_
          refine QJ.done ?_
          refine PJ.next ?_
          refine WJ.ret ?_
          refine PJ.block_ret (PJ.then_ret (PJ.then_ret (PJ.block_ret (PJ.then_ret ?_))))
          obtain rfl := Option.some.inj hm
          refine PJ.sel (L' := []) [] ⟨List.nodup_nil, rfl⟩ ?_
          exact PJ.retn (vs := [.int .i64 k6]) Tryd.results53 ⟨rfl, trivial⟩ ⟨rfl, rfl⟩
        · replace hm := ifF hm hb20
          refine WJ.skip ?_
          refine PJ.block_normal (PJ.next ?_)
          refine WJ.quiet ?_
          refine QJ.step (YldS.yld (y_move rfl)) rfl ?_
          refine QJ.step (YldS.yld (y_bin rfl rfl rfl)) rfl ?_
          refine QJ.step (YldS.yld (y_assign rfl)) rfl ?_
          refine QJ.done ?_
          exact PJ.round (w64 (k6 + 1)) [] hm ⟨rfl, rfl, trivial⟩ ⟨List.nodup_nil, rfl⟩
      · replace hm := ifF hm hb7
        refine WJ.exit ?_
        refine PJ.then_exit (PJ.then_exit (PJ.block_exit ?_))
        exact PJ.joined () [] hm trivial ⟨List.nodup_nil, rfl⟩
  · rintro _ hm
    subst hk5
    refine WJ.seq ?_
    refine WJ.quiet ?_
    refine QJ.step (YldS.yld (y_assign rfl)) rfl ?_
    refine QJ.done ?_
    refine PJ.next ?_
    refine WJ.ret ?_
    obtain rfl := Option.some.inj hm
    refine PJ.sel (L' := []) [] ⟨List.nodup_nil, rfl⟩ ?_
    exact PJ.retn (vs := [.int .i64 (-1)]) Tryd.results53 ⟨rfl, trivial⟩ ⟨rfl, rfl⟩

set_option maxRecDepth 100000 in
set_option maxHeartbeats 1000000 in
theorem ok_s_l18Can {N : Nat} {list1 : List Lesson} {taken4 : List Int} {k7 : Int} {r : Bool} (hm : s_l18Can N list1 taken4 k7 = some r) (w : World) (v2 : Value) (hr3 : RdS w (cx w).Fz v2 (shLesson.rp fI64.rp) list1) (v5 : Value) (hr6 : RdS w (cx w).Fz v5 fI64.rp taken4) :
    Calls Tryd.prog 54 #[v2, v5, .int .i64 k7] w (Ret (cx w) (.bool r)) := by
  unfold s_l18Can at hm
  refine Calls.enter [v2, v5, .int .i64 k7] Tryd.func54 rfl Tryd.ntmps54 rfl ?_
  refine WJ.seq ?_
  refine WJ.quiet ?_
  refine QJ.step (YldS.yld (y_assign rfl)) rfl ?_
  refine QJ.done ?_
  refine PJ.next ?_
  refine WJ.seq ?_
  refine WJ.seq ?_
  refine WJ.quiet ?_
  refine QJ.step (YldS.yld (y_move rfl)) rfl ?_
  refine QJ.step (YldS.yld (y_move rfl)) rfl ?_
  obtain ⟨r8, h9, hm⟩ := bindS hm
  refine QJ.step (y_call Tryd.call97 rfl (RetG.quiet fun w hw => ok_s_l00Has h9 w _ (hr6.st hw))) rfl ?_
  refine QJ.done ?_
  refine PJ.next ?_
  refine WJ.cond (t := r8) rfl (fun hb10 => ?_) (fun hb10 => ?_)
  · replace hm := ifT hm hb10
    refine WJ.seq ?_
    refine WJ.quiet ?_
    refine QJ.step (YldS.yld (y_assign rfl)) rfl ?_
    refine QJ.done ?_
    refine PJ.next ?_
    refine WJ.ret ?_
    refine PJ.then_ret ?_
    obtain rfl := Option.some.inj hm
    refine PJ.sel (L' := []) [] ⟨List.nodup_nil, rfl⟩ ?_
    exact PJ.retn (vs := [.bool false]) Tryd.results54 ⟨rfl, trivial⟩ ⟨rfl, rfl⟩
  · replace hm := ifF hm hb10
    refine WJ.skip ?_
    refine PJ.next ?_
    obtain ⟨kj11, hk12, hm⟩ := withK_open hm
    refine WJ.join (X := Unit) (fun (_ : Unit) => kj11  = some r) (fun (_ : Unit) => []) (fun (_ : Unit) => []) ?_ ?_
    · clear hk12
      refine WJ.seq ?_
      refine WJ.quiet ?_
      refine QJ.step (YldS.yld (y_assign rfl)) rfl ?_
      refine QJ.done ?_
      refine PJ.next ?_
      refine WJ.block ?_
      refine WJ.sel (L' := (fun (x : Int) => []) 0) [] ⟨List.nodup_nil, rfl⟩ ?_
      refine WJ.sub (m' := (fun (x : Int) => [(0, v2), (1, v5), (2, .int .i64 k7), (7, .int .i64 x)]) 0) ⟨rfl, rfl, rfl, rfl, trivial⟩ ?_
      refine WJ.loop (X := Int) (fun N (x : Int) => s_l18Can_l1 kj11 list1 taken4 k7 N x = some r) (fun (x : Int) => [(0, v2), (1, v5), (2, .int .i64 k7), (7, .int .i64 x)]) (fun (x : Int) => []) ?_ N 0 hm
      · rintro N i13 hI
        have hm := hI; clear hI
        cases N with
        | zero => cases hm
        | succ N =>
        unfold s_l18Can_l1 at hm
        refine WJ.seq ?_
        refine WJ.seq ?_
        refine WJ.quiet ?_
        refine QJ.step (YldS.yld (y_move rfl)) rfl ?_
        refine QJ.step (YldS.yld (y_move rfl)) rfl ?_
        refine QJ.step (YldS.yld (y_move rfl)) rfl ?_
        obtain ⟨e14, h15, hm⟩ := bindS hm
        obtain ⟨ad16, _, ⟨v19, rfl, hr20⟩, ha17, hy18⟩ := hr3.elem h15
        refine QJ.step (YldS.yld (hy18 Tryd.runUnderlying24 Tryd.sizeOf47 rfl rfl)) rfl ?_
        refine QJ.step (YldS.yld (y_fld (ad := ad16) fld47_2 rfl)) rfl ?_
        refine QJ.step (YldS.yld (y_load1 (v := v19) Tryd.isAgg26 (ha17.sub 2 1) St.frozenC rfl)) rfl ?_
        refine QJ.step (YldS.yld (y_lenS Tryd.runUnderlying26 hr20 rfl)) rfl ?_
        refine QJ.step (YldS.yld (y_bin rfl rfl rfl)) rfl ?_
        refine QJ.done ?_
        refine PJ.next ?_
        refine WJ.cond (t := decide (i13 < (List.length e14.needs : Int))) rfl (fun hb21 => ?_) (fun hb21 => ?_)
        · replace hm := ifT hm hb21
          refine WJ.skip ?_
          refine PJ.next ?_
          refine WJ.seq ?_
          refine WJ.block ?_
          refine WJ.seq ?_
          refine WJ.quiet ?_
          refine QJ.step (YldS.yld (y_move rfl)) rfl ?_
          refine QJ.step (YldS.yld (y_move rfl)) rfl ?_
          refine QJ.step (YldS.yld (y_move rfl)) rfl ?_
          obtain ⟨e22, h23, hm⟩ := bindS hm
          obtain ⟨ad24, _, ⟨v27, rfl, hr28⟩, ha25, hy26⟩ := hr3.elem h23
          refine QJ.step (YldS.yld (hy26 Tryd.runUnderlying24 Tryd.sizeOf47 rfl rfl)) rfl ?_
          refine QJ.step (YldS.yld (y_fld (ad := ad24) fld47_2 rfl)) rfl ?_
          refine QJ.step (YldS.yld (y_load1 (v := v27) Tryd.isAgg26 (ha25.sub 2 1) St.frozenC rfl)) rfl ?_
          refine QJ.step (YldS.yld (y_move rfl)) rfl ?_
          obtain ⟨e29, h30, hm⟩ := bindS hm
          obtain ⟨ad31, _, rfl, ha32, hy33⟩ := hr28.elem h30
          refine QJ.step (YldS.yld (hy33 Tryd.runUnderlying26 Tryd.sizeOf2 rfl rfl)) rfl ?_
          refine QJ.step (YldS.yld (y_load1 (v := .int .i64 e29) Tryd.isAgg2 ha32 St.frozenC rfl)) rfl ?_
          obtain ⟨r34, h35, hm⟩ := bindS hm
          refine QJ.step (y_call Tryd.call97 rfl (RetG.quiet fun w hw => ok_s_l00Has h35 w _ (hr6.st hw))) rfl ?_
          refine QJ.step (YldS.yld (y_not rfl)) rfl ?_
          refine QJ.done ?_
          refine PJ.next ?_
          refine WJ.cond (t := !r34) rfl (fun hb36 => ?_) (fun hb36 => ?_)
          · replace hm := ifT hm hb36
            refine WJ.seq ?_
            refine WJ.quiet ?_
            refine QJ.step (YldS.yld (y_assign rfl)) rfl ?_
            refine QJ.done ?_
            refine PJ.next ?_
            refine WJ.ret ?_
            refine PJ.block_ret (PJ.then_ret (PJ.then_ret (PJ.block_ret (PJ.then_ret ?_))))
            obtain rfl := Option.some.inj hm
            refine PJ.sel (L' := []) [] ⟨List.nodup_nil, rfl⟩ ?_
            exact PJ.retn (vs := [.bool false]) Tryd.results54 ⟨rfl, trivial⟩ ⟨rfl, rfl⟩
          · replace hm := ifF hm hb36
            refine WJ.skip ?_
            refine PJ.block_normal (PJ.next ?_)
            refine WJ.quiet ?_
            refine QJ.step (YldS.yld (y_move rfl)) rfl ?_
            refine QJ.step (YldS.yld (y_bin rfl rfl rfl)) rfl ?_
            refine QJ.step (YldS.yld (y_assign rfl)) rfl ?_
            refine QJ.done ?_
            exact PJ.round (w64 (i13 + 1)) [] hm ⟨rfl, rfl, rfl, rfl, trivial⟩ ⟨List.nodup_nil, rfl⟩
        · replace hm := ifF hm hb21
          refine WJ.exit ?_
          refine PJ.then_exit (PJ.then_exit (PJ.block_exit ?_))
          exact PJ.joined () [] hm trivial ⟨List.nodup_nil, rfl⟩
    · rintro _ hm
      subst hk12
      refine WJ.seq ?_
      refine WJ.quiet ?_
      refine QJ.step (YldS.yld (y_assign rfl)) rfl ?_
      refine QJ.done ?_
      refine PJ.next ?_
      refine WJ.ret ?_
      obtain rfl := Option.some.inj hm
      refine PJ.sel (L' := []) [] ⟨List.nodup_nil, rfl⟩ ?_
      exact PJ.retn (vs := [.bool true]) Tryd.results54 ⟨rfl, trivial⟩ ⟨rfl, rfl⟩

set_option maxRecDepth 100000 in
set_option maxHeartbeats 1000000 in
theorem ok_s_LessonOrder {N : Nat} {list1 : List Lesson} {r : (List Int) × Int} (hm : s_LessonOrder N list1 = some r) (w : World) (v2 : Value) (hr3 : RdS w (cx w).Fz v2 (shLesson.rp fI64.rp) list1) :
    Calls Tryd.prog 8 #[v2] w (RetG (cx w) fun u L => ∃ (u1 : Value), (u = tup [u1, .int .i64 r.2] ∧ L = [row u1 2 fI64 r.1])) := by
  unfold s_LessonOrder at hm
  refine Calls.enter [v2] Tryd.func8 rfl Tryd.ntmps8 rfl ?_
  refine WJ.seq ?_
  refine WJ.quiet ?_
  refine QJ.step (YldS.yld (y_assign rfl)) rfl ?_
  refine QJ.step (YldS.yld (y_assign rfl)) rfl ?_
  refine QJ.done ?_
  refine PJ.next ?_
  refine WJ.seq ?_
  refine WJ.seq ?_
  refine WJ.quiet ?_
  refine QJ.step (YldS.yld (y_move rfl)) rfl ?_
  obtain ⟨r4, h5, hm⟩ := bindS hm
  refine QJ.step (y_call Tryd.call52 rfl (RetG.quiet fun w hw => ok_s_l18Ok h5 w _ (hr3.st hw))) rfl ?_
  refine QJ.step (YldS.yld (y_not rfl)) rfl ?_
  refine QJ.done ?_
  refine PJ.next ?_
  refine WJ.cond (t := !r4) rfl (fun hb6 => ?_) (fun hb6 => ?_)
  · replace hm := ifT hm hb6
    refine WJ.seq ?_
    refine WJ.quiet ?_
    refine QJ.step (YldS.yld (y_assign rfl)) rfl ?_
    refine QJ.step (YldS.yld (y_assign rfl)) rfl ?_
    refine QJ.done ?_
    refine PJ.next ?_
    refine WJ.ret ?_
    refine PJ.then_ret ?_
    refine PJ.nil_row 2 fI64 ?_
    obtain rfl := Option.some.inj hm
    refine PJ.sel (L' := [row (.slice none 0 0) 2 fI64 []]) [0] ⟨by decide, rfl⟩ ?_
    exact PJ.retn (vs := [(.slice none 0 0), .int .i64 1]) Tryd.results8 ⟨rfl, rfl, trivial⟩ ⟨_, rfl, rfl⟩
  · replace hm := ifF hm hb6
    refine WJ.skip ?_
    refine PJ.next ?_
    refine WJ.seq ?_
    refine WJ.seq ?_
    refine WJ.quiet ?_
    refine QJ.step (YldS.yld (y_move rfl)) rfl ?_
    obtain ⟨r7, h8, hm⟩ := bindS hm
    refine QJ.step (y_call Tryd.call53 rfl (RetG.quiet fun w hw => ok_s_l18Circle h8 w _ (hr3.st hw))) rfl ?_
    refine QJ.step (YldS.yld (y_bin rfl rfl rfl)) rfl ?_
    refine QJ.done ?_
    refine PJ.next ?_
    refine WJ.cond (t := decide (r7 ≥ 0)) rfl (fun hb9 => ?_) (fun hb9 => ?_)
    · replace hm := ifT hm hb9
      refine WJ.seq ?_
      refine WJ.quiet ?_
      refine QJ.step (YldS.yld (y_assign rfl)) rfl ?_
      refine QJ.step (YldS.yld (y_assign rfl)) rfl ?_
      refine QJ.done ?_
      refine PJ.next ?_
      refine WJ.ret ?_
      refine PJ.then_ret ?_
      refine PJ.nil_row 2 fI64 ?_
      obtain rfl := Option.some.inj hm
      refine PJ.sel (L' := [row (.slice none 0 0) 2 fI64 []]) [0] ⟨by decide, rfl⟩ ?_
      exact PJ.retn (vs := [(.slice none 0 0), .int .i64 9]) Tryd.results8 ⟨rfl, rfl, trivial⟩ ⟨_, rfl, rfl⟩
    · replace hm := ifF hm hb9
      refine WJ.skip ?_
      refine PJ.next ?_
      refine WJ.seq ?_
      refine WJ.reg ?_
      refine SJ.buildSlice (R := fI64) (os := []) [] Tryd.runUnderlying26 Tryd.sizeOf2 Tryd.zeroValue2 rfl rfl rfl rfl rfl rfl fun v10 => ?_
      refine SJ.q (YldS.yld (y_assign rfl)) rfl ?_
      refine SJ.nil ?_
      refine PJ.next ?_
      obtain ⟨kj13, hk14, hm⟩ := withK_open hm
      refine WJ.join (X := (List Int) × Value) (fun (x : (List Int) × Value) => kj13 x.1 = some r) (fun (x : (List Int) × Value) => [(4, x.2)]) (fun (x : (List Int) × Value) => [row x.2 2 fI64 x.1]) ?_ ?_
      · clear hk14
        refine WJ.block ?_
        refine WJ.sel (L' := (fun (x : (List Int) × Value) => [row x.2 2 fI64 x.1]) ([], v10)) [0] ⟨by decide, rfl⟩ ?_
        refine WJ.sub (m' := (fun (x : (List Int) × Value) => [(0, v2), (4, x.2)]) ([], v10)) ⟨rfl, rfl, trivial⟩ ?_
        refine WJ.loop (X := (List Int) × Value) (fun N (x : (List Int) × Value) => s_LessonOrder_l1 kj13 list1 N x.1 = some r) (fun (x : (List Int) × Value) => [(0, v2), (4, x.2)]) (fun (x : (List Int) × Value) => [row x.2 2 fI64 x.1]) ?_ N ([], v10) hm
        · rintro N ⟨l15, v16⟩ hI
          have hm := hI; clear hI
          cases N with
          | zero => cases hm
          | succ N =>
          unfold s_LessonOrder_l1 at hm
          refine WJ.seq ?_
          refine WJ.seq ?_
          refine WJ.quiet ?_
          refine QJ.step (YldS.yld (y_move rfl)) rfl ?_
          refine QJ.step (YldS.yld (y_lenRow (k := 0) rfl Tryd.runUnderlying26 rfl)) rfl ?_
          refine QJ.step (YldS.yld (y_move rfl)) rfl ?_
          refine QJ.step (YldS.yld (y_lenS Tryd.runUnderlying24 hr3 rfl)) rfl ?_
          refine QJ.step (YldS.yld (y_bin rfl rfl rfl)) rfl ?_
          refine QJ.done ?_
          refine PJ.next ?_
          refine WJ.cond (t := decide ((List.length l15 : Int) < (List.length list1 : Int))) rfl (fun hb17 => ?_) (fun hb17 => ?_)
          · replace hm := ifT hm hb17
            refine WJ.skip ?_
            refine PJ.next ?_
            refine WJ.block ?_
            refine WJ.seq ?_
            refine WJ.quiet ?_
            refine QJ.step (YldS.yld (y_assign rfl)) rfl ?_
            refine QJ.done ?_
            refine PJ.next ?_
            obtain ⟨kj19, hk20, hm⟩ := withK_open hm
            refine WJ.join (X := Int) (fun (x : Int) => kj19 x = some r) (fun (x : Int) => [(0, v2), (4, v16), (5, .int .i64 x)]) (fun (x : Int) => [row v16 2 fI64 l15]) ?_ ?_
            · clear hk20
              refine WJ.seq ?_
              refine WJ.quiet ?_
              refine QJ.step (YldS.yld (y_assign rfl)) rfl ?_
              refine QJ.done ?_
              refine PJ.next ?_
              refine WJ.block ?_
              refine WJ.sel (L' := (fun (x : Int × Int) => [row v16 2 fI64 l15]) ((-1), 0)) [0] ⟨by decide, rfl⟩ ?_
              refine WJ.sub (m' := (fun (x : Int × Int) => [(0, v2), (4, v16), (5, .int .i64 x.1), (6, .int .i64 x.2)]) ((-1), 0)) ⟨rfl, rfl, rfl, rfl, trivial⟩ ?_
              refine WJ.loop (X := Int × Int) (fun N (x : Int × Int) => s_LessonOrder_l2 kj19 list1 l15 N x.1 x.2 = some r) (fun (x : Int × Int) => [(0, v2), (4, v16), (5, .int .i64 x.1), (6, .int .i64 x.2)]) (fun (x : Int × Int) => [row v16 2 fI64 l15]) ?_ N ((-1), 0) hm
              · rintro N ⟨best21, k22⟩ hI
                have hm := hI; clear hI
                cases N with
                | zero => cases hm
                | succ N =>
                unfold s_LessonOrder_l2 at hm
                refine WJ.seq ?_
                refine WJ.seq ?_
                refine WJ.quiet ?_
                refine QJ.step (YldS.yld (y_move rfl)) rfl ?_
                refine QJ.step (YldS.yld (y_move rfl)) rfl ?_
                refine QJ.step (YldS.yld (y_lenS Tryd.runUnderlying24 hr3 rfl)) rfl ?_
                refine QJ.step (YldS.yld (y_bin rfl rfl rfl)) rfl ?_
                refine QJ.done ?_
                refine PJ.next ?_
                refine WJ.cond (t := decide (k22 < (List.length list1 : Int))) rfl (fun hb23 => ?_) (fun hb23 => ?_)
                · replace hm := ifT hm hb23
                  refine WJ.skip ?_
                  refine PJ.next ?_
                  obtain ⟨kj25, hk26, hm⟩ := withK_open hm
                  refine WJ.join (X := Int) (fun (x : Int) => kj25 x = some r) (fun (x : Int) => [(0, v2), (4, v16), (5, .int .i64 x), (6, .int .i64 k22)]) (fun (x : Int) => [row v16 2 fI64 l15]) ?_ ?_
                  · clear hk26
                    refine WJ.block ?_
                    refine WJ.seq ?_
                    refine WJ.quiet_draw follows (by kernel_rfl) ?_
                    refine QJ.step (YldS.yld (y_move rfl)) rfl ?_
                    refine QJ.step (YldS.yld (y_move rfl)) rfl ?_
                    refine QJ.step (YldS.yld (y_move rfl)) rfl ?_
                    obtain ⟨r27, h28, hm⟩ := bindS hm
                    refine QJ.step (y_call Tryd.call54 rfl (RetG.quiet fun w hw => ok_s_l18Can h28 w _ (hr3.st hw) _ (hw.row_rd (k := 0) rfl))) rfl ?_
                    refine QJ.step (YldS.yld (y_move rfl)) rfl ?_
                    obtain ⟨t29, h30, hm⟩ := bindS hm
                    refine QJ.cut 16 [(0, v2), (4, v16), (5, .int .i64 best21), (6, .int .i64 k22), (45, .bool t29)] ?_ ?_
                    · rcases Bool.eq_false_or_eq_true r27 with hb31 | hb31
                      · replace h30 := andT h30 hb31
                        refine QJ.on rfl rfl (cB hb31) (YldS.yld (y_move rfl)) rfl ?_
                        refine QJ.on rfl rfl (cB hb31) (YldS.yld (y_bin rfl rfl rfl)) rfl ?_
                        refine QJ.on rfl rfl (cB hb31) (YldS.yld (y_move rfl)) rfl ?_
                        obtain ⟨t32, h33, h30⟩ := bindS h30
                        refine QJ.cut 12 [(0, v2), (4, v16), (5, .int .i64 best21), (6, .int .i64 k22), (29, .bool r27), (44, .bool t32)] ?_ ?_
                        · rcases Bool.eq_false_or_eq_true (decide (best21 < 0)) with hb34 | hb34
                          · obtain rfl := orT h33 hb34
                            refine QJ.off rfl rfl (cB hb34) rfl rfl ?_
                            refine QJ.off rfl rfl (cB hb34) rfl rfl ?_
                            refine QJ.off rfl rfl (cB hb34) rfl rfl ?_
                            refine QJ.off rfl rfl (cB hb34) rfl rfl ?_
                            refine QJ.off rfl rfl (cB hb34) rfl rfl ?_
                            refine QJ.off rfl rfl (cB hb34) rfl rfl ?_
                            refine QJ.off rfl rfl (cB hb34) rfl rfl ?_
                            refine QJ.off rfl rfl (cB hb34) rfl rfl ?_
                            refine QJ.off rfl rfl (cB hb34) rfl rfl ?_
                            refine QJ.off rfl rfl (cB hb34) rfl rfl ?_
                            refine QJ.off rfl rfl (cB hb34) rfl rfl ?_
                            refine QJ.on rfl rfl (cB hb31) (YldS.yld (y_pick_t (cB hb34) rfl)) rfl ?_
                            exact QJ.cut_end ⟨rfl, rfl, rfl, rfl, rfl, rfl, trivial⟩
                          · replace h33 := orF h33 hb34
                            refine QJ.on rfl rfl (cB hb34) (YldS.yld (y_move rfl)) rfl ?_
                            refine QJ.on rfl rfl (cB hb34) (YldS.yld (y_move rfl)) rfl ?_
                            obtain ⟨e35, h36, h33⟩ := bindS h33
                            obtain ⟨ad37, _, ⟨v40, rfl, hr41⟩, ha38, hy39⟩ := hr3.elem h36
                            refine QJ.on rfl rfl (cB hb34) (YldS.yld (hy39 Tryd.runUnderlying24 Tryd.sizeOf47 rfl rfl)) rfl ?_
                            refine QJ.on rfl rfl (cB hb34) (YldS.yld (y_fld (ad := ad37) fld47_3 rfl)) rfl ?_
                            refine QJ.on rfl rfl (cB hb34) (YldS.yld (y_load1 (v := .int .i64 e35.hours) Tryd.isAgg2 (ha38.sub 3 1) St.frozenC rfl)) rfl ?_
                            refine QJ.on rfl rfl (cB hb34) (YldS.yld (y_move rfl)) rfl ?_
                            refine QJ.on rfl rfl (cB hb34) (YldS.yld (y_move rfl)) rfl ?_
                            obtain ⟨e42, h43, h33⟩ := bindS h33
                            obtain ⟨ad44, _, ⟨v47, rfl, hr48⟩, ha45, hy46⟩ := hr3.elem h43
                            refine QJ.on rfl rfl (cB hb34) (YldS.yld (hy46 Tryd.runUnderlying24 Tryd.sizeOf47 rfl rfl)) rfl ?_
                            refine QJ.on rfl rfl (cB hb34) (YldS.yld (y_fld (ad := ad44) fld47_3 rfl)) rfl ?_
                            refine QJ.on rfl rfl (cB hb34) (YldS.yld (y_load1 (v := .int .i64 e42.hours) Tryd.isAgg2 (ha45.sub 3 1) St.frozenC rfl)) rfl ?_
                            refine QJ.on rfl rfl (cB hb34) (YldS.yld (y_bin rfl rfl rfl)) rfl ?_
                            refine QJ.on rfl rfl (cB hb31) (YldS.yld (y_pick_f (cB hb34) rfl)) rfl ?_
                            obtain rfl := Option.some.inj h33
                            exact QJ.cut_end ⟨rfl, rfl, rfl, rfl, rfl, rfl, trivial⟩
                        refine QJ.step (YldS.yld (y_pick_t (cB hb31) rfl)) rfl ?_
                        obtain rfl := Option.some.inj h30
                        exact QJ.cut_end ⟨rfl, rfl, rfl, rfl, rfl, trivial⟩
                      · obtain rfl := andF h30 hb31
                        refine QJ.off rfl rfl (cB hb31) rfl rfl ?_
                        refine QJ.off rfl rfl (cB hb31) rfl rfl ?_
                        refine QJ.off rfl rfl (cB hb31) rfl rfl ?_
                        refine QJ.off_undef rfl rfl rfl rfl ?_
                        refine QJ.off_undef rfl rfl rfl rfl ?_
                        refine QJ.off_undef rfl rfl rfl rfl ?_
                        refine QJ.off_undef rfl rfl rfl rfl ?_
                        refine QJ.off_undef rfl rfl rfl rfl ?_
                        refine QJ.off_undef rfl rfl rfl rfl ?_
                        refine QJ.off_undef rfl rfl rfl rfl ?_
                        refine QJ.off_undef rfl rfl rfl rfl ?_
                        refine QJ.off_undef rfl rfl rfl rfl ?_
                        refine QJ.off_undef rfl rfl rfl rfl ?_
                        refine QJ.off_undef rfl rfl rfl rfl ?_
                        refine QJ.off rfl rfl (cB hb31) rfl rfl ?_
                        refine QJ.step (YldS.yld (y_pick_f (cB hb31) rfl)) rfl ?_
                        exact QJ.cut_end ⟨rfl, rfl, rfl, rfl, rfl, trivial⟩
                    refine QJ.done ?_
                    refine PJ.next ?_
                    refine WJ.cond (t := t29) rfl (fun hb49 => ?_) (fun hb49 => ?_)
                    · replace hm := ifT hm hb49
                      refine WJ.quiet ?_
                      refine QJ.step (YldS.yld (y_move rfl)) rfl ?_
                      refine QJ.step (YldS.yld (y_assign rfl)) rfl ?_
                      refine QJ.done ?_
                      refine PJ.block_normal ?_
                      exact PJ.joined k22 [0] hm ⟨rfl, rfl, rfl, rfl, trivial⟩ ⟨by decide, rfl⟩
                    · replace hm := ifF hm hb49
                      refine WJ.skip ?_
                      refine PJ.block_normal ?_
                      exact PJ.joined best21 [0] hm ⟨rfl, rfl, rfl, rfl, trivial⟩ ⟨by decide, rfl⟩
                  · rintro best24 hm
                    subst hk26
                    refine WJ.quiet ?_
                    refine QJ.step (YldS.yld (y_move rfl)) rfl ?_
                    refine QJ.step (YldS.yld (y_bin rfl rfl rfl)) rfl ?_
                    refine QJ.step (YldS.yld (y_assign rfl)) rfl ?_
                    refine QJ.done ?_
                    exact PJ.round (best24, w64 (k22 + 1)) [0] hm ⟨rfl, rfl, rfl, rfl, trivial⟩ ⟨by decide, rfl⟩
                · replace hm := ifF hm hb23
                  refine WJ.exit ?_
                  refine PJ.then_exit (PJ.then_exit (PJ.block_exit ?_))
                  exact PJ.joined best21 [0] hm ⟨rfl, rfl, rfl, trivial⟩ ⟨by decide, rfl⟩
            · rintro best18 hm
              subst hk20
              refine WJ.reg ?_
              refine SJ.q (YldS.yld (y_move rfl)) rfl ?_
              refine SJ.q (YldS.yld (y_move rfl)) rfl ?_
              refine SJ.buildSlice (R := fI64) (os := [.tmp 48]) [best18] Tryd.runUnderlying26 Tryd.sizeOf2 Tryd.zeroValue2 rfl rfl rfl rfl rfl rfl fun v50 => ?_
              obtain ⟨l51, h52, hm⟩ := bindS hm
              refine SJ.append (k := 1) (R := fI64) h52 rfl Tryd.underlying26 el2 rfl rfl rfl (fun w hw => (hw.row_rd (k := 0) rfl)) rfl fun v53 => ?_
              refine SJ.q (YldS.yld (y_assign rfl)) rfl ?_
              refine SJ.nil ?_
              refine PJ.block_normal ?_
              exact PJ.round (l51, v53) [1] hm ⟨rfl, rfl, trivial⟩ ⟨by decide, rfl⟩
          · replace hm := ifF hm hb17
            refine WJ.exit ?_
            refine PJ.then_exit (PJ.then_exit (PJ.block_exit ?_))
            exact PJ.joined (l15, v16) [0] hm ⟨rfl, trivial⟩ ⟨by decide, rfl⟩
      · rintro ⟨l11, v12⟩ hm
        subst hk14
        refine WJ.seq ?_
        refine WJ.quiet ?_
        refine QJ.step (YldS.yld (y_move rfl)) rfl ?_
        refine QJ.step (YldS.yld (y_assign rfl)) rfl ?_
        refine QJ.step (YldS.yld (y_assign rfl)) rfl ?_
        refine QJ.done ?_
        refine PJ.next ?_
        refine WJ.ret ?_
        obtain rfl := Option.some.inj hm
        refine PJ.sel (L' := [row v12 2 fI64 l11]) [0] ⟨by decide, rfl⟩ ?_
        exact PJ.retn (vs := [v12, .int .i64 0]) Tryd.results8 ⟨rfl, rfl, trivial⟩ ⟨_, rfl, rfl⟩

set_option maxRecDepth 100000 in
set_option maxHeartbeats 1000000 in
theorem ok_i_LessonCircle {N : Nat} {list1 : List Lesson} {r : Int × Int} (hm : i_LessonCircle N list1 = some r) (w : World) (v2 : Value) (hr3 : RdS w (cx w).Fz v2 (shLesson.rp fI64.rp) list1) :
    Calls Tryd.prog 9 #[v2] w (Ret (cx w) (tup [.int .i64 r.1, .int .i64 r.2])) := by
  unfold i_LessonCircle at hm
  refine Calls.enter [v2] Tryd.func9 rfl Tryd.ntmps9 rfl ?_
  refine WJ.seq ?_
  refine WJ.quiet ?_
  refine QJ.step (YldS.yld (y_assign rfl)) rfl ?_
  refine QJ.step (YldS.yld (y_assign rfl)) rfl ?_
  refine QJ.done ?_
  refine PJ.next ?_
  refine WJ.seq ?_
  refine WJ.seq ?_
  refine WJ.quiet ?_
  refine QJ.step (YldS.yld (y_move rfl)) rfl ?_
  obtain ⟨r4, h5, hm⟩ := bindS hm
  refine QJ.step (y_call Tryd.call25 rfl (RetG.quiet fun w hw => ok_i_ValidLessons h5 w _ (hr3.st hw))) rfl ?_
  refine QJ.step (YldS.yld (y_not rfl)) rfl ?_
  refine QJ.done ?_
  refine PJ.next ?_
  refine WJ.cond (t := !r4) rfl (fun hb6 => ?_) (fun hb6 => ?_)
  · replace hm := ifT hm hb6
    refine WJ.seq ?_
    refine WJ.quiet ?_
    refine QJ.step (YldS.yld (y_assign rfl)) rfl ?_
    refine QJ.step (YldS.yld (y_assign rfl)) rfl ?_
    refine QJ.done ?_
    refine PJ.next ?_
    refine WJ.ret ?_
    refine PJ.then_ret ?_
    obtain rfl := Option.some.inj hm
    refine PJ.sel (L' := []) [] ⟨List.nodup_nil, rfl⟩ ?_
    exact PJ.retn (vs := [.int .i64 0, .int .i64 1]) Tryd.results9 ⟨rfl, rfl, trivial⟩ ⟨rfl, rfl⟩
  · replace hm := ifF hm hb6
    refine WJ.skip ?_
    refine PJ.next ?_
    refine WJ.seq ?_
    refine WJ.quiet ?_
    refine QJ.step (YldS.yld (y_move rfl)) rfl ?_
    obtain ⟨r7, h8, hm⟩ := bindS hm
    refine QJ.step (y_call Tryd.call50 rfl (RetG.quiet fun w hw => ok_i_lessonCircle h8 w _ (hr3.st hw))) rfl ?_
    refine QJ.step (YldS.yld (y_assign rfl)) rfl ?_
    refine QJ.step (YldS.yld (y_assign rfl)) rfl ?_
    refine QJ.done ?_
    refine PJ.next ?_
    refine WJ.ret ?_
    obtain rfl := Option.some.inj hm
    refine PJ.sel (L' := []) [] ⟨List.nodup_nil, rfl⟩ ?_
    exact PJ.retn (vs := [.int .i64 r7, .int .i64 0]) Tryd.results9 ⟨rfl, rfl, trivial⟩ ⟨rfl, rfl⟩

set_option maxRecDepth 100000 in
set_option maxHeartbeats 1000000 in
theorem ok_s_LessonCircle {N : Nat} {list1 : List Lesson} {r : Int × Int} (hm : s_LessonCircle N list1 = some r) (w : World) (v2 : Value) (hr3 : RdS w (cx w).Fz v2 (shLesson.rp fI64.rp) list1) :
    Calls Tryd.prog 10 #[v2] w (Ret (cx w) (tup [.int .i64 r.1, .int .i64 r.2])) := by
  unfold s_LessonCircle at hm
  refine Calls.enter [v2] Tryd.func10 rfl Tryd.ntmps10 rfl ?_
  refine WJ.seq ?_
  refine WJ.quiet ?_
  refine QJ.step (YldS.yld (y_assign rfl)) rfl ?_
  refine QJ.step (YldS.yld (y_assign rfl)) rfl ?_
  refine QJ.done ?_
  refine PJ.next ?_
  refine WJ.seq ?_
  refine WJ.seq ?_
  refine WJ.quiet ?_
  refine QJ.step (YldS.yld (y_move rfl)) rfl ?_
  obtain ⟨r4, h5, hm⟩ := bindS hm
  refine QJ.step (y_call Tryd.call52 rfl (RetG.quiet fun w hw => ok_s_l18Ok h5 w _ (hr3.st hw))) rfl ?_
  refine QJ.step (YldS.yld (y_not rfl)) rfl ?_
  refine QJ.done ?_
  refine PJ.next ?_
  refine WJ.cond (t := !r4) rfl (fun hb6 => ?_) (fun hb6 => ?_)
  · replace hm := ifT hm hb6
    refine WJ.seq ?_
    refine WJ.quiet ?_
    refine QJ.step (YldS.yld (y_assign rfl)) rfl ?_
    refine QJ.step (YldS.yld (y_assign rfl)) rfl ?_
    refine QJ.done ?_
    refine PJ.next ?_
    refine WJ.ret ?_
    refine PJ.then_ret ?_
    obtain rfl := Option.some.inj hm
    refine PJ.sel (L' := []) [] ⟨List.nodup_nil, rfl⟩ ?_
    exact PJ.retn (vs := [.int .i64 0, .int .i64 1]) Tryd.results10 ⟨rfl, rfl, trivial⟩ ⟨rfl, rfl⟩
  · replace hm := ifF hm hb6
    refine WJ.skip ?_
    refine PJ.next ?_
    refine WJ.seq ?_
    refine WJ.quiet ?_
    refine QJ.step (YldS.yld (y_move rfl)) rfl ?_
    obtain ⟨r7, h8, hm⟩ := bindS hm
    refine QJ.step (y_call Tryd.call53 rfl (RetG.quiet fun w hw => ok_s_l18Circle h8 w _ (hr3.st hw))) rfl ?_
    refine QJ.step (YldS.yld (y_assign rfl)) rfl ?_
    refine QJ.step (YldS.yld (y_assign rfl)) rfl ?_
    refine QJ.done ?_
    refine PJ.next ?_
    refine WJ.ret ?_
    obtain rfl := Option.some.inj hm
    refine PJ.sel (L' := []) [] ⟨List.nodup_nil, rfl⟩ ?_
    exact PJ.retn (vs := [.int .i64 r7, .int .i64 0]) Tryd.results10 ⟨rfl, rfl, trivial⟩ ⟨rfl, rfl⟩

set_option maxRecDepth 100000 in
set_option maxHeartbeats 1000000 in
theorem ok_s_l18Some {N : Nat} {s1 : L00Src} {g2 : Nat} {r : (List Lesson) × (List Int) × L00Src} (hm : s_l18Some N s1 = some r) (w : World) (S : Nat → Prop) (v3 : Value) (hr4 : RdS w (Cx.Fz ⟨w, S⟩) v3 fByte.rp s1.code) (hA : (box g2 112 [v3, .int .i64 s1.at_, .int .u64 s1.seed]).holds w S) :
    Calls Tryd.prog 99 #[pt g2 0] w (RetG ⟨w, S⟩ fun u L => ∃ (u1 : Value) (u2 : List (Raw 4)) (u3 : Value), (u = tup [u1, u3] ∧ L = [box g2 112 [v3, .int .i64 r.2.2.at_, .int .u64 r.2.2.seed], row u1 47 fRaw4 u2, ins shLesson 2 fI64 u2 r.1, row u3 2 fI64 r.2.1])) := by
  unfold s_l18Some at hm
  refine Calls.enter1 hA [pt g2 0] Tryd.func99 rfl Tryd.ntmps99 rfl ?_
  refine WJ.seq ?_
  refine WJ.quiet ?_
  refine QJ.step (YldS.yld (y_assign rfl)) rfl ?_
  refine QJ.step (YldS.yld (y_assign rfl)) rfl ?_
  refine QJ.done ?_
  refine PJ.next ?_
  refine WJ.seq ?_
  refine WJ.reg ?_
  refine SJ.q (YldS.yld (y_move rfl)) rfl ?_
  obtain ⟨r5, h6, hm⟩ := bindS hm
  refine SJ.call1 (k := 0) rfl Tryd.call48 rfl (fun w S hw hA hO => ok_s_l18Bent h6 w S _ (hr4.st1 hw hO) hA) rfl ?_
  rintro v7 _ ⟨_, vs8, rfl, rfl⟩
  refine SJ.q (YldS.yld (y_assign rfl)) rfl ?_
  refine SJ.nil ?_
  refine PJ.next ?_
  refine WJ.seq ?_
  refine WJ.reg ?_
  refine SJ.buildSlice (R := fI64) (os := []) [] Tryd.runUnderlying26 Tryd.sizeOf2 Tryd.zeroValue2 rfl rfl rfl rfl rfl rfl fun v9 => ?_
  refine SJ.q (YldS.yld (y_assign rfl)) rfl ?_
  refine SJ.nil ?_
  refine PJ.next ?_
  obtain ⟨kj14, hk15, hm⟩ := withK_open hm
  refine WJ.join (X := (List Int) × Value × Int × Int) (fun (x : (List Int) × Value × Int × Int) => kj14 x.1 x.2.2.1 x.2.2.2 = some r) (fun (x : (List Int) × Value × Int × Int) => [(0, pt g2 0), (4, v7), (5, x.2.1)]) (fun (x : (List Int) × Value × Int × Int) => [row x.2.1 2 fI64 x.1, box g2 112 [v3, .int .i64 x.2.2.1, .int .u64 x.2.2.2], row v7 47 fRaw4 vs8, ins shLesson 2 fI64 vs8 r5.1]) ?_ ?_
  · clear hk15
    refine WJ.seq ?_
    refine WJ.quiet ?_
    refine QJ.step (YldS.yld (y_assign rfl)) rfl ?_
    refine QJ.done ?_
    refine PJ.next ?_
    refine WJ.block ?_
    refine WJ.sel (L' := (fun (x : (List Int) × Value × Int × Int × Int) => [row x.2.1 2 fI64 x.1, box g2 112 [v3, .int .i64 x.2.2.1, .int .u64 x.2.2.2.1], row v7 47 fRaw4 vs8, ins shLesson 2 fI64 vs8 r5.1]) ([], v9, r5.2.at_, r5.2.seed, 0)) [0, 1, 2, 3] ⟨by decide, rfl⟩ ?_
    refine WJ.sub (m' := (fun (x : (List Int) × Value × Int × Int × Int) => [(0, pt g2 0), (4, v7), (5, x.2.1), (6, .int .i64 x.2.2.2.2)]) ([], v9, r5.2.at_, r5.2.seed, 0)) ⟨rfl, rfl, rfl, rfl, trivial⟩ ?_
    refine WJ.loop (X := (List Int) × Value × Int × Int × Int) (fun N (x : (List Int) × Value × Int × Int × Int) => s_l18Some_l1 kj14 s1 r5 N x.1 x.2.2.1 x.2.2.2.1 x.2.2.2.2 = some r) (fun (x : (List Int) × Value × Int × Int × Int) => [(0, pt g2 0), (4, v7), (5, x.2.1), (6, .int .i64 x.2.2.2.2)]) (fun (x : (List Int) × Value × Int × Int × Int) => [row x.2.1 2 fI64 x.1, box g2 112 [v3, .int .i64 x.2.2.1, .int .u64 x.2.2.2.1], row v7 47 fRaw4 vs8, ins shLesson 2 fI64 vs8 r5.1]) ?_ N ([], v9, r5.2.at_, r5.2.seed, 0) hm
    · rintro N ⟨l16, v17, x18, x19, i20⟩ hI
      have hm := hI; clear hI
      cases N with
      | zero => cases hm
      | succ N =>
      unfold s_l18Some_l1 at hm
      refine WJ.seq ?_
      refine WJ.seq ?_
      refine WJ.quiet ?_
      refine QJ.step (YldS.yld (y_move rfl)) rfl ?_
      refine QJ.step (YldS.yld (y_move rfl)) rfl ?_
      refine QJ.step (YldS.yld (y_lenSh (k := 2) (j := 3) rfl rfl Tryd.runUnderlying24 rfl)) rfl ?_
      refine QJ.step (YldS.yld (y_bin rfl rfl rfl)) rfl ?_
      refine QJ.done ?_
      refine PJ.next ?_
      refine WJ.cond (t := decide (i20 < (List.length r5.1 : Int))) rfl (fun hb21 => ?_) (fun hb21 => ?_)
      · replace hm := ifT hm hb21
        refine WJ.skip ?_
        refine PJ.next ?_
        obtain ⟨kj26, hk27, hm⟩ := withK_open hm
        refine WJ.join (X := Int × Int × (List Int) × Value) (fun (x : Int × Int × (List Int) × Value) => kj26 x.1 x.2.1 x.2.2.1 = some r) (fun (x : Int × Int × (List Int) × Value) => [(0, pt g2 0), (4, v7), (5, x.2.2.2), (6, .int .i64 i20)]) (fun (x : Int × Int × (List Int) × Value) => [box g2 112 [v3, .int .i64 x.1, .int .u64 x.2.1], row x.2.2.2 2 fI64 x.2.2.1, row v7 47 fRaw4 vs8, ins shLesson 2 fI64 vs8 r5.1]) ?_ ?_
        · clear hk27
          refine WJ.block ?_
          refine WJ.seq ?_
          refine WJ.reg ?_
          refine SJ.q (YldS.yld (y_move rfl)) rfl ?_
          obtain ⟨r28, h29, hm⟩ := bindS hm
          refine SJ.call1 (k := 1) rfl Tryd.call67 rfl (fun w S hw hA hO => ok_s_l00Src_one h29 w S _ (hr4.st1 hw hO) hA) rfl ?_
          rintro _ _ ⟨rfl, rfl⟩
          refine SJ.nil ?_
          refine PJ.next ?_
          refine WJ.cond (t := r28.1) rfl (fun hb30 => ?_) (fun hb30 => ?_)
          · replace hm := ifT hm hb30
            refine WJ.reg ?_
            refine SJ.q (YldS.yld (y_move rfl)) rfl ?_
            refine SJ.q (YldS.yld (y_move rfl)) rfl ?_
            refine SJ.buildSlice (R := fI64) (os := [.tmp 19]) [i20] Tryd.runUnderlying26 Tryd.sizeOf2 Tryd.zeroValue2 rfl rfl rfl rfl rfl rfl fun v31 => ?_
            obtain ⟨l32, h33, hm⟩ := bindS hm
            refine SJ.append (k := 2) (R := fI64) h33 rfl Tryd.underlying26 el2 rfl rfl rfl (fun w hw => (hw.row_rd (k := 0) rfl)) rfl fun v34 => ?_
            refine SJ.q (YldS.yld (y_assign rfl)) rfl ?_
            refine SJ.nil ?_
            refine PJ.block_normal ?_
            exact PJ.joined (r28.2.at_, r28.2.seed, l32, v34) [1, 2, 3, 4] hm ⟨rfl, rfl, rfl, rfl, trivial⟩ ⟨by decide, rfl⟩
          · replace hm := ifF hm hb30
            refine WJ.skip ?_
            refine PJ.block_normal ?_
            exact PJ.joined (r28.2.at_, r28.2.seed, l16, v17) [0, 1, 2, 3] hm ⟨rfl, rfl, rfl, rfl, trivial⟩ ⟨by decide, rfl⟩
        · rintro ⟨x22, x23, l24, v25⟩ hm
          subst hk27
          refine WJ.quiet ?_
          refine QJ.step (YldS.yld (y_move rfl)) rfl ?_
          refine QJ.step (YldS.yld (y_bin rfl rfl rfl)) rfl ?_
          refine QJ.step (YldS.yld (y_assign rfl)) rfl ?_
          refine QJ.done ?_
          exact PJ.round (l24, v25, x22, x23, w64 (i20 + 1)) [1, 0, 2, 3] hm ⟨rfl, rfl, rfl, rfl, trivial⟩ ⟨by decide, rfl⟩
      · replace hm := ifF hm hb21
        refine WJ.exit ?_
        refine PJ.then_exit (PJ.then_exit (PJ.block_exit ?_))
        exact PJ.joined (l16, v17, x18, x19) [0, 1, 2, 3] hm ⟨rfl, rfl, rfl, trivial⟩ ⟨by decide, rfl⟩
  · rintro ⟨l10, v11, x12, x13⟩ hm
    subst hk15
    obtain ⟨kj39, hk40, hm⟩ := withK_open hm
    refine WJ.join (X := Int × Int × (List Int) × Value) (fun (x : Int × Int × (List Int) × Value) => kj39 x.1 x.2.1 x.2.2.1 = some r) (fun (x : Int × Int × (List Int) × Value) => [(4, v7), (5, x.2.2.2)]) (fun (x : Int × Int × (List Int) × Value) => [box g2 112 [v3, .int .i64 x.1, .int .u64 x.2.1], row x.2.2.2 2 fI64 x.2.2.1, row v7 47 fRaw4 vs8, ins shLesson 2 fI64 vs8 r5.1]) ?_ ?_
    · clear hk40
      refine WJ.seq ?_
      refine WJ.reg ?_
      refine SJ.q (YldS.yld (y_move rfl)) rfl ?_
      obtain ⟨r41, h42, hm⟩ := bindS hm
      refine SJ.call1 (k := 1) rfl Tryd.call67 rfl (fun w S hw hA hO => ok_s_l00Src_one h42 w S _ (hr4.st1 hw hO) hA) rfl ?_
      rintro _ _ ⟨rfl, rfl⟩
      refine SJ.nil ?_
      refine PJ.next ?_
      refine WJ.cond (t := r41.1) rfl (fun hb43 => ?_) (fun hb43 => ?_)
      · replace hm := ifT hm hb43
        refine WJ.reg ?_
        refine SJ.q (YldS.yld (y_move rfl)) rfl ?_
        refine SJ.q (YldS.yld (y_move rfl)) rfl ?_
        refine SJ.q (YldS.yld (y_move rfl)) rfl ?_
        refine SJ.q (YldS.yld (y_lenSh (k := 2) (j := 3) rfl rfl Tryd.runUnderlying24 rfl)) rfl ?_
        refine SJ.buildSlice (R := fI64) (os := [.const (.int .i64 (-1)), .const (.int .i64 0), .tmp 27]) [(-1), 0, (List.length r5.1 : Int)] Tryd.runUnderlying26 Tryd.sizeOf2 Tryd.zeroValue2 rfl rfl rfl rfl rfl rfl fun v44 => ?_
        obtain ⟨r45, h46, hm⟩ := bindS hm
        refine SJ.call2 (k := 1) rfl Tryd.call80 rfl (fun w S hw hA hO hB => ok_s_l00Src_among h46 w S _ (hr4.st1 hw hO) _ (hB.row_rd (j := 0) (k := 1) rfl rfl) hA) rfl ?_
        rintro _ _ ⟨rfl, rfl⟩
        refine SJ.buildSlice (R := fI64) (os := [.tmp 29]) [r45.1] Tryd.runUnderlying26 Tryd.sizeOf2 Tryd.zeroValue2 rfl rfl rfl rfl rfl rfl fun v47 => ?_
        obtain ⟨l48, h49, hm⟩ := bindS hm
        refine SJ.append (k := 3) (R := fI64) h49 rfl Tryd.underlying26 el2 rfl rfl rfl (fun w hw => (hw.row_rd (k := 0) rfl)) rfl fun v50 => ?_
        refine SJ.q (YldS.yld (y_assign rfl)) rfl ?_
        refine SJ.nil ?_
        exact PJ.joined (r45.2.at_, r45.2.seed, l48, v50) [1, 3, 4, 5] hm ⟨rfl, rfl, trivial⟩ ⟨by decide, rfl⟩
      · replace hm := ifF hm hb43
        refine WJ.skip ?_
        exact PJ.joined (r41.2.at_, r41.2.seed, l10, v11) [0, 1, 2, 3] hm ⟨rfl, rfl, trivial⟩ ⟨by decide, rfl⟩
    · rintro ⟨x35, x36, l37, v38⟩ hm
      subst hk40
      refine WJ.seq ?_
      refine WJ.quiet ?_
      refine QJ.step (YldS.yld (y_move rfl)) rfl ?_
      refine QJ.step (YldS.yld (y_move rfl)) rfl ?_
      refine QJ.step (YldS.yld (y_assign rfl)) rfl ?_
      refine QJ.step (YldS.yld (y_assign rfl)) rfl ?_
      refine QJ.done ?_
      refine PJ.next ?_
      refine WJ.ret ?_
      obtain rfl := Option.some.inj hm
      refine PJ.sel (L' := [box g2 112 [v3, .int .i64 x35, .int .u64 x36], row v7 47 fRaw4 vs8, ins shLesson 2 fI64 vs8 r5.1, row v38 2 fI64 l37]) [0, 2, 3, 1] ⟨by decide, rfl⟩ ?_
      exact PJ.retn (vs := [v7, v38]) Tryd.results99 ⟨rfl, rfl, trivial⟩ ⟨_, _, _, rfl, rfl⟩

set_option maxRecDepth 100000 in
set_option maxHeartbeats 1000000 in
theorem ok_s_l18Only {N : Nat} {code1 : List UInt8} {r : (List Lesson) × (List Int)} (hm : s_l18Only N code1 = some r) (w : World) (v2 : Value) (hr3 : RdS w (cx w).Fz v2 fByte.rp code1) :
    Calls Tryd.prog 55 #[v2] w (RetG (cx w) fun u L => ∃ (u1 : Value) (u2 : List (Raw 4)) (u3 : Value), (u = tup [u1, u3] ∧ L = [row u1 47 fRaw4 u2, ins shLesson 2 fI64 u2 r.1, row u3 2 fI64 r.2])) := by
  unfold s_l18Only at hm
  refine Calls.enter [v2] Tryd.func55 rfl Tryd.ntmps55 rfl ?_
  refine WJ.seq ?_
  refine WJ.quiet ?_
  refine QJ.step (YldS.yld (y_assign rfl)) rfl ?_
  refine QJ.step (YldS.yld (y_assign rfl)) rfl ?_
  refine QJ.done ?_
  refine PJ.next ?_
  refine WJ.seq ?_
  refine WJ.reg ?_
  refine SJ.q (YldS.yld (y_move rfl)) rfl ?_
  obtain ⟨r4, h5, hm⟩ := bindS hm
  refine SJ.call Tryd.call49 rfl (fun w hw => ok_s_l00From h5 w _ (hr3.st hw)) rfl ?_
  rintro _ _ ⟨g6, rfl, rfl⟩
  obtain ⟨r7, h8, hm⟩ := bindS hm
  refine SJ.call1 (k := 0) rfl Tryd.call99 rfl (fun w S hw hA hO => ok_s_l18Some h8 w S _ (hr3.st1 hw hO) hA) rfl ?_
  rintro _ _ ⟨v9, vs10, v11, rfl, rfl⟩
  refine SJ.q (YldS.yld (y_extract rfl rfl)) rfl ?_
  refine SJ.q (YldS.yld (y_extract rfl rfl)) rfl ?_
  refine SJ.q (YldS.yld (y_assign rfl)) rfl ?_
  refine SJ.q (YldS.yld (y_assign rfl)) rfl ?_
  refine SJ.nil ?_
  refine PJ.next ?_
  refine WJ.ret ?_
  obtain rfl := Option.some.inj hm
  refine PJ.sel (L' := [row v9 47 fRaw4 vs10, ins shLesson 2 fI64 vs10 r7.1, row v11 2 fI64 r7.2.1]) [1, 2, 3] ⟨by decide, rfl⟩ ?_
  exact PJ.retn (vs := [v9, v11]) Tryd.results55 ⟨rfl, rfl, trivial⟩ ⟨_, _, _, rfl, rfl⟩

set_option maxRecDepth 100000 in
set_option maxHeartbeats 1000000 in
theorem ok_s_DrawNextLessons {N : Nat} {code1 : List UInt8} {r : (List Lesson) × (List Int)} (hm : s_DrawNextLessons N code1 = some r) (w : World) (v2 : Value) (hr3 : RdS w (cx w).Fz v2 fByte.rp code1) :
    Calls Tryd.prog 11 #[v2] w (RetG (cx w) fun u L => ∃ (u1 : Value) (u2 : List (Raw 4)) (u3 : Value), (u = tup [u1, u3] ∧ L = [row u1 47 fRaw4 u2, ins shLesson 2 fI64 u2 r.1, row u3 2 fI64 r.2])) := by
  unfold s_DrawNextLessons at hm
  refine Calls.enter [v2] Tryd.func11 rfl Tryd.ntmps11 rfl ?_
  refine WJ.seq ?_
  refine WJ.quiet ?_
  refine QJ.step (YldS.yld (y_assign rfl)) rfl ?_
  refine QJ.step (YldS.yld (y_assign rfl)) rfl ?_
  refine QJ.done ?_
  refine PJ.next ?_
  refine WJ.seq ?_
  refine WJ.reg ?_
  refine SJ.q (YldS.yld (y_move rfl)) rfl ?_
  obtain ⟨r4, h5, hm⟩ := bindS hm
  refine SJ.call Tryd.call55 rfl (fun w hw => ok_s_l18Only h5 w _ (hr3.st hw)) rfl ?_
  rintro _ _ ⟨v6, vs7, v8, rfl, rfl⟩
  refine SJ.q (YldS.yld (y_extract rfl rfl)) rfl ?_
  refine SJ.q (YldS.yld (y_extract rfl rfl)) rfl ?_
  refine SJ.q (YldS.yld (y_assign rfl)) rfl ?_
  refine SJ.q (YldS.yld (y_assign rfl)) rfl ?_
  refine SJ.nil ?_
  refine PJ.next ?_
  refine WJ.ret ?_
  obtain rfl := Option.some.inj hm
  refine PJ.sel (L' := [row v6 47 fRaw4 vs7, ins shLesson 2 fI64 vs7 r4.1, row v8 2 fI64 r4.2]) [0, 1, 2] ⟨by decide, rfl⟩ ?_
  exact PJ.retn (vs := [v6, v8]) Tryd.results11 ⟨rfl, rfl, trivial⟩ ⟨_, _, _, rfl, rfl⟩

set_option maxRecDepth 100000 in
set_option maxHeartbeats 1000000 in
theorem ok_i_takenCode {N : Nat} {list1 : List Lesson} {taken4 : List Int} {r : Int} (hm : i_takenCode N list1 taken4 = some r) (w : World) (v2 : Value) (hr3 : RdS w (cx w).Fz v2 (shLesson.rp fI64.rp) list1) (v5 : Value) (hr6 : RdS w (cx w).Fz v5 fI64.rp taken4) :
    Calls Tryd.prog 56 #[v2, v5] w (Ret (cx w) (.int .i64 r)) := by
  unfold i_takenCode at hm
  refine Calls.enter [v2, v5] Tryd.func56 rfl Tryd.ntmps56 rfl ?_
  refine WJ.seq ?_
  refine WJ.quiet ?_
  refine QJ.step (YldS.yld (y_assign rfl)) rfl ?_
  refine QJ.done ?_
  refine PJ.next ?_
  refine WJ.seq ?_
  refine WJ.seq ?_
  refine WJ.quiet ?_
  refine QJ.step (YldS.yld (y_move rfl)) rfl ?_
  obtain ⟨r7, h8, hm⟩ := bindS hm
  refine QJ.step (y_call Tryd.call25 rfl (RetG.quiet fun w hw => ok_i_ValidLessons h8 w _ (hr3.st hw))) rfl ?_
  refine QJ.step (YldS.yld (y_not rfl)) rfl ?_
  refine QJ.done ?_
  refine PJ.next ?_
  refine WJ.cond (t := !r7) rfl (fun hb9 => ?_) (fun hb9 => ?_)
  · replace hm := ifT hm hb9
    refine WJ.seq ?_
    refine WJ.quiet ?_
    refine QJ.step (YldS.yld (y_assign rfl)) rfl ?_
    refine QJ.done ?_
    refine PJ.next ?_
    refine WJ.ret ?_
    refine PJ.then_ret ?_
    obtain rfl := Option.some.inj hm
    refine PJ.sel (L' := []) [] ⟨List.nodup_nil, rfl⟩ ?_
    exact PJ.retn (vs := [.int .i64 1]) Tryd.results56 ⟨rfl, trivial⟩ ⟨rfl, rfl⟩
  · replace hm := ifF hm hb9
    refine WJ.skip ?_
    refine PJ.next ?_
    refine WJ.seq ?_
    refine WJ.seq ?_
    refine WJ.quiet ?_
    refine QJ.step (YldS.yld (y_move rfl)) rfl ?_
    refine QJ.step (YldS.yld (y_move rfl)) rfl ?_
    refine QJ.step (YldS.yld (y_lenS Tryd.runUnderlying24 hr3 rfl)) rfl ?_
    obtain ⟨r10, h11, hm⟩ := bindS hm
    refine QJ.step (y_call Tryd.call77 rfl (RetG.quiet fun w hw => ok_i_areIndices h11 w _ (hr6.st hw))) rfl ?_
    refine QJ.step (YldS.yld (y_not rfl)) rfl ?_
    refine QJ.done ?_
    refine PJ.next ?_
    refine WJ.cond (t := !r10) rfl (fun hb12 => ?_) (fun hb12 => ?_)
    · replace hm := ifT hm hb12
      refine WJ.seq ?_
      refine WJ.quiet ?_
      refine QJ.step (YldS.yld (y_assign rfl)) rfl ?_
      refine QJ.done ?_
      refine PJ.next ?_
      refine WJ.ret ?_
      refine PJ.then_ret ?_
      obtain rfl := Option.some.inj hm
      refine PJ.sel (L' := []) [] ⟨List.nodup_nil, rfl⟩ ?_
      exact PJ.retn (vs := [.int .i64 2]) Tryd.results56 ⟨rfl, trivial⟩ ⟨rfl, rfl⟩
    · replace hm := ifF hm hb12
      refine WJ.skip ?_
      refine PJ.next ?_
      refine WJ.seq ?_
      refine WJ.quiet ?_
      refine QJ.step (YldS.yld (y_assign rfl)) rfl ?_
      refine QJ.done ?_
      refine PJ.next ?_
      refine WJ.ret ?_
      obtain rfl := Option.some.inj hm
      refine PJ.sel (L' := []) [] ⟨List.nodup_nil, rfl⟩ ?_
      exact PJ.retn (vs := [.int .i64 0]) Tryd.results56 ⟨rfl, trivial⟩ ⟨rfl, rfl⟩

set_option maxRecDepth 100000 in
set_option maxHeartbeats 1000000 in
theorem ok_i_marks {N : Nat} {list1 : List Int} {n4 : Int} {r : (List Bool)} (hm : i_marks N list1 n4 = some r) (w : World) (v2 : Value) (hr3 : RdS w (cx w).Fz v2 fI64.rp list1) :
    Calls Tryd.prog 57 #[v2, .int .i64 n4] w (RetG (cx w) fun u L => ∃ (u1 : Value), (u = u1 ∧ L = [row u1 4 fBool r])) := by
  unfold i_marks at hm
  refine Calls.enter [v2, .int .i64 n4] Tryd.func57 rfl Tryd.ntmps57 rfl ?_
  refine WJ.seq ?_
  refine WJ.quiet ?_
  refine QJ.step (YldS.yld (y_assign rfl)) rfl ?_
  refine QJ.done ?_
  refine PJ.next ?_
  refine WJ.seq ?_
  refine WJ.reg ?_
  refine SJ.q (YldS.yld (y_move rfl)) rfl ?_
  obtain ⟨l5, h6, hm⟩ := bindS hm
  refine SJ.makeSlice (R := fBool) (z := false) h6 Tryd.underlying72 el4 rfl rfl rfl fun v7 => ?_
  refine SJ.q (YldS.yld (y_assign rfl)) rfl ?_
  refine SJ.nil ?_
  refine PJ.next ?_
  obtain ⟨kj9, hk10, hm⟩ := withK_open hm
  refine WJ.join (X := (List Bool)) (fun (x : (List Bool)) => kj9 x = some r) (fun (x : (List Bool)) => [(5, v7)]) (fun (x : (List Bool)) => [row v7 4 fBool x]) ?_ ?_
  · clear hk10
    refine WJ.seq ?_
    refine WJ.quiet ?_
    refine QJ.step (YldS.yld (y_move rfl)) rfl ?_
    refine QJ.step (YldS.yld (y_lenS Tryd.runUnderlying26 hr3 rfl)) rfl ?_
    refine QJ.step (YldS.yld (y_move rfl)) rfl ?_
    refine QJ.done ?_
    refine PJ.next ?_
    refine WJ.block ?_
    refine WJ.sel (L' := (fun (x : (List Bool) × Int) => [row v7 4 fBool x.1]) (l5, 0)) [0] ⟨by decide, rfl⟩ ?_
    refine WJ.sub (m' := (fun (x : (List Bool) × Int) => [(5, v7), (10, v2), (11, .int .i64 (List.length list1 : Int)), (12, .int .i64 x.2)]) (l5, 0)) ⟨rfl, rfl, rfl, rfl, trivial⟩ ?_
    refine WJ.loop (X := (List Bool) × Int) (fun N (x : (List Bool) × Int) => i_marks_l1 kj9 list1 N x.1 x.2 = some r) (fun (x : (List Bool) × Int) => [(5, v7), (10, v2), (11, .int .i64 (List.length list1 : Int)), (12, .int .i64 x.2)]) (fun (x : (List Bool) × Int) => [row v7 4 fBool x.1]) ?_ N (l5, 0) hm
    · rintro N ⟨l11, x12⟩ hI
      have hm := hI; clear hI
      cases N with
      | zero => cases hm
      | succ N =>
      unfold i_marks_l1 at hm
      refine WJ.seq ?_
      refine WJ.quiet ?_
      refine QJ.step (YldS.yld (y_bin rfl rfl rfl)) rfl ?_
      refine QJ.done ?_
      refine PJ.next ?_
      refine WJ.seq ?_
      refine WJ.cond (t := decide (x12 < (List.length list1 : Int))) rfl (fun hb13 => ?_) (fun hb13 => ?_)
      · replace hm := ifT hm hb13
        refine WJ.skip ?_
        refine PJ.next ?_
        refine WJ.seq ?_
        refine WJ.block ?_
        refine WJ.seq ?_
        refine WJ.quiet ?_
        obtain ⟨e14, h15, hm⟩ := bindS hm
        obtain ⟨ad16, _, rfl, ha17, hy18⟩ := hr3.elem h15
        refine QJ.step (YldS.yld (hy18 Tryd.runUnderlying26 Tryd.sizeOf2 rfl rfl)) rfl ?_
        refine QJ.step (YldS.yld (y_load1 (v := .int .i64 e14) Tryd.isAgg2 ha17 St.frozenC rfl)) rfl ?_
        refine QJ.step (YldS.yld (y_assign rfl)) rfl ?_
        refine QJ.done ?_
        refine PJ.next ?_
        refine WJ.reg ?_
        refine SJ.q (YldS.yld (y_move rfl)) rfl ?_
        refine SJ.q (YldS.yld (y_move rfl)) rfl ?_
        obtain ⟨e19, h20, hm⟩ := bindS hm
        refine SJ.q (YldS.yld (y_ixRow (k := 0) (R := fBool) rfl Tryd.runUnderlying72 Tryd.sizeOf4 rfl rfl h20)) rfl ?_
        refine SJ.storeRL (k := 0) (i := (Int.toNat e14)) (off := 0) (us := [.bool true]) (b := true) rfl rfl (idx_get h20) rfl rfl Tryd.sizeOf4 rfl rfl rfl ?_
        refine SJ.nil ?_
        refine PJ.block_normal (PJ.next ?_)
        refine WJ.quiet ?_
        refine QJ.step (YldS.yld (y_bin rfl rfl rfl)) rfl ?_
        refine QJ.step (YldS.yld (y_move rfl)) rfl ?_
        refine QJ.done ?_
        exact PJ.round ((List.set l11 (Int.toNat e14) true), w64 (x12 + 1)) [0] hm ⟨rfl, rfl, rfl, rfl, trivial⟩ ⟨by decide, rfl⟩
      · replace hm := ifF hm hb13
        refine WJ.exit ?_
        refine PJ.then_exit (PJ.then_exit (PJ.block_exit ?_))
        exact PJ.joined l11 [0] hm ⟨rfl, trivial⟩ ⟨by decide, rfl⟩
  · rintro l8 hm
    subst hk10
    refine WJ.seq ?_
    refine WJ.quiet ?_
    refine QJ.step (YldS.yld (y_move rfl)) rfl ?_
    refine QJ.step (YldS.yld (y_assign rfl)) rfl ?_
    refine QJ.done ?_
    refine PJ.next ?_
    refine WJ.ret ?_
    obtain rfl := Option.some.inj hm
    refine PJ.sel (L' := [row v7 4 fBool l8]) [0] ⟨by decide, rfl⟩ ?_
    exact PJ.retn (vs := [v7]) Tryd.results57 ⟨rfl, trivial⟩ ⟨_, rfl, rfl⟩

set_option maxRecDepth 100000 in
set_option maxHeartbeats 1000000 in
theorem ok_i_NextLessons {N : Nat} {list1 : List Lesson} {taken4 : List Int} {r : (List Int) × Int} (hm : i_NextLessons N list1 taken4 = some r) (w : World) (v2 : Value) (hr3 : RdS w (cx w).Fz v2 (shLesson.rp fI64.rp) list1) (v5 : Value) (hr6 : RdS w (cx w).Fz v5 fI64.rp taken4) :
    Calls Tryd.prog 12 #[v2, v5] w (RetG (cx w) fun u L => ∃ (u1 : Value), (u = tup [u1, .int .i64 r.2] ∧ L = [row u1 2 fI64 r.1])) := by
  unfold i_NextLessons at hm
  refine Calls.enter [v2, v5] Tryd.func12 rfl Tryd.ntmps12 rfl ?_
  refine WJ.seq ?_
  refine WJ.quiet ?_
  refine QJ.step (YldS.yld (y_assign rfl)) rfl ?_
  refine QJ.step (YldS.yld (y_assign rfl)) rfl ?_
  refine QJ.done ?_
  refine PJ.next ?_
  refine WJ.seq ?_
  refine WJ.seq ?_
  refine WJ.quiet ?_
  refine QJ.step (YldS.yld (y_move rfl)) rfl ?_
  refine QJ.step (YldS.yld (y_move rfl)) rfl ?_
  obtain ⟨r7, h8, hm⟩ := bindS hm
  refine QJ.step (y_call Tryd.call56 rfl (RetG.quiet fun w hw => ok_i_takenCode h8 w _ (hr3.st hw) _ (hr6.st hw))) rfl ?_
  refine QJ.step (YldS.yld (y_assign rfl)) rfl ?_
  refine QJ.done ?_
  refine PJ.next ?_
  refine WJ.seq ?_
  refine WJ.quiet ?_
  refine QJ.step (YldS.yld (y_move rfl)) rfl ?_
  refine QJ.step (YldS.yld (y_bin rfl rfl rfl)) rfl ?_
  refine QJ.done ?_
  refine PJ.next ?_
  refine WJ.cond (t := (r7 != 0)) rfl (fun hb9 => ?_) (fun hb9 => ?_)
  · replace hm := ifT hm hb9
    refine WJ.seq ?_
    refine WJ.quiet ?_
    refine QJ.step (YldS.yld (y_move rfl)) rfl ?_
    refine QJ.step (YldS.yld (y_assign rfl)) rfl ?_
    refine QJ.step (YldS.yld (y_assign rfl)) rfl ?_
    refine QJ.done ?_
    refine PJ.next ?_
    refine WJ.ret ?_
    refine PJ.then_ret ?_
    refine PJ.nil_row 2 fI64 ?_
    obtain rfl := Option.some.inj hm
    refine PJ.sel (L' := [row (.slice none 0 0) 2 fI64 []]) [0] ⟨by decide, rfl⟩ ?_
    exact PJ.retn (vs := [(.slice none 0 0), .int .i64 r7]) Tryd.results12 ⟨rfl, rfl, trivial⟩ ⟨_, rfl, rfl⟩
  · replace hm := ifF hm hb9
    refine WJ.skip ?_
    refine PJ.next ?_
    refine WJ.seq ?_
    refine WJ.reg ?_
    refine SJ.q (YldS.yld (y_move rfl)) rfl ?_
    refine SJ.q (YldS.yld (y_move rfl)) rfl ?_
    refine SJ.q (YldS.yld (y_lenS Tryd.runUnderlying24 hr3 rfl)) rfl ?_
    obtain ⟨r10, h11, hm⟩ := bindS hm
    refine SJ.call Tryd.call57 rfl (fun w hw => ok_i_marks h11 w _ (hr6.st hw)) rfl ?_
    rintro v12 _ ⟨_, rfl, rfl⟩
    refine SJ.q (YldS.yld (y_assign rfl)) rfl ?_
    refine SJ.nil ?_
    refine PJ.next ?_
    refine WJ.seq ?_
    refine WJ.reg ?_
    refine SJ.buildSlice (R := fI64) (os := []) [] Tryd.runUnderlying26 Tryd.sizeOf2 Tryd.zeroValue2 rfl rfl rfl rfl rfl rfl fun v13 => ?_
    refine SJ.q (YldS.yld (y_assign rfl)) rfl ?_
    refine SJ.nil ?_
    refine PJ.next ?_
    obtain ⟨kj16, hk17, hm⟩ := withK_open hm
    refine WJ.join (X := (List Int) × Value) (fun (x : (List Int) × Value) => kj16 x.1 = some r) (fun (x : (List Int) × Value) => [(8, x.2)]) (fun (x : (List Int) × Value) => [row x.2 2 fI64 x.1]) ?_ ?_
    · clear hk17
      refine WJ.seq ?_
      refine WJ.quiet ?_
      refine QJ.step (YldS.yld (y_move rfl)) rfl ?_
      refine QJ.step (YldS.yld (y_lenS Tryd.runUnderlying24 hr3 rfl)) rfl ?_
      refine QJ.step (YldS.yld (y_move rfl)) rfl ?_
      refine QJ.done ?_
      refine PJ.next ?_
      refine WJ.block ?_
      refine WJ.sel (L' := (fun (x : (List Int) × Value × Int) => [row x.2.1 2 fI64 x.1, row v12 4 fBool r10]) ([], v13, 0)) [0, 1] ⟨by decide, rfl⟩ ?_
      refine WJ.sub (m' := (fun (x : (List Int) × Value × Int) => [(7, v12), (8, x.2.1), (22, v2), (23, .int .i64 (List.length list1 : Int)), (24, .int .i64 x.2.2)]) ([], v13, 0)) ⟨rfl, rfl, rfl, rfl, rfl, trivial⟩ ?_
      refine WJ.loop (X := (List Int) × Value × Int) (fun N (x : (List Int) × Value × Int) => i_NextLessons_l1 kj16 list1 r10 N x.1 x.2.2 = some r) (fun (x : (List Int) × Value × Int) => [(7, v12), (8, x.2.1), (22, v2), (23, .int .i64 (List.length list1 : Int)), (24, .int .i64 x.2.2)]) (fun (x : (List Int) × Value × Int) => [row x.2.1 2 fI64 x.1, row v12 4 fBool r10]) ?_ N ([], v13, 0) hm
      · rintro N ⟨l18, v19, x20⟩ hI
        have hm := hI; clear hI
        cases N with
        | zero => cases hm
        | succ N =>
        unfold i_NextLessons_l1 at hm
        refine WJ.seq ?_
        refine WJ.quiet ?_
        refine QJ.step (YldS.yld (y_bin rfl rfl rfl)) rfl ?_
        refine QJ.done ?_
        refine PJ.next ?_
        refine WJ.seq ?_
        refine WJ.cond (t := decide (x20 < (List.length list1 : Int))) rfl (fun hb21 => ?_) (fun hb21 => ?_)
        · replace hm := ifT hm hb21
          refine WJ.skip ?_
          refine PJ.next ?_
          obtain ⟨kj24, hk25, hm⟩ := withK_open hm
          refine WJ.join (X := (List Int) × Value) (fun (x : (List Int) × Value) => kj24 x.1 = some r) (fun (x : (List Int) × Value) => [(7, v12), (8, x.2), (22, v2), (23, .int .i64 (List.length list1 : Int)), (24, .int .i64 x20)]) (fun (x : (List Int) × Value) => [row x.2 2 fI64 x.1, row v12 4 fBool r10]) ?_ ?_
          · clear hk25
            refine WJ.block ?_
            refine WJ.seq ?_
            refine WJ.reg ?_
            refine SJ.q (YldS.yld (y_move rfl)) rfl ?_
            obtain ⟨e26, h27, hm⟩ := bindS hm
            obtain ⟨ad28, _, ⟨v31, rfl, hr32⟩, ha29, hy30⟩ := hr3.elem h27
            refine SJ.q (YldS.yld (hy30 Tryd.runUnderlying24 Tryd.sizeOf47 rfl rfl)) rfl ?_
            refine SJ.q (YldS.yld (y_loadN Tryd.isAgg47 Tryd.sizeOf47 rfl ha29 St.frozenC rfl)) rfl ?_
            refine SJ.alloc (cs := [str [], str [], .slice none 0 0, .int .i64 0]) Tryd.zeroValue47 rfl rfl fun g33 => ?_
            refine SJ.nil_row 2 fI64 ?_
            refine SJ.q (YldS.yld (y_assign rfl)) rfl ?_
            have hc34 := And.intro (RdS.cells1 hr32) (RdS.one1 hr32)
            refine SJ.storeL (k := 1) (off := 0) (us := [str e26.name, str e26.letters, v31, .int .i64 e26.hours]) rfl rfl rfl rfl Tryd.sizeOf47 rfl (by simp only [List.all_cons, hc34.2]; rfl) ?_
            refine SJ.nil ?_
            refine PJ.next ?_
            refine WJ.seq ?_
            refine WJ.quiet ?_
            refine QJ.step (YldS.yld (y_move rfl)) rfl ?_
            refine QJ.step (YldS.yld (y_move rfl)) rfl ?_
            obtain ⟨e35, h36, hm⟩ := bindS hm
            refine QJ.step (YldS.yld (y_ixRow (k := 3) (R := fBool) rfl Tryd.runUnderlying72 Tryd.sizeOf4 rfl rfl h36)) rfl ?_
            refine QJ.step (YldS.yld (y_loadR (k := 3) (i := (Int.toNat x20)) (off := 0) (u := .bool e35) rfl Tryd.isAgg4 rfl (idx_get h36) rfl)) rfl ?_
            refine QJ.step (YldS.yld (y_not rfl)) rfl ?_
            refine QJ.step (YldS.yld (y_move rfl)) rfl ?_
            obtain ⟨t37, h38, hm⟩ := bindS hm
            refine QJ.cut 5 [(7, v12), (8, v19), (9, .int .i64 x20), (22, v2), (23, .int .i64 (List.length list1 : Int)), (24, .int .i64 x20), (39, .bool t37)] ?_ ?_
            · rcases Bool.eq_false_or_eq_true (!e35) with hb39 | hb39
              · replace h38 := andT h38 hb39
                refine QJ.on rfl rfl (cB hb39) (YldS.yld (y_fldB (o := 0) fld47_2 rfl)) rfl ?_
                refine QJ.on rfl rfl (cB hb39) (YldS.yld (y_loadB (k := 1) (off := 2) (v := v31) rfl Tryd.isAgg26 rfl rfl)) rfl ?_
                refine QJ.on rfl rfl (cB hb39) (YldS.yld (y_move rfl)) rfl ?_
                obtain ⟨r40, h41, h38⟩ := bindS h38
                refine QJ.on rfl rfl (cB hb39) (y_call Tryd.call51 rfl (RetG.quiet fun w hw => ok_i_allIn h41 w _ (hr32.st hw) _ (hw.row_rd (k := 3) rfl))) rfl ?_
                refine QJ.step (YldS.yld (y_pick_t (cB hb39) rfl)) rfl ?_
                obtain rfl := Option.some.inj h38
                exact QJ.cut_end ⟨rfl, rfl, rfl, rfl, rfl, rfl, rfl, trivial⟩
              · obtain rfl := andF h38 hb39
                refine QJ.off rfl rfl (cB hb39) rfl rfl ?_
                refine QJ.off rfl rfl (cB hb39) rfl rfl ?_
                refine QJ.off rfl rfl (cB hb39) rfl rfl ?_
                refine QJ.off rfl rfl (cB hb39) rfl rfl ?_
                refine QJ.step (YldS.yld (y_pick_f (cB hb39) rfl)) rfl ?_
                exact QJ.cut_end ⟨rfl, rfl, rfl, rfl, rfl, rfl, rfl, trivial⟩
            refine QJ.done ?_
            refine PJ.next ?_
            refine WJ.cond (t := t37) rfl (fun hb42 => ?_) (fun hb42 => ?_)
            · replace hm := ifT hm hb42
              refine WJ.reg ?_
              refine SJ.q (YldS.yld (y_move rfl)) rfl ?_
              refine SJ.q (YldS.yld (y_move rfl)) rfl ?_
              refine SJ.buildSlice (R := fI64) (os := [.tmp 41]) [x20] Tryd.runUnderlying26 Tryd.sizeOf2 Tryd.zeroValue2 rfl rfl rfl rfl rfl rfl fun v43 => ?_
              obtain ⟨l44, h45, hm⟩ := bindS hm
              refine SJ.append (k := 3) (R := fI64) h45 rfl Tryd.underlying26 el2 rfl rfl rfl (fun w hw => (hw.row_rd (k := 0) rfl)) rfl fun v46 => ?_
              refine SJ.q (YldS.yld (y_assign rfl)) rfl ?_
              refine SJ.nil ?_
              refine PJ.block_normal ?_
              exact PJ.joined (l44, v46) [3, 4] hm ⟨rfl, rfl, rfl, rfl, rfl, trivial⟩ ⟨by decide, rfl⟩
            · replace hm := ifF hm hb42
              refine WJ.skip ?_
              refine PJ.block_normal ?_
              exact PJ.joined (l18, v19) [2, 3] hm ⟨rfl, rfl, rfl, rfl, rfl, trivial⟩ ⟨by decide, rfl⟩
          · rintro ⟨l22, v23⟩ hm
            subst hk25
            refine WJ.quiet ?_
            refine QJ.step (YldS.yld (y_bin rfl rfl rfl)) rfl ?_
            refine QJ.step (YldS.yld (y_move rfl)) rfl ?_
            refine QJ.done ?_
            exact PJ.round (l22, v23, w64 (x20 + 1)) [0, 1] hm ⟨rfl, rfl, rfl, rfl, rfl, trivial⟩ ⟨by decide, rfl⟩
        · replace hm := ifF hm hb21
          refine WJ.exit ?_
          refine PJ.then_exit (PJ.then_exit (PJ.block_exit ?_))
          exact PJ.joined (l18, v19) [0] hm ⟨rfl, trivial⟩ ⟨by decide, rfl⟩
    · rintro ⟨l14, v15⟩ hm
      subst hk17
      refine WJ.seq ?_
      refine WJ.quiet ?_
      refine QJ.step (YldS.yld (y_move rfl)) rfl ?_
      refine QJ.step (YldS.yld (y_assign rfl)) rfl ?_
      refine QJ.step (YldS.yld (y_assign rfl)) rfl ?_
      refine QJ.done ?_
      refine PJ.next ?_
      refine WJ.ret ?_
      obtain rfl := Option.some.inj hm
      refine PJ.sel (L' := [row v15 2 fI64 l14]) [0] ⟨by decide, rfl⟩ ?_
      exact PJ.retn (vs := [v15, .int .i64 0]) Tryd.results12 ⟨rfl, rfl, trivial⟩ ⟨_, rfl, rfl⟩

set_option maxRecDepth 100000 in
set_option maxHeartbeats 1000000 in
theorem ok_s_l18Taken {N : Nat} {list1 : List Lesson} {taken4 : List Int} {r : Int} (hm : s_l18Taken N list1 taken4 = some r) (w : World) (v2 : Value) (hr3 : RdS w (cx w).Fz v2 (shLesson.rp fI64.rp) list1) (v5 : Value) (hr6 : RdS w (cx w).Fz v5 fI64.rp taken4) :
    Calls Tryd.prog 58 #[v2, v5] w (Ret (cx w) (.int .i64 r)) := by
  unfold s_l18Taken at hm
  refine Calls.enter [v2, v5] Tryd.func58 rfl Tryd.ntmps58 rfl ?_
  refine WJ.seq ?_
  refine WJ.quiet ?_
  refine QJ.step (YldS.yld (y_assign rfl)) rfl ?_
  refine QJ.done ?_
  refine PJ.next ?_
  refine WJ.seq ?_
  refine WJ.seq ?_
  refine WJ.quiet ?_
  refine QJ.step (YldS.yld (y_move rfl)) rfl ?_
  obtain ⟨r7, h8, hm⟩ := bindS hm
  refine QJ.step (y_call Tryd.call52 rfl (RetG.quiet fun w hw => ok_s_l18Ok h8 w _ (hr3.st hw))) rfl ?_
  refine QJ.step (YldS.yld (y_not rfl)) rfl ?_
  refine QJ.done ?_
  refine PJ.next ?_
  refine WJ.cond (t := !r7) rfl (fun hb9 => ?_) (fun hb9 => ?_)
  · replace hm := ifT hm hb9
    refine WJ.seq ?_
    refine WJ.quiet ?_
    refine QJ.step (YldS.yld (y_assign rfl)) rfl ?_
    refine QJ.done ?_
    refine PJ.next ?_
    refine WJ.ret ?_
    refine PJ.then_ret ?_
    obtain rfl := Option.some.inj hm
    refine PJ.sel (L' := []) [] ⟨List.nodup_nil, rfl⟩ ?_
    exact PJ.retn (vs := [.int .i64 1]) Tryd.results58 ⟨rfl, trivial⟩ ⟨rfl, rfl⟩
  · replace hm := ifF hm hb9
    refine WJ.skip ?_
    refine PJ.next ?_
    refine WJ.seq ?_
    refine WJ.seq ?_
    refine WJ.quiet ?_
    refine QJ.step (YldS.yld (y_move rfl)) rfl ?_
    refine QJ.step (YldS.yld (y_move rfl)) rfl ?_
    refine QJ.step (YldS.yld (y_lenS Tryd.runUnderlying24 hr3 rfl)) rfl ?_
    refine QJ.step (YldS.yld (y_bin rfl rfl rfl)) rfl ?_
    obtain ⟨r10, h11, hm⟩ := bindS hm
    refine QJ.step (y_call Tryd.call96 rfl (RetG.quiet fun w hw => ok_s_l00Rises h11 w _ (hr6.st hw))) rfl ?_
    refine QJ.step (YldS.yld (y_not rfl)) rfl ?_
    refine QJ.done ?_
    refine PJ.next ?_
    refine WJ.cond (t := !r10) rfl (fun hb12 => ?_) (fun hb12 => ?_)
    · replace hm := ifT hm hb12
      refine WJ.seq ?_
      refine WJ.quiet ?_
      refine QJ.step (YldS.yld (y_assign rfl)) rfl ?_
      refine QJ.done ?_
      refine PJ.next ?_
      refine WJ.ret ?_
      refine PJ.then_ret ?_
      obtain rfl := Option.some.inj hm
      refine PJ.sel (L' := []) [] ⟨List.nodup_nil, rfl⟩ ?_
      exact PJ.retn (vs := [.int .i64 2]) Tryd.results58 ⟨rfl, trivial⟩ ⟨rfl, rfl⟩
    · replace hm := ifF hm hb12
      refine WJ.skip ?_
      refine PJ.next ?_
      refine WJ.seq ?_
      refine WJ.quiet ?_
      refine QJ.step (YldS.yld (y_assign rfl)) rfl ?_
      refine QJ.done ?_
      refine PJ.next ?_
      refine WJ.ret ?_
      obtain rfl := Option.some.inj hm
      refine PJ.sel (L' := []) [] ⟨List.nodup_nil, rfl⟩ ?_
      exact PJ.retn (vs := [.int .i64 0]) Tryd.results58 ⟨rfl, trivial⟩ ⟨rfl, rfl⟩

set_option maxRecDepth 100000 in
set_option maxHeartbeats 1000000 in
theorem ok_s_NextLessons {N : Nat} {list1 : List Lesson} {taken4 : List Int} {r : (List Int) × Int} (hm : s_NextLessons N list1 taken4 = some r) (w : World) (v2 : Value) (hr3 : RdS w (cx w).Fz v2 (shLesson.rp fI64.rp) list1) (v5 : Value) (hr6 : RdS w (cx w).Fz v5 fI64.rp taken4) :
    Calls Tryd.prog 13 #[v2, v5] w (RetG (cx w) fun u L => ∃ (u1 : Value), (u = tup [u1, .int .i64 r.2] ∧ L = [row u1 2 fI64 r.1])) := by
  unfold s_NextLessons at hm
  refine Calls.enter [v2, v5] Tryd.func13 rfl Tryd.ntmps13 rfl ?_
  refine WJ.seq ?_
  refine WJ.quiet ?_
  refine QJ.step (YldS.yld (y_assign rfl)) rfl ?_
  refine QJ.step (YldS.yld (y_assign rfl)) rfl ?_
  refine QJ.done ?_
  refine PJ.next ?_
  refine WJ.seq ?_
  refine WJ.quiet ?_
  refine QJ.step (YldS.yld (y_move rfl)) rfl ?_
  refine QJ.step (YldS.yld (y_move rfl)) rfl ?_
  obtain ⟨r7, h8, hm⟩ := bindS hm
  refine QJ.step (y_call Tryd.call58 rfl (RetG.quiet fun w hw => ok_s_l18Taken h8 w _ (hr3.st hw) _ (hr6.st hw))) rfl ?_
  refine QJ.step (YldS.yld (y_assign rfl)) rfl ?_
  refine QJ.done ?_
  refine PJ.next ?_
  refine WJ.seq ?_
  refine WJ.seq ?_
  refine WJ.quiet ?_
  refine QJ.step (YldS.yld (y_move rfl)) rfl ?_
  refine QJ.step (YldS.yld (y_bin rfl rfl rfl)) rfl ?_
  refine QJ.done ?_
  refine PJ.next ?_
  refine WJ.cond (t := (r7 != 0)) rfl (fun hb9 => ?_) (fun hb9 => ?_)
  · replace hm := ifT hm hb9
    refine WJ.seq ?_
    refine WJ.quiet ?_
    refine QJ.step (YldS.yld (y_move rfl)) rfl ?_
    refine QJ.step (YldS.yld (y_assign rfl)) rfl ?_
    refine QJ.step (YldS.yld (y_assign rfl)) rfl ?_
    refine QJ.done ?_
    refine PJ.next ?_
    refine WJ.ret ?_
    refine PJ.then_ret ?_
    refine PJ.nil_row 2 fI64 ?_
    obtain rfl := Option.some.inj hm
    refine PJ.sel (L' := [row (.slice none 0 0) 2 fI64 []]) [0] ⟨by decide, rfl⟩ ?_
    exact PJ.retn (vs := [(.slice none 0 0), .int .i64 r7]) Tryd.results13 ⟨rfl, rfl, trivial⟩ ⟨_, rfl, rfl⟩
  · replace hm := ifF hm hb9
    refine WJ.skip ?_
    refine PJ.next ?_
    refine WJ.seq ?_
    refine WJ.reg ?_
    refine SJ.buildSlice (R := fI64) (os := []) [] Tryd.runUnderlying26 Tryd.sizeOf2 Tryd.zeroValue2 rfl rfl rfl rfl rfl rfl fun v10 => ?_
    refine SJ.q (YldS.yld (y_assign rfl)) rfl ?_
    refine SJ.nil ?_
    refine PJ.next ?_
    obtain ⟨kj13, hk14, hm⟩ := withK_open hm
    refine WJ.join (X := (List Int) × Value) (fun (x : (List Int) × Value) => kj13 x.1 = some r) (fun (x : (List Int) × Value) => [(7, x.2)]) (fun (x : (List Int) × Value) => [row x.2 2 fI64 x.1]) ?_ ?_
    · clear hk14
      refine WJ.seq ?_
      refine WJ.quiet ?_
      refine QJ.step (YldS.yld (y_assign rfl)) rfl ?_
      refine QJ.done ?_
      refine PJ.next ?_
      refine WJ.block ?_
      refine WJ.sel (L' := (fun (x : (List Int) × Value × Int) => [row x.2.1 2 fI64 x.1]) ([], v10, 0)) [0] ⟨by decide, rfl⟩ ?_
      refine WJ.sub (m' := (fun (x : (List Int) × Value × Int) => [(0, v2), (1, v5), (7, x.2.1), (8, .int .i64 x.2.2)]) ([], v10, 0)) ⟨rfl, rfl, rfl, rfl, trivial⟩ ?_
      refine WJ.loop (X := (List Int) × Value × Int) (fun N (x : (List Int) × Value × Int) => s_NextLessons_l1 kj13 list1 taken4 N x.1 x.2.2 = some r) (fun (x : (List Int) × Value × Int) => [(0, v2), (1, v5), (7, x.2.1), (8, .int .i64 x.2.2)]) (fun (x : (List Int) × Value × Int) => [row x.2.1 2 fI64 x.1]) ?_ N ([], v10, 0) hm
      · rintro N ⟨l15, v16, k17⟩ hI
        have hm := hI; clear hI
        cases N with
        | zero => cases hm
        | succ N =>
        unfold s_NextLessons_l1 at hm
        refine WJ.seq ?_
        refine WJ.seq ?_
        refine WJ.quiet ?_
        refine QJ.step (YldS.yld (y_move rfl)) rfl ?_
        refine QJ.step (YldS.yld (y_move rfl)) rfl ?_
        refine QJ.step (YldS.yld (y_lenS Tryd.runUnderlying24 hr3 rfl)) rfl ?_
        refine QJ.step (YldS.yld (y_bin rfl rfl rfl)) rfl ?_
        refine QJ.done ?_
        refine PJ.next ?_
        refine WJ.cond (t := decide (k17 < (List.length list1 : Int))) rfl (fun hb18 => ?_) (fun hb18 => ?_)
        · replace hm := ifT hm hb18
          refine WJ.skip ?_
          refine PJ.next ?_
          obtain ⟨kj21, hk22, hm⟩ := withK_open hm
          refine WJ.join (X := (List Int) × Value) (fun (x : (List Int) × Value) => kj21 x.1 = some r) (fun (x : (List Int) × Value) => [(0, v2), (1, v5), (7, x.2), (8, .int .i64 k17)]) (fun (x : (List Int) × Value) => [row x.2 2 fI64 x.1]) ?_ ?_
          · clear hk22
            refine WJ.block ?_
            refine WJ.seq ?_
            refine WJ.quiet ?_
            refine QJ.step (YldS.yld (y_move rfl)) rfl ?_
            refine QJ.step (YldS.yld (y_move rfl)) rfl ?_
            refine QJ.step (YldS.yld (y_move rfl)) rfl ?_
            obtain ⟨r23, h24, hm⟩ := bindS hm
            refine QJ.step (y_call Tryd.call54 rfl (RetG.quiet fun w hw => ok_s_l18Can h24 w _ (hr3.st hw) _ (hr6.st hw))) rfl ?_
            refine QJ.done ?_
            refine PJ.next ?_
            refine WJ.cond (t := r23) rfl (fun hb25 => ?_) (fun hb25 => ?_)
            · replace hm := ifT hm hb25
              refine WJ.reg ?_
              refine SJ.q (YldS.yld (y_move rfl)) rfl ?_
              refine SJ.q (YldS.yld (y_move rfl)) rfl ?_
              refine SJ.buildSlice (R := fI64) (os := [.tmp 27]) [k17] Tryd.runUnderlying26 Tryd.sizeOf2 Tryd.zeroValue2 rfl rfl rfl rfl rfl rfl fun v26 => ?_
              obtain ⟨l27, h28, hm⟩ := bindS hm
              refine SJ.append (k := 1) (R := fI64) h28 rfl Tryd.underlying26 el2 rfl rfl rfl (fun w hw => (hw.row_rd (k := 0) rfl)) rfl fun v29 => ?_
              refine SJ.q (YldS.yld (y_assign rfl)) rfl ?_
              refine SJ.nil ?_
              refine PJ.block_normal ?_
              exact PJ.joined (l27, v29) [1] hm ⟨rfl, rfl, rfl, rfl, trivial⟩ ⟨by decide, rfl⟩
            · replace hm := ifF hm hb25
              refine WJ.skip ?_
              refine PJ.block_normal ?_
              exact PJ.joined (l15, v16) [0] hm ⟨rfl, rfl, rfl, rfl, trivial⟩ ⟨by decide, rfl⟩
          · rintro ⟨l19, v20⟩ hm
            subst hk22
            refine WJ.quiet ?_
            refine QJ.step (YldS.yld (y_move rfl)) rfl ?_
            refine QJ.step (YldS.yld (y_bin rfl rfl rfl)) rfl ?_
            refine QJ.step (YldS.yld (y_assign rfl)) rfl ?_
            refine QJ.done ?_
            exact PJ.round (l19, v20, w64 (k17 + 1)) [0] hm ⟨rfl, rfl, rfl, rfl, trivial⟩ ⟨by decide, rfl⟩
        · replace hm := ifF hm hb18
          refine WJ.exit ?_
          refine PJ.then_exit (PJ.then_exit (PJ.block_exit ?_))
          exact PJ.joined (l15, v16) [0] hm ⟨rfl, trivial⟩ ⟨by decide, rfl⟩
    · rintro ⟨l11, v12⟩ hm
      subst hk14
      refine WJ.seq ?_
      refine WJ.quiet ?_
      refine QJ.step (YldS.yld (y_move rfl)) rfl ?_
      refine QJ.step (YldS.yld (y_assign rfl)) rfl ?_
      refine QJ.step (YldS.yld (y_assign rfl)) rfl ?_
      refine QJ.done ?_
      refine PJ.next ?_
      refine WJ.ret ?_
      obtain rfl := Option.some.inj hm
      refine PJ.sel (L' := [row v12 2 fI64 l11]) [0] ⟨by decide, rfl⟩ ?_
      exact PJ.retn (vs := [v12, .int .i64 0]) Tryd.results13 ⟨rfl, rfl, trivial⟩ ⟨_, rfl, rfl⟩

set_option maxRecDepth 100000 in
set_option maxHeartbeats 1000000 in
theorem ok_i_known {N : Nat} {list1 : List Lesson} {taken4 : List Int} {r : (List Bool)} (hm : i_known N list1 taken4 = some r) (w : World) (v2 : Value) (hr3 : RdS w (cx w).Fz v2 (shLesson.rp fI64.rp) list1) (v5 : Value) (hr6 : RdS w (cx w).Fz v5 fI64.rp taken4) :
    Calls Tryd.prog 60 #[v2, v5] w (RetG (cx w) fun u L => ∃ (u1 : Nat), (u = pt u1 0 ∧ L = [row (av u1 256) 116 fBool r])) := by
  unfold i_known at hm
  refine Calls.enter [v2, v5] Tryd.func60 rfl Tryd.ntmps60 rfl ?_
  refine WJ.seq ?_
  refine WJ.quiet ?_
  refine QJ.step (YldS.yld (y_assign rfl)) rfl ?_
  refine QJ.done ?_
  refine PJ.next ?_
  refine WJ.seq ?_
  refine WJ.reg ?_
  refine SJ.q (YldS.yld (y_build0 Tryd.runUnderlying116 zv116 Tryd.sizeOf4)) rfl ?_
  refine SJ.boxAr (R := fBool) (xs := (List.replicate 256 false)) 256 rfl (by simp) rfl rfl fun g7 => ?_
  refine SJ.q (YldS.yld (y_assign rfl)) rfl ?_
  refine SJ.nil ?_
  refine PJ.next ?_
  obtain ⟨kj9, hk10, hm⟩ := withK_open hm
  refine WJ.join (X := (List Bool)) (fun (x : (List Bool)) => kj9 x = some r) (fun (x : (List Bool)) => [(5, pt g7 0)]) (fun (x : (List Bool)) => [row (av g7 256) 116 fBool x]) ?_ ?_
  · clear hk10
    refine WJ.seq ?_
    refine WJ.quiet ?_
    refine QJ.step (YldS.yld (y_move rfl)) rfl ?_
    refine QJ.step (YldS.yld (y_lenS Tryd.runUnderlying26 hr6 rfl)) rfl ?_
    refine QJ.step (YldS.yld (y_move rfl)) rfl ?_
    refine QJ.done ?_
    refine PJ.next ?_
    refine WJ.block ?_
    refine WJ.sel (L' := (fun (x : (List Bool) × Int) => [row (av g7 256) 116 fBool x.1]) ((List.replicate 256 false), 0)) [0] ⟨by decide, rfl⟩ ?_
    refine WJ.sub (m' := (fun (x : (List Bool) × Int) => [(0, v2), (5, pt g7 0), (11, v5), (12, .int .i64 (List.length taken4 : Int)), (13, .int .i64 x.2)]) ((List.replicate 256 false), 0)) ⟨rfl, rfl, rfl, rfl, rfl, trivial⟩ ?_
    refine WJ.loop (X := (List Bool) × Int) (fun N (x : (List Bool) × Int) => i_known_l1 kj9 list1 taken4 N x.1 x.2 = some r) (fun (x : (List Bool) × Int) => [(0, v2), (5, pt g7 0), (11, v5), (12, .int .i64 (List.length taken4 : Int)), (13, .int .i64 x.2)]) (fun (x : (List Bool) × Int) => [row (av g7 256) 116 fBool x.1]) ?_ N ((List.replicate 256 false), 0) hm
    · rintro N ⟨l11, x12⟩ hI
      have hm := hI; clear hI
      cases N with
      | zero => cases hm
      | succ N =>
      unfold i_known_l1 at hm
      refine WJ.seq ?_
      refine WJ.quiet ?_
      refine QJ.step (YldS.yld (y_bin rfl rfl rfl)) rfl ?_
      refine QJ.done ?_
      refine PJ.next ?_
      refine WJ.seq ?_
      refine WJ.cond (t := decide (x12 < (List.length taken4 : Int))) rfl (fun hb13 => ?_) (fun hb13 => ?_)
      · replace hm := ifT hm hb13
        refine WJ.skip ?_
        refine PJ.next ?_
        obtain ⟨kj15, hk16, hm⟩ := withK_open hm
        refine WJ.join (X := (List Bool)) (fun (x : (List Bool)) => kj15 x = some r) (fun (x : (List Bool)) => [(0, v2), (5, pt g7 0), (11, v5), (12, .int .i64 (List.length taken4 : Int)), (13, .int .i64 x12)]) (fun (x : (List Bool)) => [row (av g7 256) 116 fBool x]) ?_ ?_
        · clear hk16
          refine WJ.block ?_
          refine WJ.seq ?_
          refine WJ.quiet ?_
          obtain ⟨e17, h18, hm⟩ := bindS hm
          obtain ⟨ad19, _, rfl, ha20, hy21⟩ := hr6.elem h18
          refine QJ.step (YldS.yld (hy21 Tryd.runUnderlying26 Tryd.sizeOf2 rfl rfl)) rfl ?_
          refine QJ.step (YldS.yld (y_load1 (v := .int .i64 e17) Tryd.isAgg2 ha20 St.frozenC rfl)) rfl ?_
          refine QJ.step (YldS.yld (y_assign rfl)) rfl ?_
          refine QJ.done ?_
          refine PJ.next ?_
          refine WJ.seq ?_
          refine WJ.quiet ?_
          refine QJ.step (YldS.yld (y_move rfl)) rfl ?_
          refine QJ.step (YldS.yld (y_move rfl)) rfl ?_
          obtain ⟨e22, h23, hm⟩ := bindS hm
          obtain ⟨ad24, _, ⟨v27, rfl, hr28⟩, ha25, hy26⟩ := hr3.elem h23
          refine QJ.step (YldS.yld (hy26 Tryd.runUnderlying24 Tryd.sizeOf47 rfl rfl)) rfl ?_
          refine QJ.step (YldS.yld (y_fld (ad := ad24) fld47_1 rfl)) rfl ?_
          refine QJ.step (YldS.yld (y_load1 (v := str e22.letters) Tryd.isAgg9 (ha25.sub 1 1) St.frozenC rfl)) rfl ?_
          refine QJ.step (YldS.yld (y_lenStr Tryd.runUnderlying9 rfl)) rfl ?_
          refine QJ.step (YldS.yld (y_move rfl)) rfl ?_
          refine QJ.done ?_
          refine PJ.next ?_
          refine WJ.block ?_
          refine WJ.sel (L' := (fun (x : (List Bool) × Int) => [row (av g7 256) 116 fBool x.1]) (l11, 0)) [0] ⟨by decide, rfl⟩ ?_
          refine WJ.sub (m' := (fun (x : (List Bool) × Int) => [(0, v2), (5, pt g7 0), (7, .int .i64 e17), (11, v5), (12, .int .i64 (List.length taken4 : Int)), (13, .int .i64 x12), (22, .int .i64 (List.length e22.letters : Int)), (23, .int .i64 x.2)]) (l11, 0)) ⟨rfl, rfl, rfl, rfl, rfl, rfl, rfl, rfl, trivial⟩ ?_
          refine WJ.loop (X := (List Bool) × Int) (fun N (x : (List Bool) × Int) => i_known_l2 kj15 list1 e17 e22 N x.1 x.2 = some r) (fun (x : (List Bool) × Int) => [(0, v2), (5, pt g7 0), (7, .int .i64 e17), (11, v5), (12, .int .i64 (List.length taken4 : Int)), (13, .int .i64 x12), (22, .int .i64 (List.length e22.letters : Int)), (23, .int .i64 x.2)]) (fun (x : (List Bool) × Int) => [row (av g7 256) 116 fBool x.1]) ?_ N (l11, 0) hm
          · rintro N ⟨l29, x30⟩ hI
            have hm := hI; clear hI
            cases N with
            | zero => cases hm
            | succ N =>
            unfold i_known_l2 at hm
            refine WJ.seq ?_
            refine WJ.quiet ?_
            refine QJ.step (YldS.yld (y_bin rfl rfl rfl)) rfl ?_
            refine QJ.done ?_
            refine PJ.next ?_
            refine WJ.seq ?_
            refine WJ.cond (t := decide (x30 < (List.length e22.letters : Int))) rfl (fun hb31 => ?_) (fun hb31 => ?_)
            · replace hm := ifT hm hb31
              refine WJ.skip ?_
              refine PJ.next ?_
              refine WJ.seq ?_
              refine WJ.block ?_
              refine WJ.seq ?_
              refine WJ.quiet ?_
              refine QJ.step (YldS.yld (y_move rfl)) rfl ?_
              refine QJ.step (YldS.yld (y_assign rfl)) rfl ?_
              refine QJ.done ?_
              refine PJ.next ?_
              obtain ⟨e32, h33, hm⟩ := bindS hm
              obtain ⟨ad34, _, ⟨v37, rfl, hr38⟩, ha35, hy36⟩ := hr3.elem h33
              obtain ⟨c39, h40, hm⟩ := bindS hm
              obtain ⟨e41, h42, hm⟩ := bindS hm
              refine WJ.draws (N := 11) (listed0 := #[false, false, false, false, false, false, false, false, false, false, false]) [] follows rfl rfl ?_
              refine RJ.first 0 (listed' := #[true, false, false, false, false, false, false, false, false, false, false]) [] rfl (by kernel_rfl) rfl ⟨List.nodup_nil, rfl⟩ (y_move rfl) rfl ?_
              refine RJ.first 1 (listed' := #[true, true, false, false, false, false, false, false, false, false, false]) [] rfl (by kernel_rfl) rfl ⟨List.nodup_nil, rfl⟩ (y_move rfl) rfl ?_
              refine RJ.first 2 (listed' := #[true, true, true, false, false, false, false, false, false, false, false]) [] rfl (by kernel_rfl) rfl ⟨List.nodup_nil, rfl⟩ (y_move rfl) rfl ?_
              refine RJ.first 3 (listed' := #[true, true, true, true, false, false, false, false, false, false, false]) [] rfl (by kernel_rfl) rfl ⟨List.nodup_nil, rfl⟩ (hy36 Tryd.runUnderlying24 Tryd.sizeOf47 rfl rfl) rfl ?_
              refine RJ.first 4 (listed' := #[true, true, true, true, true, false, false, false, false, false, false]) [] rfl (by kernel_rfl) rfl ⟨List.nodup_nil, rfl⟩ (y_fld (ad := ad34) fld47_1 rfl) rfl ?_
              refine RJ.first 5 (listed' := #[true, true, true, true, true, true, false, false, false, false, false]) [] rfl (by kernel_rfl) rfl ⟨List.nodup_nil, rfl⟩ (y_load1 (v := str e32.letters) Tryd.isAgg9 (ha35.sub 1 1) St.frozenC rfl) rfl ?_
              refine RJ.first 6 (listed' := #[true, true, true, true, true, true, true, false, false, false, false]) [] rfl (by kernel_rfl) rfl ⟨List.nodup_nil, rfl⟩ (y_move rfl) rfl ?_
              refine RJ.first 7 (listed' := #[true, true, true, true, true, true, true, true, false, false, false]) [] rfl (by kernel_rfl) rfl ⟨List.nodup_nil, rfl⟩ (y_idxStr Tryd.runUnderlying9 rfl rfl h40) rfl ?_
              refine RJ.first 8 (listed' := #[true, true, true, true, true, true, true, true, true, false, false]) [] rfl (by kernel_rfl) rfl ⟨List.nodup_nil, rfl⟩ (y_nil rfl) rfl ?_
              refine RJ.step1 9 [] (by kernel_rfl) ⟨List.nodup_nil, rfl⟩ ?_
              refine RO.of (listed' := #[true, true, true, true, true, true, true, true, true, true, false]) rfl rfl ?_
              refine SJ.q (YldS.yld (y_ixArr (k := 0) (R := fBool) rfl Tryd.runUnderlying116 Tryd.sizeOf4 rfl rfl h42)) rfl ?_
              refine SJ.nil ?_
              refine PJ.draw ?_
              refine RJ.step1 10 [] (by kernel_rfl) ⟨List.nodup_nil, rfl⟩ ?_
              refine RO.of (listed' := #[true, true, true, true, true, true, true, true, true, true, true]) rfl rfl ?_
              refine SJ.storeRL (k := 0) (i := (Int.toNat (UInt8.toNat c39 : Int))) (off := 0) (us := [.bool true]) (b := true) rfl rfl (idx_get h42) rfl rfl Tryd.sizeOf4 rfl rfl rfl ?_
              refine SJ.nil ?_
              refine PJ.draw ?_
              refine RJ.fin [] (by kernel_rfl) ⟨List.nodup_nil, rfl⟩ ?_
              refine PJ.block_normal (PJ.next ?_)
              refine WJ.quiet ?_
              refine QJ.step (YldS.yld (y_bin rfl rfl rfl)) rfl ?_
              refine QJ.step (YldS.yld (y_move rfl)) rfl ?_
              refine QJ.done ?_
              exact PJ.round ((List.set l29 (Int.toNat (UInt8.toNat c39 : Int)) true), w64 (x30 + 1)) [0] hm ⟨rfl, rfl, rfl, rfl, rfl, rfl, rfl, rfl, trivial⟩ ⟨by decide, rfl⟩
            · replace hm := ifF hm hb31
              refine WJ.exit ?_
              refine PJ.then_exit (PJ.then_exit (PJ.block_exit (PJ.block_normal ?_)))
              exact PJ.joined l29 [0] hm ⟨rfl, rfl, rfl, rfl, rfl, trivial⟩ ⟨by decide, rfl⟩
        · rintro l14 hm
          subst hk16
          refine WJ.quiet ?_
          refine QJ.step (YldS.yld (y_bin rfl rfl rfl)) rfl ?_
          refine QJ.step (YldS.yld (y_move rfl)) rfl ?_
          refine QJ.done ?_
          exact PJ.round (l14, w64 (x12 + 1)) [0] hm ⟨rfl, rfl, rfl, rfl, rfl, trivial⟩ ⟨by decide, rfl⟩
      · replace hm := ifF hm hb13
        refine WJ.exit ?_
        refine PJ.then_exit (PJ.then_exit (PJ.block_exit ?_))
        exact PJ.joined l11 [0] hm ⟨rfl, trivial⟩ ⟨by decide, rfl⟩
  · rintro l8 hm
    subst hk10
    refine WJ.seq ?_
    refine WJ.quiet ?_
    refine QJ.step (YldS.yld (y_move rfl)) rfl ?_
    refine QJ.step (YldS.yld (y_assign rfl)) rfl ?_
    refine QJ.done ?_
    refine PJ.next ?_
    refine WJ.ret ?_
    obtain rfl := Option.some.inj hm
    refine PJ.sel (L' := [row (av g7 256) 116 fBool l8]) [0] ⟨by decide, rfl⟩ ?_
    exact PJ.retn (vs := [pt g7 0]) Tryd.results60 ⟨rfl, trivial⟩ ⟨_, rfl, rfl⟩

set_option maxRecDepth 100000 in
set_option maxHeartbeats 1000000 in
theorem ok_i_ascending {N : Nat} {marked1 : List Bool} {r : Str} (hm : i_ascending N marked1 = some r) (w : World) (ad2 : Addr) (ha3 : RdS w (cx w).Fz (.slice (some ad2) 256 256) fBool.rp marked1) :
    Calls Tryd.prog 59 #[.pointer (some ad2)] w (Ret (cx w) (str r)) := by
  unfold i_ascending at hm
  refine Calls.enter [.pointer (some ad2)] Tryd.func59 rfl Tryd.ntmps59 rfl ?_
  refine WJ.seq ?_
  refine WJ.quiet ?_
  refine QJ.step (YldS.yld (y_assign rfl)) rfl ?_
  refine QJ.done ?_
  refine PJ.next ?_
  refine WJ.seq ?_
  refine WJ.reg ?_
  refine SJ.buildSlice (R := fByte) (os := []) [] Tryd.runUnderlying22 Tryd.sizeOf5 Tryd.zeroValue5 rfl rfl rfl rfl rfl rfl fun v4 => ?_
  refine SJ.q (YldS.yld (y_assign rfl)) rfl ?_
  refine SJ.nil ?_
  refine PJ.next ?_
  obtain ⟨kj7, hk8, hm⟩ := withK_open hm
  refine WJ.join (X := (List UInt8) × Value) (fun (x : (List UInt8) × Value) => kj7 x.1 = some r) (fun (x : (List UInt8) × Value) => [(3, x.2)]) (fun (x : (List UInt8) × Value) => [row x.2 5 fByte x.1]) ?_ ?_
  · clear hk8
    refine WJ.seq ?_
    refine WJ.quiet ?_
    refine QJ.step (YldS.yld (y_move rfl)) rfl ?_
    refine QJ.done ?_
    refine PJ.next ?_
    refine WJ.block ?_
    refine WJ.sel (L' := (fun (x : (List UInt8) × Value × Int) => [row x.2.1 5 fByte x.1]) ([], v4, 0)) [0] ⟨by decide, rfl⟩ ?_
    refine WJ.sub (m' := (fun (x : (List UInt8) × Value × Int) => [(0, .pointer (some ad2)), (3, x.2.1), (6, .int .i64 x.2.2)]) ([], v4, 0)) ⟨rfl, rfl, rfl, trivial⟩ ?_
    refine WJ.loop (X := (List UInt8) × Value × Int) (fun N (x : (List UInt8) × Value × Int) => i_ascending_l1 kj7 marked1 N x.1 x.2.2 = some r) (fun (x : (List UInt8) × Value × Int) => [(0, .pointer (some ad2)), (3, x.2.1), (6, .int .i64 x.2.2)]) (fun (x : (List UInt8) × Value × Int) => [row x.2.1 5 fByte x.1]) ?_ N ([], v4, 0) hm
    · rintro N ⟨l9, v10, x11⟩ hI
      have hm := hI; clear hI
      cases N with
      | zero => cases hm
      | succ N =>
      unfold i_ascending_l1 at hm
      refine WJ.seq ?_
      refine WJ.quiet ?_
      refine QJ.step (YldS.yld (y_bin rfl rfl rfl)) rfl ?_
      refine QJ.done ?_
      refine PJ.next ?_
      refine WJ.seq ?_
      refine WJ.cond (t := decide (x11 < 256)) rfl (fun hb12 => ?_) (fun hb12 => ?_)
      · replace hm := ifT hm hb12
        refine WJ.skip ?_
        refine PJ.next ?_
        obtain ⟨kj15, hk16, hm⟩ := withK_open hm
        refine WJ.join (X := (List UInt8) × Value) (fun (x : (List UInt8) × Value) => kj15 x.1 = some r) (fun (x : (List UInt8) × Value) => [(0, .pointer (some ad2)), (3, x.2), (6, .int .i64 x11)]) (fun (x : (List UInt8) × Value) => [row x.2 5 fByte x.1]) ?_ ?_
        · clear hk16
          refine WJ.block ?_
          refine WJ.seq ?_
          refine WJ.quiet ?_
          refine QJ.step (YldS.yld (y_move rfl)) rfl ?_
          refine QJ.step (YldS.yld (y_assign rfl)) rfl ?_
          refine QJ.done ?_
          refine PJ.next ?_
          refine WJ.seq ?_
          refine WJ.quiet ?_
          refine QJ.step (YldS.yld (y_move rfl)) rfl ?_
          refine QJ.step (YldS.yld (y_move rfl)) rfl ?_
          refine QJ.step (YldS.yld (y_nil rfl)) rfl ?_
          obtain ⟨e17, h18, hm⟩ := bindS hm
          obtain ⟨ad19, _, rfl, ha20, hy21⟩ := ha3.elemA h18
          refine QJ.step (YldS.yld (hy21 Tryd.runUnderlying116 Tryd.sizeOf4 rfl rfl)) rfl ?_
          refine QJ.step (YldS.yld (y_load1 (v := .bool e17) Tryd.isAgg4 ha20 St.frozenC rfl)) rfl ?_
          refine QJ.done ?_
          refine PJ.next ?_
          refine WJ.cond (t := e17) rfl (fun hb22 => ?_) (fun hb22 => ?_)
          · replace hm := ifT hm hb22
            refine WJ.reg ?_
            refine SJ.q (YldS.yld (y_move rfl)) rfl ?_
            refine SJ.q (YldS.yld (y_move rfl)) rfl ?_
            refine SJ.q (YldS.yld (y_convTo8 Tryd.runUnderlying3 Tryd.runUnderlying5 rfl)) rfl ?_
            refine SJ.buildSlice (R := fByte) (os := [.tmp 16]) [UInt8.ofInt x11] Tryd.runUnderlying22 Tryd.sizeOf5 Tryd.zeroValue5 rfl rfl rfl rfl rfl rfl fun v23 => ?_
            obtain ⟨l24, h25, hm⟩ := bindS hm
            refine SJ.append (k := 1) (R := fByte) h25 rfl Tryd.underlying22 el5 rfl rfl rfl (fun w hw => (hw.row_rd (k := 0) rfl)) rfl fun v26 => ?_
            refine SJ.q (YldS.yld (y_assign rfl)) rfl ?_
            refine SJ.nil ?_
            refine PJ.block_normal ?_
            exact PJ.joined (l24, v26) [1] hm ⟨rfl, rfl, rfl, trivial⟩ ⟨by decide, rfl⟩
          · replace hm := ifF hm hb22
            refine WJ.skip ?_
            refine PJ.block_normal ?_
            exact PJ.joined (l9, v10) [0] hm ⟨rfl, rfl, rfl, trivial⟩ ⟨by decide, rfl⟩
        · rintro ⟨l13, v14⟩ hm
          subst hk16
          refine WJ.quiet ?_
          refine QJ.step (YldS.yld (y_bin rfl rfl rfl)) rfl ?_
          refine QJ.step (YldS.yld (y_move rfl)) rfl ?_
          refine QJ.done ?_
          exact PJ.round (l13, v14, w64 (x11 + 1)) [0] hm ⟨rfl, rfl, rfl, trivial⟩ ⟨by decide, rfl⟩
      · replace hm := ifF hm hb12
        refine WJ.exit ?_
        refine PJ.then_exit (PJ.then_exit (PJ.block_exit ?_))
        exact PJ.joined (l9, v10) [0] hm ⟨rfl, trivial⟩ ⟨by decide, rfl⟩
  · rintro ⟨l5, v6⟩ hm
    subst hk8
    refine WJ.seq ?_
    refine WJ.quiet ?_
    refine QJ.step (YldS.yld (y_move rfl)) rfl ?_
    refine QJ.step (YldS.yld (y_b2s Tryd.underlying22 Tryd.underlying9 Tryd.underlying5 (fun w hw => ⟨_, (hw.row_rd (k := 0) rfl)⟩) rfl)) rfl ?_
    refine QJ.step (YldS.yld (y_assign rfl)) rfl ?_
    refine QJ.done ?_
    refine PJ.next ?_
    refine WJ.ret ?_
    obtain rfl := Option.some.inj hm
    refine PJ.sel (L' := []) [] ⟨List.nodup_nil, rfl⟩ ?_
    exact PJ.retn (vs := [str l5]) Tryd.results59 ⟨rfl, trivial⟩ ⟨rfl, rfl⟩

set_option maxRecDepth 100000 in
set_option maxHeartbeats 1000000 in
theorem ok_i_KnownAfter {N : Nat} {list1 : List Lesson} {taken4 : List Int} {r : Str × Int} (hm : i_KnownAfter N list1 taken4 = some r) (w : World) (v2 : Value) (hr3 : RdS w (cx w).Fz v2 (shLesson.rp fI64.rp) list1) (v5 : Value) (hr6 : RdS w (cx w).Fz v5 fI64.rp taken4) :
    Calls Tryd.prog 14 #[v2, v5] w (Ret (cx w) (tup [str r.1, .int .i64 r.2])) := by
  unfold i_KnownAfter at hm
  refine Calls.enter [v2, v5] Tryd.func14 rfl Tryd.ntmps14 rfl ?_
  refine WJ.seq ?_
  refine WJ.quiet ?_
  refine QJ.step (YldS.yld (y_assign rfl)) rfl ?_
  refine QJ.step (YldS.yld (y_assign rfl)) rfl ?_
  refine QJ.done ?_
  refine PJ.next ?_
  refine WJ.seq ?_
  refine WJ.seq ?_
  refine WJ.quiet ?_
  refine QJ.step (YldS.yld (y_move rfl)) rfl ?_
  refine QJ.step (YldS.yld (y_move rfl)) rfl ?_
  obtain ⟨r7, h8, hm⟩ := bindS hm
  refine QJ.step (y_call Tryd.call56 rfl (RetG.quiet fun w hw => ok_i_takenCode h8 w _ (hr3.st hw) _ (hr6.st hw))) rfl ?_
  refine QJ.step (YldS.yld (y_assign rfl)) rfl ?_
  refine QJ.done ?_
  refine PJ.next ?_
  refine WJ.seq ?_
  refine WJ.quiet ?_
  refine QJ.step (YldS.yld (y_move rfl)) rfl ?_
  refine QJ.step (YldS.yld (y_bin rfl rfl rfl)) rfl ?_
  refine QJ.done ?_
  refine PJ.next ?_
  refine WJ.cond (t := (r7 != 0)) rfl (fun hb9 => ?_) (fun hb9 => ?_)
  · replace hm := ifT hm hb9
    refine WJ.seq ?_
    refine WJ.quiet ?_
    refine QJ.step (YldS.yld (y_move rfl)) rfl ?_
    refine QJ.step (YldS.yld (y_assign rfl)) rfl ?_
    refine QJ.step (YldS.yld (y_assign rfl)) rfl ?_
    refine QJ.done ?_
    refine PJ.next ?_
    refine WJ.ret ?_
    refine PJ.then_ret ?_
    obtain rfl := Option.some.inj hm
    refine PJ.sel (L' := []) [] ⟨List.nodup_nil, rfl⟩ ?_
    exact PJ.retn (vs := [str [], .int .i64 r7]) Tryd.results14 ⟨rfl, rfl, trivial⟩ ⟨rfl, rfl⟩
  · replace hm := ifF hm hb9
    refine WJ.skip ?_
    refine PJ.next ?_
    refine WJ.seq ?_
    refine WJ.reg ?_
    refine SJ.q (YldS.yld (y_move rfl)) rfl ?_
    refine SJ.q (YldS.yld (y_move rfl)) rfl ?_
    obtain ⟨r10, h11, hm⟩ := bindS hm
    refine SJ.call Tryd.call60 rfl (fun w hw => ok_i_known h11 w _ (hr3.st hw) _ (hr6.st hw)) rfl ?_
    rintro _ _ ⟨g12, rfl, rfl⟩
    obtain ⟨r13, h14, hm⟩ := bindS hm
    refine SJ.q (y_call Tryd.call59 rfl (RetG.quiet fun w hw => ok_i_ascending h14 w _ (hw.row_rd (k := 0) rfl))) rfl ?_
    refine SJ.q (YldS.yld (y_assign rfl)) rfl ?_
    refine SJ.q (YldS.yld (y_assign rfl)) rfl ?_
    refine SJ.nil ?_
    refine PJ.next ?_
    refine WJ.ret ?_
    obtain rfl := Option.some.inj hm
    refine PJ.sel (L' := []) [] ⟨List.nodup_nil, rfl⟩ ?_
    exact PJ.retn (vs := [str r13, .int .i64 0]) Tryd.results14 ⟨rfl, rfl, trivial⟩ ⟨rfl, rfl⟩

set_option maxRecDepth 100000 in
set_option maxHeartbeats 1000000 in
theorem ok_s_l18Known {N : Nat} {list1 : List Lesson} {taken4 : List Int} {r : Str} (hm : s_l18Known N list1 taken4 = some r) (w : World) (v2 : Value) (hr3 : RdS w (cx w).Fz v2 (shLesson.rp fI64.rp) list1) (v5 : Value) (hr6 : RdS w (cx w).Fz v5 fI64.rp taken4) :
    Calls Tryd.prog 61 #[v2, v5] w (Ret (cx w) (str r)) := by
  unfold s_l18Known at hm
  refine Calls.enter [v2, v5] Tryd.func61 rfl Tryd.ntmps61 rfl ?_
  refine WJ.seq ?_
  refine WJ.quiet ?_
  refine QJ.step (YldS.yld (y_assign rfl)) rfl ?_
  refine QJ.done ?_
  refine PJ.next ?_
  refine WJ.seq ?_
  refine WJ.quiet ?_
  refine QJ.step (YldS.yld (y_assign rfl)) rfl ?_
  refine QJ.done ?_
  refine PJ.next ?_
  obtain ⟨kj8, hk9, hm⟩ := withK_open hm
  refine WJ.join (X := Str) (fun (x : Str) => kj8 x = some r) (fun (x : Str) => [(5, str x)]) (fun (x : Str) => []) ?_ ?_
  · clear hk9
    refine WJ.seq ?_
    refine WJ.quiet ?_
    refine QJ.step (YldS.yld (y_assign rfl)) rfl ?_
    refine QJ.done ?_
    refine PJ.next ?_
    refine WJ.block ?_
    refine WJ.sel (L' := (fun (x : Str × Int) => []) ([], 0)) [] ⟨List.nodup_nil, rfl⟩ ?_
    refine WJ.sub (m' := (fun (x : Str × Int) => [(0, v2), (1, v5), (5, str x.1), (6, .int .i64 x.2)]) ([], 0)) ⟨rfl, rfl, rfl, rfl, trivial⟩ ?_
    refine WJ.loop (X := Str × Int) (fun N (x : Str × Int) => s_l18Known_l1 kj8 list1 taken4 N x.1 x.2 = some r) (fun (x : Str × Int) => [(0, v2), (1, v5), (5, str x.1), (6, .int .i64 x.2)]) (fun (x : Str × Int) => []) ?_ N ([], 0) hm
    · rintro N ⟨out10, i11⟩ hI
      have hm := hI; clear hI
      cases N with
      | zero => cases hm
      | succ N =>
      unfold s_l18Known_l1 at hm
      refine WJ.seq ?_
      refine WJ.seq ?_
      refine WJ.quiet ?_
      refine QJ.step (YldS.yld (y_move rfl)) rfl ?_
      refine QJ.step (YldS.yld (y_move rfl)) rfl ?_
      refine QJ.step (YldS.yld (y_lenS Tryd.runUnderlying26 hr6 rfl)) rfl ?_
      refine QJ.step (YldS.yld (y_bin rfl rfl rfl)) rfl ?_
      refine QJ.done ?_
      refine PJ.next ?_
      refine WJ.cond (t := decide (i11 < (List.length taken4 : Int))) rfl (fun hb12 => ?_) (fun hb12 => ?_)
      · replace hm := ifT hm hb12
        refine WJ.skip ?_
        refine PJ.next ?_
        obtain ⟨kj14, hk15, hm⟩ := withK_open hm
        refine WJ.join (X := Str) (fun (x : Str) => kj14 x = some r) (fun (x : Str) => [(0, v2), (1, v5), (5, str x), (6, .int .i64 i11)]) (fun (x : Str) => []) ?_ ?_
        · clear hk15
          refine WJ.block ?_
          refine WJ.seq ?_
          refine WJ.quiet ?_
          refine QJ.step (YldS.yld (y_move rfl)) rfl ?_
          refine QJ.step (YldS.yld (y_move rfl)) rfl ?_
          refine QJ.step (YldS.yld (y_move rfl)) rfl ?_
          obtain ⟨e16, h17, hm⟩ := bindS hm
          obtain ⟨ad18, _, rfl, ha19, hy20⟩ := hr6.elem h17
          refine QJ.step (YldS.yld (hy20 Tryd.runUnderlying26 Tryd.sizeOf2 rfl rfl)) rfl ?_
          refine QJ.step (YldS.yld (y_load1 (v := .int .i64 e16) Tryd.isAgg2 ha19 St.frozenC rfl)) rfl ?_
          obtain ⟨e21, h22, hm⟩ := bindS hm
          obtain ⟨ad23, _, ⟨v26, rfl, hr27⟩, ha24, hy25⟩ := hr3.elem h22
          refine QJ.step (YldS.yld (hy25 Tryd.runUnderlying24 Tryd.sizeOf47 rfl rfl)) rfl ?_
          refine QJ.step (YldS.yld (y_fld (ad := ad23) fld47_1 rfl)) rfl ?_
          refine QJ.step (YldS.yld (y_load1 (v := str e21.letters) Tryd.isAgg9 (ha24.sub 1 1) St.frozenC rfl)) rfl ?_
          refine QJ.step (YldS.yld (y_assign rfl)) rfl ?_
          refine QJ.done ?_
          refine PJ.next ?_
          refine WJ.seq ?_
          refine WJ.quiet ?_
          refine QJ.step (YldS.yld (y_assign rfl)) rfl ?_
          refine QJ.done ?_
          refine PJ.next ?_
          refine WJ.block ?_
          refine WJ.sel (L' := (fun (x : Str × Int) => []) (out10, 0)) [] ⟨List.nodup_nil, rfl⟩ ?_
          refine WJ.sub (m' := (fun (x : Str × Int) => [(0, v2), (1, v5), (5, str x.1), (6, .int .i64 i11), (7, str e21.letters), (8, .int .i64 x.2)]) (out10, 0)) ⟨rfl, rfl, rfl, rfl, rfl, rfl, trivial⟩ ?_
          refine WJ.loop (X := Str × Int) (fun N (x : Str × Int) => s_l18Known_l2 kj14 e21 N x.1 x.2 = some r) (fun (x : Str × Int) => [(0, v2), (1, v5), (5, str x.1), (6, .int .i64 i11), (7, str e21.letters), (8, .int .i64 x.2)]) (fun (x : Str × Int) => []) ?_ N (out10, 0) hm
          · rintro N ⟨out28, k29⟩ hI
            have hm := hI; clear hI
            cases N with
            | zero => cases hm
            | succ N =>
            unfold s_l18Known_l2 at hm
            refine WJ.seq ?_
            refine WJ.seq ?_
            refine WJ.quiet ?_
            refine QJ.step (YldS.yld (y_move rfl)) rfl ?_
            refine QJ.step (YldS.yld (y_move rfl)) rfl ?_
            refine QJ.step (YldS.yld (y_lenStr Tryd.runUnderlying9 rfl)) rfl ?_
            refine QJ.step (YldS.yld (y_bin rfl rfl rfl)) rfl ?_
            refine QJ.done ?_
            refine PJ.next ?_
            refine WJ.cond (t := decide (k29 < (List.length e21.letters : Int))) rfl (fun hb30 => ?_) (fun hb30 => ?_)
            · replace hm := ifT hm hb30
              refine WJ.skip ?_
              refine PJ.next ?_
              refine WJ.seq ?_
              refine WJ.block ?_
              refine WJ.quiet ?_
              refine QJ.step (YldS.yld (y_move rfl)) rfl ?_
              refine QJ.step (YldS.yld (y_move rfl)) rfl ?_
              refine QJ.step (YldS.yld (y_move rfl)) rfl ?_
              refine QJ.step (YldS.yld (y_move rfl)) rfl ?_
              refine QJ.step (YldS.yld (y_bin rfl rfl rfl)) rfl ?_
              obtain ⟨s31, h32, hm⟩ := bindS hm
              refine QJ.step (YldS.yld (y_subStr (i := some k29) (j := some (w64 (k29 + 1))) h32 Tryd.runUnderlying9 rfl ⟨_, rfl⟩ ⟨_, rfl⟩)) rfl ?_
              obtain ⟨r33, h34, hm⟩ := bindS hm
              refine QJ.step (y_call Tryd.call100 rfl (RetG.quiet fun w hw => ok_s_l02PutLetter h34 w )) rfl ?_
              refine QJ.step (YldS.yld (y_assign rfl)) rfl ?_
              refine QJ.done ?_
              refine PJ.block_normal (PJ.next ?_)
              refine WJ.quiet ?_
              refine QJ.step (YldS.yld (y_move rfl)) rfl ?_
              refine QJ.step (YldS.yld (y_bin rfl rfl rfl)) rfl ?_
              refine QJ.step (YldS.yld (y_assign rfl)) rfl ?_
              refine QJ.done ?_
              exact PJ.round (r33, w64 (k29 + 1)) [] hm ⟨rfl, rfl, rfl, rfl, rfl, rfl, trivial⟩ ⟨List.nodup_nil, rfl⟩
            · replace hm := ifF hm hb30
              refine WJ.exit ?_
              refine PJ.then_exit (PJ.then_exit (PJ.block_exit (PJ.block_normal ?_)))
              exact PJ.joined out28 [] hm ⟨rfl, rfl, rfl, rfl, trivial⟩ ⟨List.nodup_nil, rfl⟩
        · rintro out13 hm
          subst hk15
          refine WJ.quiet ?_
          refine QJ.step (YldS.yld (y_move rfl)) rfl ?_
          refine QJ.step (YldS.yld (y_bin rfl rfl rfl)) rfl ?_
          refine QJ.step (YldS.yld (y_assign rfl)) rfl ?_
          refine QJ.done ?_
          exact PJ.round (out13, w64 (i11 + 1)) [] hm ⟨rfl, rfl, rfl, rfl, trivial⟩ ⟨List.nodup_nil, rfl⟩
      · replace hm := ifF hm hb12
        refine WJ.exit ?_
        refine PJ.then_exit (PJ.then_exit (PJ.block_exit ?_))
        exact PJ.joined out10 [] hm ⟨rfl, trivial⟩ ⟨List.nodup_nil, rfl⟩
  · rintro out7 hm
    subst hk9
    refine WJ.seq ?_
    refine WJ.quiet ?_
    refine QJ.step (YldS.yld (y_move rfl)) rfl ?_
    refine QJ.step (YldS.yld (y_assign rfl)) rfl ?_
    refine QJ.done ?_
    refine PJ.next ?_
    refine WJ.ret ?_
    obtain rfl := Option.some.inj hm
    refine PJ.sel (L' := []) [] ⟨List.nodup_nil, rfl⟩ ?_
    exact PJ.retn (vs := [str out7]) Tryd.results61 ⟨rfl, trivial⟩ ⟨rfl, rfl⟩

set_option maxRecDepth 100000 in
set_option maxHeartbeats 1000000 in
theorem ok_s_KnownAfter {N : Nat} {list1 : List Lesson} {taken4 : List Int} {r : Str × Int} (hm : s_KnownAfter N list1 taken4 = some r) (w : World) (v2 : Value) (hr3 : RdS w (cx w).Fz v2 (shLesson.rp fI64.rp) list1) (v5 : Value) (hr6 : RdS w (cx w).Fz v5 fI64.rp taken4) :
    Calls Tryd.prog 15 #[v2, v5] w (Ret (cx w) (tup [str r.1, .int .i64 r.2])) := by
  unfold s_KnownAfter at hm
  refine Calls.enter [v2, v5] Tryd.func15 rfl Tryd.ntmps15 rfl ?_
  refine WJ.seq ?_
  refine WJ.quiet ?_
  refine QJ.step (YldS.yld (y_assign rfl)) rfl ?_
  refine QJ.step (YldS.yld (y_assign rfl)) rfl ?_
  refine QJ.done ?_
  refine PJ.next ?_
  refine WJ.seq ?_
  refine WJ.quiet ?_
  refine QJ.step (YldS.yld (y_move rfl)) rfl ?_
  refine QJ.step (YldS.yld (y_move rfl)) rfl ?_
  obtain ⟨r7, h8, hm⟩ := bindS hm
  refine QJ.step (y_call Tryd.call58 rfl (RetG.quiet fun w hw => ok_s_l18Taken h8 w _ (hr3.st hw) _ (hr6.st hw))) rfl ?_
  refine QJ.step (YldS.yld (y_assign rfl)) rfl ?_
  refine QJ.done ?_
  refine PJ.next ?_
  refine WJ.seq ?_
  refine WJ.seq ?_
  refine WJ.quiet ?_
  refine QJ.step (YldS.yld (y_move rfl)) rfl ?_
  refine QJ.step (YldS.yld (y_bin rfl rfl rfl)) rfl ?_
  refine QJ.done ?_
  refine PJ.next ?_
  refine WJ.cond (t := (r7 != 0)) rfl (fun hb9 => ?_) (fun hb9 => ?_)
  · replace hm := ifT hm hb9
    refine WJ.seq ?_
    refine WJ.quiet ?_
    refine QJ.step (YldS.yld (y_move rfl)) rfl ?_
    refine QJ.step (YldS.yld (y_assign rfl)) rfl ?_
    refine QJ.step (YldS.yld (y_assign rfl)) rfl ?_
    refine QJ.done ?_
    refine PJ.next ?_
    refine WJ.ret ?_
    refine PJ.then_ret ?_
    obtain rfl := Option.some.inj hm
    refine PJ.sel (L' := []) [] ⟨List.nodup_nil, rfl⟩ ?_
    exact PJ.retn (vs := [str [], .int .i64 r7]) Tryd.results15 ⟨rfl, rfl, trivial⟩ ⟨rfl, rfl⟩
  · replace hm := ifF hm hb9
    refine WJ.skip ?_
    refine PJ.next ?_
    refine WJ.seq ?_
    refine WJ.quiet ?_
    refine QJ.step (YldS.yld (y_move rfl)) rfl ?_
    refine QJ.step (YldS.yld (y_move rfl)) rfl ?_
    obtain ⟨r10, h11, hm⟩ := bindS hm
    refine QJ.step (y_call Tryd.call61 rfl (RetG.quiet fun w hw => ok_s_l18Known h11 w _ (hr3.st hw) _ (hr6.st hw))) rfl ?_
    refine QJ.step (YldS.yld (y_assign rfl)) rfl ?_
    refine QJ.step (YldS.yld (y_assign rfl)) rfl ?_
    refine QJ.done ?_
    refine PJ.next ?_
    refine WJ.ret ?_
    obtain rfl := Option.some.inj hm
    refine PJ.sel (L' := []) [] ⟨List.nodup_nil, rfl⟩ ?_
    exact PJ.retn (vs := [str r10, .int .i64 0]) Tryd.results15 ⟨rfl, rfl, trivial⟩ ⟨rfl, rfl⟩

set_option maxRecDepth 100000 in
set_option maxHeartbeats 1000000 in
theorem ok_i_hours {N : Nat} {list1 : List Lesson} {some4 : List Int} {r : Int} (hm : i_hours N list1 some4 = some r) (w : World) (v2 : Value) (hr3 : RdS w (cx w).Fz v2 (shLesson.rp fI64.rp) list1) (v5 : Value) (hr6 : RdS w (cx w).Fz v5 fI64.rp some4) :
    Calls Tryd.prog 62 #[v2, v5] w (Ret (cx w) (.int .i64 r)) := by
  unfold i_hours at hm
  refine Calls.enter [v2, v5] Tryd.func62 rfl Tryd.ntmps62 rfl ?_
  refine WJ.seq ?_
  refine WJ.quiet ?_
  refine QJ.step (YldS.yld (y_assign rfl)) rfl ?_
  refine QJ.done ?_
  refine PJ.next ?_
  refine WJ.seq ?_
  refine WJ.quiet ?_
  refine QJ.step (YldS.yld (y_assign rfl)) rfl ?_
  refine QJ.done ?_
  refine PJ.next ?_
  obtain ⟨kj8, hk9, hm⟩ := withK_open hm
  refine WJ.join (X := Int) (fun (x : Int) => kj8 x = some r) (fun (x : Int) => [(5, .int .i64 x)]) (fun (x : Int) => []) ?_ ?_
  · clear hk9
    refine WJ.seq ?_
    refine WJ.quiet ?_
    refine QJ.step (YldS.yld (y_move rfl)) rfl ?_
    refine QJ.step (YldS.yld (y_lenS Tryd.runUnderlying26 hr6 rfl)) rfl ?_
    refine QJ.step (YldS.yld (y_move rfl)) rfl ?_
    refine QJ.done ?_
    refine PJ.next ?_
    refine WJ.block ?_
    refine WJ.sel (L' := (fun (x : Int × Int) => []) (0, 0)) [] ⟨List.nodup_nil, rfl⟩ ?_
    refine WJ.sub (m' := (fun (x : Int × Int) => [(0, v2), (5, .int .i64 x.1), (8, v5), (9, .int .i64 (List.length some4 : Int)), (10, .int .i64 x.2)]) (0, 0)) ⟨rfl, rfl, rfl, rfl, rfl, trivial⟩ ?_
    refine WJ.loop (X := Int × Int) (fun N (x : Int × Int) => i_hours_l1 kj8 list1 some4 N x.1 x.2 = some r) (fun (x : Int × Int) => [(0, v2), (5, .int .i64 x.1), (8, v5), (9, .int .i64 (List.length some4 : Int)), (10, .int .i64 x.2)]) (fun (x : Int × Int) => []) ?_ N (0, 0) hm
    · rintro N ⟨sum10, x11⟩ hI
      have hm := hI; clear hI
      cases N with
      | zero => cases hm
      | succ N =>
      unfold i_hours_l1 at hm
      refine WJ.seq ?_
      refine WJ.quiet ?_
      refine QJ.step (YldS.yld (y_bin rfl rfl rfl)) rfl ?_
      refine QJ.done ?_
      refine PJ.next ?_
      refine WJ.seq ?_
      refine WJ.cond (t := decide (x11 < (List.length some4 : Int))) rfl (fun hb12 => ?_) (fun hb12 => ?_)
      · replace hm := ifT hm hb12
        refine WJ.skip ?_
        refine PJ.next ?_
        refine WJ.seq ?_
        refine WJ.block ?_
        refine WJ.seq ?_
        refine WJ.quiet ?_
        obtain ⟨e13, h14, hm⟩ := bindS hm
        obtain ⟨ad15, _, rfl, ha16, hy17⟩ := hr6.elem h14
        refine QJ.step (YldS.yld (hy17 Tryd.runUnderlying26 Tryd.sizeOf2 rfl rfl)) rfl ?_
        refine QJ.step (YldS.yld (y_load1 (v := .int .i64 e13) Tryd.isAgg2 ha16 St.frozenC rfl)) rfl ?_
        refine QJ.step (YldS.yld (y_assign rfl)) rfl ?_
        refine QJ.done ?_
        refine PJ.next ?_
        refine WJ.quiet ?_
        refine QJ.step (YldS.yld (y_move rfl)) rfl ?_
        refine QJ.step (YldS.yld (y_move rfl)) rfl ?_
        refine QJ.step (YldS.yld (y_move rfl)) rfl ?_
        obtain ⟨e18, h19, hm⟩ := bindS hm
        obtain ⟨ad20, _, ⟨v23, rfl, hr24⟩, ha21, hy22⟩ := hr3.elem h19
        refine QJ.step (YldS.yld (hy22 Tryd.runUnderlying24 Tryd.sizeOf47 rfl rfl)) rfl ?_
        refine QJ.step (YldS.yld (y_fld (ad := ad20) fld47_3 rfl)) rfl ?_
        refine QJ.step (YldS.yld (y_load1 (v := .int .i64 e18.hours) Tryd.isAgg2 (ha21.sub 3 1) St.frozenC rfl)) rfl ?_
        refine QJ.step (YldS.yld (y_bin rfl rfl rfl)) rfl ?_
        refine QJ.step (YldS.yld (y_assign rfl)) rfl ?_
        refine QJ.done ?_
        refine PJ.block_normal (PJ.next ?_)
        refine WJ.quiet ?_
        refine QJ.step (YldS.yld (y_bin rfl rfl rfl)) rfl ?_
        refine QJ.step (YldS.yld (y_move rfl)) rfl ?_
        refine QJ.done ?_
        exact PJ.round (w64 (sum10 + e18.hours), w64 (x11 + 1)) [] hm ⟨rfl, rfl, rfl, rfl, rfl, trivial⟩ ⟨List.nodup_nil, rfl⟩
      · replace hm := ifF hm hb12
        refine WJ.exit ?_
        refine PJ.then_exit (PJ.then_exit (PJ.block_exit ?_))
        exact PJ.joined sum10 [] hm ⟨rfl, trivial⟩ ⟨List.nodup_nil, rfl⟩
  · rintro sum7 hm
    subst hk9
    refine WJ.seq ?_
    refine WJ.quiet ?_
    refine QJ.step (YldS.yld (y_move rfl)) rfl ?_
    refine QJ.step (YldS.yld (y_assign rfl)) rfl ?_
    refine QJ.done ?_
    refine PJ.next ?_
    refine WJ.ret ?_
    obtain rfl := Option.some.inj hm
    refine PJ.sel (L' := []) [] ⟨List.nodup_nil, rfl⟩ ?_
    exact PJ.retn (vs := [.int .i64 sum7]) Tryd.results62 ⟨rfl, trivial⟩ ⟨rfl, rfl⟩

set_option maxRecDepth 100000 in
set_option maxHeartbeats 1000000 in
theorem ok_i_HoursOfLessons {N : Nat} {list1 : List Lesson} {some4 : List Int} {r : Int × Int} (hm : i_HoursOfLessons N list1 some4 = some r) (w : World) (v2 : Value) (hr3 : RdS w (cx w).Fz v2 (shLesson.rp fI64.rp) list1) (v5 : Value) (hr6 : RdS w (cx w).Fz v5 fI64.rp some4) :
    Calls Tryd.prog 16 #[v2, v5] w (Ret (cx w) (tup [.int .i64 r.1, .int .i64 r.2])) := by
  unfold i_HoursOfLessons at hm
  refine Calls.enter [v2, v5] Tryd.func16 rfl Tryd.ntmps16 rfl ?_
  refine WJ.seq ?_
  refine WJ.quiet ?_
  refine QJ.step (YldS.yld (y_assign rfl)) rfl ?_
  refine QJ.step (YldS.yld (y_assign rfl)) rfl ?_
  refine QJ.done ?_
  refine PJ.next ?_
  refine WJ.seq ?_
  refine WJ.seq ?_
  refine WJ.quiet ?_
  refine QJ.step (YldS.yld (y_move rfl)) rfl ?_
  refine QJ.step (YldS.yld (y_move rfl)) rfl ?_
  obtain ⟨r7, h8, hm⟩ := bindS hm
  refine QJ.step (y_call Tryd.call56 rfl (RetG.quiet fun w hw => ok_i_takenCode h8 w _ (hr3.st hw) _ (hr6.st hw))) rfl ?_
  refine QJ.step (YldS.yld (y_assign rfl)) rfl ?_
  refine QJ.done ?_
  refine PJ.next ?_
  refine WJ.seq ?_
  refine WJ.quiet ?_
  refine QJ.step (YldS.yld (y_move rfl)) rfl ?_
  refine QJ.step (YldS.yld (y_bin rfl rfl rfl)) rfl ?_
  refine QJ.done ?_
  refine PJ.next ?_
  refine WJ.cond (t := (r7 != 0)) rfl (fun hb9 => ?_) (fun hb9 => ?_)
  · replace hm := ifT hm hb9
    refine WJ.seq ?_
    refine WJ.quiet ?_
    refine QJ.step (YldS.yld (y_move rfl)) rfl ?_
    refine QJ.step (YldS.yld (y_assign rfl)) rfl ?_
    refine QJ.step (YldS.yld (y_assign rfl)) rfl ?_
    refine QJ.done ?_
    refine PJ.next ?_
    refine WJ.ret ?_
    refine PJ.then_ret ?_
    obtain rfl := Option.some.inj hm
    refine PJ.sel (L' := []) [] ⟨List.nodup_nil, rfl⟩ ?_
    exact PJ.retn (vs := [.int .i64 0, .int .i64 r7]) Tryd.results16 ⟨rfl, rfl, trivial⟩ ⟨rfl, rfl⟩
  · replace hm := ifF hm hb9
    refine WJ.skip ?_
    refine PJ.next ?_
    refine WJ.seq ?_
    refine WJ.quiet ?_
    refine QJ.step (YldS.yld (y_move rfl)) rfl ?_
    refine QJ.step (YldS.yld (y_move rfl)) rfl ?_
    obtain ⟨r10, h11, hm⟩ := bindS hm
    refine QJ.step (y_call Tryd.call62 rfl (RetG.quiet fun w hw => ok_i_hours h11 w _ (hr3.st hw) _ (hr6.st hw))) rfl ?_
    refine QJ.step (YldS.yld (y_assign rfl)) rfl ?_
    refine QJ.step (YldS.yld (y_assign rfl)) rfl ?_
    refine QJ.done ?_
    refine PJ.next ?_
    refine WJ.ret ?_
    obtain rfl := Option.some.inj hm
    refine PJ.sel (L' := []) [] ⟨List.nodup_nil, rfl⟩ ?_
    exact PJ.retn (vs := [.int .i64 r10, .int .i64 0]) Tryd.results16 ⟨rfl, rfl, trivial⟩ ⟨rfl, rfl⟩

set_option maxRecDepth 100000 in
set_option maxHeartbeats 1000000 in
theorem ok_s_l18Hours {N : Nat} {list1 : List Lesson} {some4 : List Int} {r : Int} (hm : s_l18Hours N list1 some4 = some r) (w : World) (v2 : Value) (hr3 : RdS w (cx w).Fz v2 (shLesson.rp fI64.rp) list1) (v5 : Value) (hr6 : RdS w (cx w).Fz v5 fI64.rp some4) :
    Calls Tryd.prog 63 #[v2, v5] w (Ret (cx w) (.int .i64 r)) := by
  unfold s_l18Hours at hm
  refine Calls.enter [v2, v5] Tryd.func63 rfl Tryd.ntmps63 rfl ?_
  refine WJ.seq ?_
  refine WJ.quiet ?_
  refine QJ.step (YldS.yld (y_assign rfl)) rfl ?_
  refine QJ.done ?_
  refine PJ.next ?_
  refine WJ.seq ?_
  refine WJ.quiet ?_
  refine QJ.step (YldS.yld (y_assign rfl)) rfl ?_
  refine QJ.done ?_
  refine PJ.next ?_
  obtain ⟨kj8, hk9, hm⟩ := withK_open hm
  refine WJ.join (X := Int) (fun (x : Int) => kj8 x = some r) (fun (x : Int) => [(5, .int .i64 x)]) (fun (x : Int) => []) ?_ ?_
  · clear hk9
    refine WJ.seq ?_
    refine WJ.quiet ?_
    refine QJ.step (YldS.yld (y_assign rfl)) rfl ?_
    refine QJ.done ?_
    refine PJ.next ?_
    refine WJ.block ?_
    refine WJ.sel (L' := (fun (x : Int × Int) => []) (0, 0)) [] ⟨List.nodup_nil, rfl⟩ ?_
    refine WJ.sub (m' := (fun (x : Int × Int) => [(0, v2), (1, v5), (5, .int .i64 x.1), (6, .int .i64 x.2)]) (0, 0)) ⟨rfl, rfl, rfl, rfl, trivial⟩ ?_
    refine WJ.loop (X := Int × Int) (fun N (x : Int × Int) => s_l18Hours_l1 kj8 list1 some4 N x.1 x.2 = some r) (fun (x : Int × Int) => [(0, v2), (1, v5), (5, .int .i64 x.1), (6, .int .i64 x.2)]) (fun (x : Int × Int) => []) ?_ N (0, 0) hm
    · rintro N ⟨sum10, i11⟩ hI
      have hm := hI; clear hI
      cases N with
      | zero => cases hm
      | succ N =>
      unfold s_l18Hours_l1 at hm
      refine WJ.seq ?_
      refine WJ.seq ?_
      refine WJ.quiet ?_
      refine QJ.step (YldS.yld (y_move rfl)) rfl ?_
      refine QJ.step (YldS.yld (y_move rfl)) rfl ?_
      refine QJ.step (YldS.yld (y_lenS Tryd.runUnderlying26 hr6 rfl)) rfl ?_
      refine QJ.step (YldS.yld (y_bin rfl rfl rfl)) rfl ?_
      refine QJ.done ?_
      refine PJ.next ?_
      refine WJ.cond (t := decide (i11 < (List.length some4 : Int))) rfl (fun hb12 => ?_) (fun hb12 => ?_)
      · replace hm := ifT hm hb12
        refine WJ.skip ?_
        refine PJ.next ?_
        refine WJ.seq ?_
        refine WJ.block ?_
        refine WJ.quiet ?_
        refine QJ.step (YldS.yld (y_move rfl)) rfl ?_
        refine QJ.step (YldS.yld (y_move rfl)) rfl ?_
        refine QJ.step (YldS.yld (y_move rfl)) rfl ?_
        refine QJ.step (YldS.yld (y_move rfl)) rfl ?_
        obtain ⟨e13, h14, hm⟩ := bindS hm
        obtain ⟨ad15, _, rfl, ha16, hy17⟩ := hr6.elem h14
        refine QJ.step (YldS.yld (hy17 Tryd.runUnderlying26 Tryd.sizeOf2 rfl rfl)) rfl ?_
        refine QJ.step (YldS.yld (y_load1 (v := .int .i64 e13) Tryd.isAgg2 ha16 St.frozenC rfl)) rfl ?_
        obtain ⟨e18, h19, hm⟩ := bindS hm
        obtain ⟨ad20, _, ⟨v23, rfl, hr24⟩, ha21, hy22⟩ := hr3.elem h19
        refine QJ.step (YldS.yld (hy22 Tryd.runUnderlying24 Tryd.sizeOf47 rfl rfl)) rfl ?_
        refine QJ.step (YldS.yld (y_fld (ad := ad20) fld47_3 rfl)) rfl ?_
        refine QJ.step (YldS.yld (y_load1 (v := .int .i64 e18.hours) Tryd.isAgg2 (ha21.sub 3 1) St.frozenC rfl)) rfl ?_
        refine QJ.step (YldS.yld (y_bin rfl rfl rfl)) rfl ?_
        refine QJ.step (YldS.yld (y_assign rfl)) rfl ?_
        refine QJ.done ?_
        refine PJ.block_normal (PJ.next ?_)
        refine WJ.quiet ?_
        refine QJ.step (YldS.yld (y_move rfl)) rfl ?_
        refine QJ.step (YldS.yld (y_bin rfl rfl rfl)) rfl ?_
        refine QJ.step (YldS.yld (y_assign rfl)) rfl ?_
        refine QJ.done ?_
        exact PJ.round (w64 (sum10 + e18.hours), w64 (i11 + 1)) [] hm ⟨rfl, rfl, rfl, rfl, trivial⟩ ⟨List.nodup_nil, rfl⟩
      · replace hm := ifF hm hb12
        refine WJ.exit ?_
        refine PJ.then_exit (PJ.then_exit (PJ.block_exit ?_))
        exact PJ.joined sum10 [] hm ⟨rfl, trivial⟩ ⟨List.nodup_nil, rfl⟩
  · rintro sum7 hm
    subst hk9
    refine WJ.seq ?_
    refine WJ.quiet ?_
    refine QJ.step (YldS.yld (y_move rfl)) rfl ?_
    refine QJ.step (YldS.yld (y_assign rfl)) rfl ?_
    refine QJ.done ?_
    refine PJ.next ?_
    refine WJ.ret ?_
    obtain rfl := Option.some.inj hm
    refine PJ.sel (L' := []) [] ⟨List.nodup_nil, rfl⟩ ?_
    exact PJ.retn (vs := [.int .i64 sum7]) Tryd.results63 ⟨rfl, trivial⟩ ⟨rfl, rfl⟩

set_option maxRecDepth 100000 in
set_option maxHeartbeats 1000000 in
theorem ok_s_HoursOfLessons {N : Nat} {list1 : List Lesson} {some4 : List Int} {r : Int × Int} (hm : s_HoursOfLessons N list1 some4 = some r) (w : World) (v2 : Value) (hr3 : RdS w (cx w).Fz v2 (shLesson.rp fI64.rp) list1) (v5 : Value) (hr6 : RdS w (cx w).Fz v5 fI64.rp some4) :
    Calls Tryd.prog 17 #[v2, v5] w (Ret (cx w) (tup [.int .i64 r.1, .int .i64 r.2])) := by
  unfold s_HoursOfLessons at hm
  refine Calls.enter [v2, v5] Tryd.func17 rfl Tryd.ntmps17 rfl ?_
  refine WJ.seq ?_
  refine WJ.quiet ?_
  refine QJ.step (YldS.yld (y_assign rfl)) rfl ?_
  refine QJ.step (YldS.yld (y_assign rfl)) rfl ?_
  refine QJ.done ?_
  refine PJ.next ?_
  refine WJ.seq ?_
  refine WJ.quiet ?_
  refine QJ.step (YldS.yld (y_move rfl)) rfl ?_
  refine QJ.step (YldS.yld (y_move rfl)) rfl ?_
  obtain ⟨r7, h8, hm⟩ := bindS hm
  refine QJ.step (y_call Tryd.call58 rfl (RetG.quiet fun w hw => ok_s_l18Taken h8 w _ (hr3.st hw) _ (hr6.st hw))) rfl ?_
  refine QJ.step (YldS.yld (y_assign rfl)) rfl ?_
  refine QJ.done ?_
  refine PJ.next ?_
  refine WJ.seq ?_
  refine WJ.seq ?_
  refine WJ.quiet ?_
  refine QJ.step (YldS.yld (y_move rfl)) rfl ?_
  refine QJ.step (YldS.yld (y_bin rfl rfl rfl)) rfl ?_
  refine QJ.done ?_
  refine PJ.next ?_
  refine WJ.cond (t := (r7 != 0)) rfl (fun hb9 => ?_) (fun hb9 => ?_)
  · replace hm := ifT hm hb9
    refine WJ.seq ?_
    refine WJ.quiet ?_
    refine QJ.step (YldS.yld (y_move rfl)) rfl ?_
    refine QJ.step (YldS.yld (y_assign rfl)) rfl ?_
    refine QJ.step (YldS.yld (y_assign rfl)) rfl ?_
    refine QJ.done ?_
    refine PJ.next ?_
    refine WJ.ret ?_
    refine PJ.then_ret ?_
    obtain rfl := Option.some.inj hm
    refine PJ.sel (L' := []) [] ⟨List.nodup_nil, rfl⟩ ?_
    exact PJ.retn (vs := [.int .i64 0, .int .i64 r7]) Tryd.results17 ⟨rfl, rfl, trivial⟩ ⟨rfl, rfl⟩
  · replace hm := ifF hm hb9
    refine WJ.skip ?_
    refine PJ.next ?_
    refine WJ.seq ?_
    refine WJ.quiet ?_
    refine QJ.step (YldS.yld (y_move rfl)) rfl ?_
    refine QJ.step (YldS.yld (y_move rfl)) rfl ?_
    obtain ⟨r10, h11, hm⟩ := bindS hm
    refine QJ.step (y_call Tryd.call63 rfl (RetG.quiet fun w hw => ok_s_l18Hours h11 w _ (hr3.st hw) _ (hr6.st hw))) rfl ?_
    refine QJ.step (YldS.yld (y_assign rfl)) rfl ?_
    refine QJ.step (YldS.yld (y_assign rfl)) rfl ?_
    refine QJ.done ?_
    refine PJ.next ?_
    refine WJ.ret ?_
    obtain rfl := Option.some.inj hm
    refine PJ.sel (L' := []) [] ⟨List.nodup_nil, rfl⟩ ?_
    exact PJ.retn (vs := [.int .i64 r10, .int .i64 0]) Tryd.results17 ⟨rfl, rfl, trivial⟩ ⟨rfl, rfl⟩

set_option maxRecDepth 100000 in
set_option maxHeartbeats 1000000 in
theorem ok_s_DrawSameLessons {N : Nat} {code1 : List UInt8} {r : (List Lesson) × (List Lesson)} (hm : s_DrawSameLessons N code1 = some r) (w : World) (v2 : Value) (hr3 : RdS w (cx w).Fz v2 fByte.rp code1) :
    Calls Tryd.prog 18 #[v2] w (RetG (cx w) fun u L => ∃ (u1 : Value) (u2 : List (Raw 4)) (u3 : Value) (u4 : List (Raw 4)), (u = tup [u1, u3] ∧ L = [row u1 47 fRaw4 u2, ins shLesson 2 fI64 u2 r.1, row u3 47 fRaw4 u4, ins shLesson 2 fI64 u4 r.2])) := by
  unfold s_DrawSameLessons at hm
  refine Calls.enter [v2] Tryd.func18 rfl Tryd.ntmps18 rfl ?_
  refine WJ.seq ?_
  refine WJ.quiet ?_
  refine QJ.step (YldS.yld (y_assign rfl)) rfl ?_
  refine QJ.step (YldS.yld (y_assign rfl)) rfl ?_
  refine QJ.done ?_
  refine PJ.next ?_
  refine WJ.seq ?_
  refine WJ.reg ?_
  refine SJ.q (YldS.yld (y_move rfl)) rfl ?_
  obtain ⟨r4, h5, hm⟩ := bindS hm
  refine SJ.call Tryd.call49 rfl (fun w hw => ok_s_l00From h5 w _ (hr3.st hw)) rfl ?_
  rintro _ _ ⟨g6, rfl, rfl⟩
  refine SJ.q (YldS.yld (y_assign rfl)) rfl ?_
  refine SJ.nil ?_
  refine PJ.next ?_
  refine WJ.seq ?_
  refine WJ.reg ?_
  refine SJ.q (YldS.yld (y_move rfl)) rfl ?_
  obtain ⟨r7, h8, hm⟩ := bindS hm
  refine SJ.call1 (k := 0) rfl Tryd.call64 rfl (fun w S hw hA hO => ok_s_l18Draw h8 w S _ (hr3.st1 hw hO) hA) rfl ?_
  rintro v9 _ ⟨_, vs10, rfl, rfl⟩
  refine SJ.q (YldS.yld (y_assign rfl)) rfl ?_
  refine SJ.nil ?_
  refine PJ.next ?_
  refine WJ.seq ?_
  refine WJ.reg ?_
  refine SJ.buildSlice (R := fRaw4) (os := []) ([] : List (Raw 4)) Tryd.runUnderlying24 Tryd.sizeOf47 Tryd.zeroValue47 rfl rfl rfl rfl rfl rfl fun v11 => ?_
  refine SJ.ins_nil shLesson 2 fI64 ?_
  refine SJ.q (YldS.yld (y_assign rfl)) rfl ?_
  refine SJ.nil ?_
  refine PJ.next ?_
  obtain ⟨kj15, hk16, hm⟩ := withK_open hm
  refine WJ.join (X := (List Lesson) × (List (Raw 4)) × Value) (fun (x : (List Lesson) × (List (Raw 4)) × Value) => kj15 x.1 = some r) (fun (x : (List Lesson) × (List (Raw 4)) × Value) => [(4, pt g6 0), (5, v9), (6, x.2.2)]) (fun (x : (List Lesson) × (List (Raw 4)) × Value) => [ins shLesson 2 fI64 x.2.1 x.1, row x.2.2 47 fRaw4 x.2.1, box g6 112 [v2, .int .i64 r7.2.at_, .int .u64 r7.2.seed], row v9 47 fRaw4 vs10, ins shLesson 2 fI64 vs10 r7.1]) ?_ ?_
  · clear hk16
    refine WJ.seq ?_
    refine WJ.quiet ?_
    refine QJ.step (YldS.yld (y_assign rfl)) rfl ?_
    refine QJ.done ?_
    refine PJ.next ?_
    refine WJ.block ?_
    refine WJ.sel (L' := (fun (x : (List Lesson) × (List (Raw 4)) × Value × Int) => [ins shLesson 2 fI64 x.2.1 x.1, row x.2.2.1 47 fRaw4 x.2.1, box g6 112 [v2, .int .i64 r7.2.at_, .int .u64 r7.2.seed], row v9 47 fRaw4 vs10, ins shLesson 2 fI64 vs10 r7.1]) (([] : List Lesson), ([] : List (Raw 4)), v11, 0)) [0, 1, 2, 3, 4] ⟨by decide, rfl⟩ ?_
    refine WJ.sub (m' := (fun (x : (List Lesson) × (List (Raw 4)) × Value × Int) => [(4, pt g6 0), (5, v9), (6, x.2.2.1), (7, .int .i64 x.2.2.2)]) (([] : List Lesson), ([] : List (Raw 4)), v11, 0)) ⟨rfl, rfl, rfl, rfl, trivial⟩ ?_
    refine WJ.loop (X := (List Lesson) × (List (Raw 4)) × Value × Int) (fun N (x : (List Lesson) × (List (Raw 4)) × Value × Int) => s_DrawSameLessons_l1 kj15 r7 N x.1 x.2.2.2 = some r) (fun (x : (List Lesson) × (List (Raw 4)) × Value × Int) => [(4, pt g6 0), (5, v9), (6, x.2.2.1), (7, .int .i64 x.2.2.2)]) (fun (x : (List Lesson) × (List (Raw 4)) × Value × Int) => [ins shLesson 2 fI64 x.2.1 x.1, row x.2.2.1 47 fRaw4 x.2.1, box g6 112 [v2, .int .i64 r7.2.at_, .int .u64 r7.2.seed], row v9 47 fRaw4 vs10, ins shLesson 2 fI64 vs10 r7.1]) ?_ N (([] : List Lesson), ([] : List (Raw 4)), v11, 0) hm
    · rintro N ⟨l17, vs18, v19, i20⟩ hI
      have hm := hI; clear hI
      cases N with
      | zero => cases hm
      | succ N =>
      unfold s_DrawSameLessons_l1 at hm
      refine WJ.seq ?_
      refine WJ.seq ?_
      refine WJ.quiet ?_
      refine QJ.step (YldS.yld (y_move rfl)) rfl ?_
      refine QJ.step (YldS.yld (y_move rfl)) rfl ?_
      refine QJ.step (YldS.yld (y_lenSh (k := 3) (j := 4) rfl rfl Tryd.runUnderlying24 rfl)) rfl ?_
      refine QJ.step (YldS.yld (y_bin rfl rfl rfl)) rfl ?_
      refine QJ.done ?_
      refine PJ.next ?_
      refine WJ.cond (t := decide (i20 < (List.length r7.1 : Int))) rfl (fun hb21 => ?_) (fun hb21 => ?_)
      · replace hm := ifT hm hb21
        refine WJ.skip ?_
        refine PJ.next ?_
        refine WJ.seq ?_
        refine WJ.block ?_
        refine WJ.ins_len 0 rfl fun hl22 => ?_
        refine WJ.ins_len 4 rfl fun hl23 => ?_
        obtain ⟨e24, h25, hm⟩ := bindS hm
        obtain ⟨y26, hy27⟩ := inn_idx hl23.1 h25
        obtain hs28 := hl23.2 _ _ _ hy27 h25
        obtain ⟨e29, h30, hm⟩ := bindS hm
        obtain ⟨y31, hy32⟩ := inn_idx hl23.1 h30
        obtain hs33 := hl23.2 _ _ _ hy32 h30
        obtain ⟨e34, h35, hm⟩ := bindS hm
        obtain ⟨y36, hy37⟩ := inn_idx hl23.1 h35
        obtain hs38 := hl23.2 _ _ _ hy37 h35
        obtain ⟨r39, h40, hm⟩ := bindS hm
        obtain ⟨e42, h43, hm⟩ := bindS hm
        obtain ⟨y44, hy45⟩ := inn_idx hl23.1 h43
        obtain hs46 := hl23.2 _ _ _ hy45 h43
        obtain ⟨l52, h53, hm⟩ := bindS hm
        refine WJ.draws (N := 26) (listed0 := #[false, false, false, false, false, false, false, false, false, false, false, false, false, false, false, false, false, false, false, false, false, false, false, false, false, false]) [box g6 112 [v2, .int .i64 r7.2.at_, .int .u64 r7.2.seed], row v9 47 fRaw4 vs10, ins shLesson 2 fI64 vs10 r7.1] follows rfl rfl ?_
        refine RJ.first 0 (listed' := #[true, false, false, false, false, false, false, false, false, false, false, false, false, false, false, false, false, false, false, false, false, false, false, false, false, false]) [2, 3, 4] rfl (by kernel_rfl) rfl ⟨by decide, rfl⟩ (y_move rfl) rfl ?_
        refine RJ.first 1 (listed' := #[true, true, false, false, false, false, false, false, false, false, false, false, false, false, false, false, false, false, false, false, false, false, false, false, false, false]) [2, 3, 4] rfl (by kernel_rfl) rfl ⟨by decide, rfl⟩ (y_move rfl) rfl ?_
        refine RJ.first 2 (listed' := #[true, true, true, false, false, false, false, false, false, false, false, false, false, false, false, false, false, false, false, false, false, false, false, false, false, false]) [2, 3, 4] rfl (by kernel_rfl) rfl ⟨by decide, rfl⟩ (y_move rfl) rfl ?_
        refine RJ.first 3 (listed' := #[true, true, true, true, false, false, false, false, false, false, false, false, false, false, false, false, false, false, false, false, false, false, false, false, false, false]) [2, 3, 4] rfl (by kernel_rfl) rfl ⟨by decide, rfl⟩ (y_ixRow (k := 1) (R := fRaw4) rfl Tryd.runUnderlying24 Tryd.sizeOf47 rfl rfl hy27) rfl ?_
        refine RJ.first 4 (listed' := #[true, true, true, true, true, false, false, false, false, false, false, false, false, false, false, false, false, false, false, false, false, false, false, false, false, false]) [2, 3, 4] rfl (by kernel_rfl) rfl ⟨by decide, rfl⟩ (y_fldR fld47_0 rfl) rfl ?_
        refine RJ.first 5 (listed' := #[true, true, true, true, true, true, false, false, false, false, false, false, false, false, false, false, false, false, false, false, false, false, false, false, false, false]) [2, 3, 4] rfl (by kernel_rfl) rfl ⟨by decide, rfl⟩ (y_loadR (k := 1) (i := (Int.toNat i20)) (off := 0) (u := str e24.name) rfl Tryd.isAgg9 rfl (idx_get hy27) (sh_cell hs28 rfl)) rfl ?_
        refine RJ.first 6 (listed' := #[true, true, true, true, true, true, true, false, false, false, false, false, false, false, false, false, false, false, false, false, false, false, false, false, false, false]) [2, 3, 4] rfl (by kernel_rfl) rfl ⟨by decide, rfl⟩ (y_move rfl) rfl ?_
        refine RJ.first 7 (listed' := #[true, true, true, true, true, true, true, true, false, false, false, false, false, false, false, false, false, false, false, false, false, false, false, false, false, false]) [2, 3, 4] rfl (by kernel_rfl) rfl ⟨by decide, rfl⟩ (y_move rfl) rfl ?_
        refine RJ.first 8 (listed' := #[true, true, true, true, true, true, true, true, true, false, false, false, false, false, false, false, false, false, false, false, false, false, false, false, false, false]) [2, 3, 4] rfl (by kernel_rfl) rfl ⟨by decide, rfl⟩ (y_ixRow (k := 1) (R := fRaw4) rfl Tryd.runUnderlying24 Tryd.sizeOf47 rfl rfl hy32) rfl ?_
        refine RJ.first 9 (listed' := #[true, true, true, true, true, true, true, true, true, true, false, false, false, false, false, false, false, false, false, false, false, false, false, false, false, false]) [2, 3, 4] rfl (by kernel_rfl) rfl ⟨by decide, rfl⟩ (y_fldR fld47_1 rfl) rfl ?_
        refine RJ.first 10 (listed' := #[true, true, true, true, true, true, true, true, true, true, true, false, false, false, false, false, false, false, false, false, false, false, false, false, false, false]) [2, 3, 4] rfl (by kernel_rfl) rfl ⟨by decide, rfl⟩ (y_loadR (k := 1) (i := (Int.toNat i20)) (off := 1) (u := str e29.letters) rfl Tryd.isAgg9 rfl (idx_get hy32) (sh_cell hs33 rfl)) rfl ?_
        refine RJ.first 11 (listed' := #[true, true, true, true, true, true, true, true, true, true, true, true, false, false, false, false, false, false, false, false, false, false, false, false, false, false]) [2, 3, 4] rfl (by kernel_rfl) rfl ⟨by decide, rfl⟩ (y_move rfl) rfl ?_
        refine RJ.first 12 (listed' := #[true, true, true, true, true, true, true, true, true, true, true, true, true, false, false, false, false, false, false, false, false, false, false, false, false, false]) [2, 3, 4] rfl (by kernel_rfl) rfl ⟨by decide, rfl⟩ (y_move rfl) rfl ?_
        refine RJ.first 13 (listed' := #[true, true, true, true, true, true, true, true, true, true, true, true, true, true, false, false, false, false, false, false, false, false, false, false, false, false]) [2, 3, 4] rfl (by kernel_rfl) rfl ⟨by decide, rfl⟩ (y_ixRow (k := 1) (R := fRaw4) rfl Tryd.runUnderlying24 Tryd.sizeOf47 rfl rfl hy37) rfl ?_
        refine RJ.first 14 (listed' := #[true, true, true, true, true, true, true, true, true, true, true, true, true, true, true, false, false, false, false, false, false, false, false, false, false, false]) [2, 3, 4] rfl (by kernel_rfl) rfl ⟨by decide, rfl⟩ (y_fldR fld47_2 rfl) rfl ?_
        refine RJ.first 15 (listed' := #[true, true, true, true, true, true, true, true, true, true, true, true, true, true, true, true, false, false, false, false, false, false, false, false, false, false]) [2, 3, 4] rfl (by kernel_rfl) rfl ⟨by decide, rfl⟩ (y_loadR (k := 1) (i := (Int.toNat i20)) (off := 2) (u := (shLesson.sl y36)) rfl Tryd.isAgg26 rfl (idx_get hy37) (sh_cell hs38 rfl)) rfl ?_
        refine RJ.first 17 (listed' := #[true, true, true, true, true, true, true, true, true, true, true, true, true, true, true, true, false, true, false, false, false, false, false, false, false, false]) [2, 3, 4] rfl (by kernel_rfl) rfl ⟨by decide, rfl⟩ (y_move rfl) rfl ?_
        refine RJ.first 18 (listed' := #[true, true, true, true, true, true, true, true, true, true, true, true, true, true, true, true, false, true, true, false, false, false, false, false, false, false]) [2, 3, 4] rfl (by kernel_rfl) rfl ⟨by decide, rfl⟩ (y_move rfl) rfl ?_
        refine RJ.first 19 (listed' := #[true, true, true, true, true, true, true, true, true, true, true, true, true, true, true, true, false, true, true, true, false, false, false, false, false, false]) [2, 3, 4] rfl (by kernel_rfl) rfl ⟨by decide, rfl⟩ (y_ixRow (k := 1) (R := fRaw4) rfl Tryd.runUnderlying24 Tryd.sizeOf47 rfl rfl hy45) rfl ?_
        refine RJ.first 20 (listed' := #[true, true, true, true, true, true, true, true, true, true, true, true, true, true, true, true, false, true, true, true, true, false, false, false, false, false]) [2, 3, 4] rfl (by kernel_rfl) rfl ⟨by decide, rfl⟩ (y_fldR fld47_3 rfl) rfl ?_
        refine RJ.first 21 (listed' := #[true, true, true, true, true, true, true, true, true, true, true, true, true, true, true, true, false, true, true, true, true, true, false, false, false, false]) [2, 3, 4] rfl (by kernel_rfl) rfl ⟨by decide, rfl⟩ (y_loadR (k := 1) (i := (Int.toNat i20)) (off := 3) (u := .int .i64 e42.hours) rfl Tryd.isAgg2 rfl (idx_get hy45) (sh_cell hs46 rfl)) rfl ?_
        refine RJ.step1 16 [2, 3, 4] (by kernel_rfl) ⟨by decide, rfl⟩ ?_
        refine RO.of (listed' := #[true, true, true, true, true, true, true, true, true, true, true, true, true, true, true, true, true, true, true, true, true, true, false, false, false, false]) rfl rfl ?_
        refine SJ.call Tryd.call65 rfl (fun w hw => ok_s_l00Own h40 w _ (hw.ins_rd (k := 4) rfl rfl hy37 h35)) rfl ?_
        rintro v41 _ ⟨_, rfl, rfl⟩
        refine SJ.nil ?_
        refine PJ.draw ?_
        refine RJ.step1 22 [3, 4, 5] (by kernel_rfl) ⟨by decide, rfl⟩ ?_
        refine RO.of (listed' := #[true, true, true, true, true, true, true, true, true, true, true, true, true, true, true, true, true, true, true, true, true, true, true, false, false, false]) rfl rfl ?_
        refine SJ.rowCells (k := 0) rfl fun hc47 => ?_
        refine SJ.q (YldS.yld (y_build (parts := [(0, .tmp 24), (1, .tmp 29), (2, .tmp 35), (3, .tmp 40)]) (places := [(0, 1), (1, 1), (2, 1), (3, 1)]) (r := [str e24.name, str e29.letters, v41, .int .i64 e42.hours]) pl47 Tryd.zeroValue47 rfl rfl (show _ = [(0, [str e24.name]), (1, [str e29.letters]), (2, [v41]), (3, [.int .i64 e42.hours])] from by simp only [List.map, hc47.1]; try rfl) rfl)) rfl ?_
        refine SJ.nil ?_
        refine PJ.draw ?_
        refine RJ.step1 23 [3, 4, 5] (by kernel_rfl) ⟨by decide, rfl⟩ ?_
        refine RO.of (listed' := #[true, true, true, true, true, true, true, true, true, true, true, true, true, true, true, true, true, true, true, true, true, true, true, true, false, false]) rfl rfl ?_
        refine SJ.rowCells (k := 0) rfl fun hc48 => ?_
        refine SJ.buildSlice (R := fRaw4) (os := [.tmp 41]) ([mkRaw (n := 4) (shLesson.enc v41 (Lesson.mk e24.name e29.letters r39 e42.hours)) (shLesson.len _ _) (shLesson.one _ _ hc48.2)] : List (Raw 4)) Tryd.runUnderlying24 Tryd.sizeOf47 Tryd.zeroValue47 rfl rfl rfl rfl rfl rfl fun v49 => ?_
        refine SJ.ins_nil shLesson 2 fI64 ?_
        refine SJ.sel (L' := [row v41 2 fI64 r39, ins shLesson 2 fI64 [] ([] : List Lesson), row v49 47 fRaw4 ([mkRaw (n := 4) (shLesson.enc v41 (Lesson.mk e24.name e29.letters r39 e42.hours)) (shLesson.len _ _) (shLesson.one _ _ hc48.2)] : List (Raw 4)), ins shLesson 2 fI64 vs18 l17, row v19 47 fRaw4 vs18, box g6 112 [v2, .int .i64 r7.2.at_, .int .u64 r7.2.seed], row v9 47 fRaw4 vs10, ins shLesson 2 fI64 vs10 r7.1]) [2, 0, 1, 3, 4, 5, 6, 7] ⟨by decide, rfl⟩ ?_
        refine SJ.star ?_
        refine SJ.conv0 (fun w S h => ins_push (H := shLesson) (lx := r39) (y := mkRaw (n := 4) (shLesson.enc v41 (Lesson.mk e24.name e29.letters r39 e42.hours)) (shLesson.len _ _) (shLesson.one _ _ hc48.2)) (x := (Lesson.mk e24.name e29.letters r39 e42.hours)) rfl rfl h) ?_
        refine SJ.conv0 (B := ins shLesson 2 fI64 ([mkRaw (n := 4) (shLesson.enc v41 (Lesson.mk e24.name e29.letters r39 e42.hours)) (shLesson.len _ _) (shLesson.one _ _ hc48.2)] : List (Raw 4)) ([(Lesson.mk e24.name e29.letters r39 e42.hours)] : List Lesson)) (fun w S h => h) ?_
        refine SJ.nil ?_
        refine PJ.draw ?_
        refine RJ.step1 24 [4, 5, 6] (by kernel_rfl) ⟨by decide, rfl⟩ ?_
        refine RO.of (listed' := #[true, true, true, true, true, true, true, true, true, true, true, true, true, true, true, true, true, true, true, true, true, true, true, true, true, false]) rfl rfl ?_
        refine SJ.ins_len 2 rfl fun hl50 => ?_
        refine SJ.ins_len 0 rfl fun hl51 => ?_
        refine SJ.append (k := 3) (R := fRaw4) (app_raw h53 hl50.1 hl51.1) rfl Tryd.underlying24 el47 rfl rfl rfl (fun w hw => (hw.row_rd (k := 1) rfl)) rfl fun v54 => ?_
        refine SJ.sel (L' := [ins shLesson 2 fI64 vs18 l17, ins shLesson 2 fI64 ([mkRaw (n := 4) (shLesson.enc v41 (Lesson.mk e24.name e29.letters r39 e42.hours)) (shLesson.len _ _) (shLesson.one _ _ hc48.2)] : List (Raw 4)) ([(Lesson.mk e24.name e29.letters r39 e42.hours)] : List Lesson), row v49 47 fRaw4 ([mkRaw (n := 4) (shLesson.enc v41 (Lesson.mk e24.name e29.letters r39 e42.hours)) (shLesson.len _ _) (shLesson.one _ _ hc48.2)] : List (Raw 4)), row v54 47 fRaw4 (vs18 ++ ([mkRaw (n := 4) (shLesson.enc v41 (Lesson.mk e24.name e29.letters r39 e42.hours)) (shLesson.len _ _) (shLesson.one _ _ hc48.2)] : List (Raw 4))), box g6 112 [v2, .int .i64 r7.2.at_, .int .u64 r7.2.seed], row v9 47 fRaw4 vs10, ins shLesson 2 fI64 vs10 r7.1]) [2, 0, 1, 3, 4, 5, 6] ⟨by decide, rfl⟩ ?_
        refine SJ.star ?_
        refine SJ.conv0 (fun w S h => ins_app h53 h) ?_
        refine SJ.nil ?_
        refine PJ.draw ?_
        refine RJ.first 25 (listed' := #[true, true, true, true, true, true, true, true, true, true, true, true, true, true, true, true, true, true, true, true, true, true, true, true, true, true]) [3, 4, 5] rfl (by kernel_rfl) rfl ⟨by decide, rfl⟩ (y_assign rfl) rfl ?_
        refine RJ.fin [3, 4, 5] (by kernel_rfl) ⟨by decide, rfl⟩ ?_
        refine PJ.block_normal (PJ.next ?_)
        refine WJ.quiet ?_
        refine QJ.step (YldS.yld (y_move rfl)) rfl ?_
        refine QJ.step (YldS.yld (y_bin rfl rfl rfl)) rfl ?_
        refine QJ.step (YldS.yld (y_assign rfl)) rfl ?_
        refine QJ.done ?_
        exact PJ.round (l52, (vs18 ++ ([mkRaw (n := 4) (shLesson.enc v41 (Lesson.mk e24.name e29.letters r39 e42.hours)) (shLesson.len _ _) (shLesson.one _ _ hc48.2)] : List (Raw 4))), v54, w64 (i20 + 1)) [0, 2, 3, 4, 5] hm ⟨rfl, rfl, rfl, rfl, trivial⟩ ⟨by decide, rfl⟩
      · replace hm := ifF hm hb21
        refine WJ.exit ?_
        refine PJ.then_exit (PJ.then_exit (PJ.block_exit ?_))
        exact PJ.joined (l17, vs18, v19) [0, 1, 2, 3, 4] hm ⟨rfl, rfl, rfl, trivial⟩ ⟨by decide, rfl⟩
  · rintro ⟨l12, vs13, v14⟩ hm
    subst hk16
    obtain ⟨kj59, hk60, hm⟩ := withK_open hm
    refine WJ.join (X := (List Lesson) × Int × Int × (List (Raw 4))) (fun (x : (List Lesson) × Int × Int × (List (Raw 4))) => kj59 x.1 x.2.1 x.2.2.1 = some r) (fun (x : (List Lesson) × Int × Int × (List (Raw 4))) => [(4, pt g6 0), (5, v9), (6, v14)]) (fun (x : (List Lesson) × Int × Int × (List (Raw 4))) => [ins shLesson 2 fI64 x.2.2.2 x.1, box g6 112 [v2, .int .i64 x.2.1, .int .u64 x.2.2.1], row v14 47 fRaw4 x.2.2.2, row v9 47 fRaw4 vs10, ins shLesson 2 fI64 vs10 r7.1]) ?_ ?_
    · clear hk60
      refine WJ.seq ?_
      refine WJ.quiet ?_
      refine QJ.step (YldS.yld (y_move rfl)) rfl ?_
      refine QJ.step (YldS.yld (y_lenSh (k := 1) (j := 0) rfl rfl Tryd.runUnderlying24 rfl)) rfl ?_
      refine QJ.step (YldS.yld (y_bin rfl rfl rfl)) rfl ?_
      refine QJ.done ?_
      refine PJ.next ?_
      refine WJ.cond (t := decide ((List.length l12 : Int) > 0)) rfl (fun hb61 => ?_) (fun hb61 => ?_)
      · replace hm := ifT hm hb61
        refine WJ.seq ?_
        refine WJ.reg ?_
        refine SJ.q (YldS.yld (y_move rfl)) rfl ?_
        obtain ⟨r62, h63, hm⟩ := bindS hm
        refine SJ.call1 (k := 2) rfl Tryd.call66 rfl (fun w S hw hA hO => ok_s_l00Src_pick h63 w S _ (hr3.st1 hw hO) hA) rfl ?_
        rintro _ _ ⟨rfl, rfl⟩
        refine SJ.nil ?_
        refine PJ.next ?_
        refine WJ.block ?_
        refine WJ.seq ?_
        refine WJ.quiet ?_
        refine QJ.step (YldS.yld (y_bin rfl rfl rfl)) rfl ?_
        refine QJ.step (YldS.yld (y_assign rfl)) rfl ?_
        refine QJ.done ?_
        refine PJ.next ?_
        refine WJ.cond (t := (r62.1 == 0)) rfl (fun hb64 => ?_) (fun hb64 => ?_)
        · replace hm := ifT hm hb64
          refine WJ.ins_len 1 rfl fun hl65 => ?_
          refine WJ.ins_len 4 rfl fun hl66 => ?_
          refine WJ.reg ?_
          refine SJ.q (YldS.yld (y_move rfl)) rfl ?_
          refine SJ.q (YldS.yld (y_move rfl)) rfl ?_
          obtain ⟨e67, h68, hm⟩ := bindS hm
          obtain ⟨y69, hy70⟩ := inn_idx hl65.1 h68
          obtain hs71 := hl65.2 _ _ _ hy70 h68
          refine SJ.q (YldS.yld (y_ixRow (k := 2) (R := fRaw4) rfl Tryd.runUnderlying24 Tryd.sizeOf47 rfl rfl hy70)) rfl ?_
          refine SJ.q (YldS.yld (y_fldR fld47_2 rfl)) rfl ?_
          refine SJ.insOpen 1 rfl hy70 h68 ?_
          refine SJ.q (YldS.yld (y_loadR (k := 3) (i := (Int.toNat 0)) (off := 2) (u := (shLesson.sl y69)) rfl Tryd.isAgg26 rfl (idx_get hy70) (sh_cell hs71 rfl))) rfl ?_
          refine SJ.buildSlice (R := fI64) (os := [.const (.int .i64 1)]) [1] Tryd.runUnderlying26 Tryd.sizeOf2 Tryd.zeroValue2 rfl rfl rfl rfl rfl rfl fun v72 => ?_
          obtain ⟨l73, h74, hm⟩ := bindS hm
          refine SJ.append (k := 1) (R := fI64) h74 rfl Tryd.underlying26 el2 rfl rfl rfl (fun w hw => (hw.row_rd (k := 0) rfl)) rfl fun v75 => ?_
          obtain ⟨e76, h77, hm⟩ := bindS hm
          obtain ⟨y78, hy79⟩ := inn_idx hl65.1 h77
          obtain hs80 := hl65.2 _ _ _ hy79 h77
          refine SJ.q (YldS.yld (y_ixRow (k := 4) (R := fRaw4) rfl Tryd.runUnderlying24 Tryd.sizeOf47 rfl rfl hy79)) rfl ?_
          refine SJ.q (YldS.yld (y_fldR fld47_2 rfl)) rfl ?_
          refine SJ.rowCells (k := 1) rfl fun hc81 => ?_
          refine SJ.storeRL (k := 4) (i := (Int.toNat 0)) (off := 2) (us := [v75]) (b := (rawPut y78 2 [v75] rfl (by simp [hc81.2]))) rfl rfl (idx_get hy79) rfl hc81.1 Tryd.sizeOf26 rfl (by simp [hc81.2]) rfl ?_
          refine SJ.sel (L' := [row v75 2 fI64 l73, inh (Int.toNat 0) shLesson 2 fI64 vs13 l12, row v72 2 fI64 [1], box g6 112 [v2, .int .i64 r62.2.at_, .int .u64 r62.2.seed], row v14 47 fRaw4 (List.set vs13 (Int.toNat 0) (rawPut y78 2 [v75] rfl (by simp [hc81.2]))), row v9 47 fRaw4 vs10, ins shLesson 2 fI64 vs10 r7.1]) [1, 3, 0, 2, 4, 5, 6] ⟨by decide, rfl⟩ ?_
          refine SJ.star ?_
          refine SJ.conv0 (fun w S h => inh_close (H := shLesson) (lx := l73) (i0 := 0) (y' := (rawPut y78 2 [v75] rfl (by simp [hc81.2]))) (x' := (Lesson.mk e76.name e76.letters l73 e76.hours)) ((congrArg (fun z => putL z 2 [v75]) hs80).trans rfl) rfl h) ?_
          refine SJ.nil ?_
          refine PJ.block_normal ?_
          exact PJ.joined ((List.set l12 (Int.toNat 0) (Lesson.mk e76.name e76.letters l73 e76.hours)), r62.2.at_, r62.2.seed, (List.set vs13 (Int.toNat 0) (rawPut y78 2 [v75] rfl (by simp [hc81.2])))) [0, 2, 3, 4, 5] hm ⟨rfl, rfl, rfl, trivial⟩ ⟨by decide, rfl⟩
        · replace hm := ifF hm hb64
          refine WJ.seq ?_
          refine WJ.quiet ?_
          refine QJ.step (YldS.yld (y_bin rfl rfl rfl)) rfl ?_
          refine QJ.step (YldS.yld (y_assign rfl)) rfl ?_
          refine QJ.done ?_
          refine PJ.next ?_
          refine WJ.cond (t := (r62.1 == 1)) rfl (fun hb82 => ?_) (fun hb82 => ?_)
          · replace hm := ifT hm hb82
            refine WJ.ins_len 1 rfl fun hl83 => ?_
            refine WJ.ins_len 4 rfl fun hl84 => ?_
            refine WJ.reg ?_
            refine SJ.q (YldS.yld (y_move rfl)) rfl ?_
            obtain ⟨e85, h86, hm⟩ := bindS hm
            obtain ⟨y87, hy88⟩ := inn_idx hl83.1 h86
            obtain hs89 := hl83.2 _ _ _ hy88 h86
            refine SJ.q (YldS.yld (y_ixRow (k := 2) (R := fRaw4) rfl Tryd.runUnderlying24 Tryd.sizeOf47 rfl rfl hy88)) rfl ?_
            refine SJ.q (YldS.yld (y_fldR fld47_1 rfl)) rfl ?_
            refine SJ.q (YldS.yld (y_loadR (k := 2) (i := (Int.toNat 0)) (off := 1) (u := str e85.letters) rfl Tryd.isAgg9 rfl (idx_get hy88) (sh_cell hs89 rfl))) rfl ?_
            obtain ⟨s90, h91, hm⟩ := bindS hm
            refine SJ.q (YldS.yld (y_cat h91 rfl rfl)) rfl ?_
            obtain ⟨e92, h93, hm⟩ := bindS hm
            obtain ⟨y94, hy95⟩ := inn_idx hl83.1 h93
            obtain hs96 := hl83.2 _ _ _ hy95 h93
            refine SJ.q (YldS.yld (y_ixRow (k := 2) (R := fRaw4) rfl Tryd.runUnderlying24 Tryd.sizeOf47 rfl rfl hy95)) rfl ?_
            refine SJ.q (YldS.yld (y_fldR fld47_1 rfl)) rfl ?_
            refine SJ.storeRL (k := 2) (i := (Int.toNat 0)) (off := 1) (us := [str s90]) (b := (rawPut y94 1 [str s90] rfl rfl)) rfl rfl (idx_get hy95) rfl rfl Tryd.sizeOf9 rfl rfl rfl ?_
            refine SJ.insPut 1 (i0 := 0) (y' := (rawPut y94 1 [str s90] rfl rfl)) (x' := (Lesson.mk e92.name s90 e92.needs e92.hours)) rfl hy95 h93 ((congrArg (fun z => putL z 1 [str s90]) hs96).trans rfl) rfl ?_
            refine SJ.nil ?_
            refine PJ.block_normal ?_
            exact PJ.joined ((List.set l12 (Int.toNat 0) (Lesson.mk e92.name s90 e92.needs e92.hours)), r62.2.at_, r62.2.seed, (List.set vs13 (Int.toNat 0) (rawPut y94 1 [str s90] rfl rfl))) [1, 0, 2, 3, 4] hm ⟨rfl, rfl, rfl, trivial⟩ ⟨by decide, rfl⟩
          · replace hm := ifF hm hb82
            refine WJ.skip ?_
            refine PJ.block_normal ?_
            exact PJ.joined (l12, r62.2.at_, r62.2.seed, vs13) [1, 0, 2, 3, 4] hm ⟨rfl, rfl, rfl, trivial⟩ ⟨by decide, rfl⟩
      · replace hm := ifF hm hb61
        refine WJ.skip ?_
        exact PJ.joined (l12, r7.2.at_, r7.2.seed, vs13) [0, 2, 1, 3, 4] hm ⟨rfl, rfl, rfl, trivial⟩ ⟨by decide, rfl⟩
    · rintro ⟨l55, x56, x57, vs58⟩ hm
      subst hk60
      obtain ⟨kj100, hk101, hm⟩ := withK_open hm
      refine WJ.join (X := (List Lesson) × (List (Raw 4)) × Value) (fun (x : (List Lesson) × (List (Raw 4)) × Value) => kj100 x.1 = some r) (fun (x : (List Lesson) × (List (Raw 4)) × Value) => [(5, v9), (6, x.2.2)]) (fun (x : (List Lesson) × (List (Raw 4)) × Value) => [ins shLesson 2 fI64 x.2.1 x.1, row x.2.2 47 fRaw4 x.2.1, row v9 47 fRaw4 vs10, ins shLesson 2 fI64 vs10 r7.1]) ?_ ?_
      · clear hk101
        refine WJ.seq ?_
        refine WJ.reg ?_
        refine SJ.q (YldS.yld (y_move rfl)) rfl ?_
        obtain ⟨r102, h103, hm⟩ := bindS hm
        refine SJ.call1 (k := 1) rfl Tryd.call67 rfl (fun w S hw hA hO => ok_s_l00Src_one h103 w S _ (hr3.st1 hw hO) hA) rfl ?_
        rintro _ _ ⟨rfl, rfl⟩
        refine SJ.nil ?_
        refine PJ.next ?_
        refine WJ.cond (t := r102.1) rfl (fun hb104 => ?_) (fun hb104 => ?_)
        · replace hm := ifT hm hb104
          refine WJ.reg ?_
          refine SJ.q (YldS.yld (y_move rfl)) rfl ?_
          refine SJ.q (YldS.yld (y_build (parts := []) (places := [(0, 1), (1, 1), (2, 1), (3, 1)]) (r := [str [], str [], .slice none 0 0, .int .i64 0]) pl47 Tryd.zeroValue47 rfl rfl rfl rfl)) rfl ?_
          refine SJ.nil_row 2 fI64 ?_
          refine SJ.rowCells (k := 0) rfl fun hc105 => ?_
          refine SJ.buildSlice (R := fRaw4) (os := [.tmp 72]) ([mkRaw (n := 4) (shLesson.enc (.slice none 0 0) (Lesson.mk [] [] ([] : List Int) 0)) (shLesson.len _ _) (shLesson.one _ _ hc105.2)] : List (Raw 4)) Tryd.runUnderlying24 Tryd.sizeOf47 Tryd.zeroValue47 rfl rfl rfl rfl rfl rfl fun v106 => ?_
          refine SJ.ins_nil shLesson 2 fI64 ?_
          refine SJ.sel (L' := [row (.slice none 0 0) 2 fI64 ([] : List Int), ins shLesson 2 fI64 [] ([] : List Lesson), row v106 47 fRaw4 ([mkRaw (n := 4) (shLesson.enc (.slice none 0 0) (Lesson.mk [] [] ([] : List Int) 0)) (shLesson.len _ _) (shLesson.one _ _ hc105.2)] : List (Raw 4)), box g6 112 [v2, .int .i64 r102.2.at_, .int .u64 r102.2.seed], ins shLesson 2 fI64 vs58 l55, row v14 47 fRaw4 vs58, row v9 47 fRaw4 vs10, ins shLesson 2 fI64 vs10 r7.1]) [2, 0, 1, 3, 4, 5, 6, 7] ⟨by decide, rfl⟩ ?_
          refine SJ.star ?_
          refine SJ.conv0 (fun w S h => ins_push (H := shLesson) (lx := ([] : List Int)) (y := mkRaw (n := 4) (shLesson.enc (.slice none 0 0) (Lesson.mk [] [] ([] : List Int) 0)) (shLesson.len _ _) (shLesson.one _ _ hc105.2)) (x := (Lesson.mk [] [] ([] : List Int) 0)) rfl rfl h) ?_
          refine SJ.conv0 (B := ins shLesson 2 fI64 ([mkRaw (n := 4) (shLesson.enc (.slice none 0 0) (Lesson.mk [] [] ([] : List Int) 0)) (shLesson.len _ _) (shLesson.one _ _ hc105.2)] : List (Raw 4)) ([(Lesson.mk [] [] ([] : List Int) 0)] : List Lesson)) (fun w S h => h) ?_
          refine SJ.ins_len 3 rfl fun hl107 => ?_
          refine SJ.ins_len 0 rfl fun hl108 => ?_
          obtain ⟨l109, h110, hm⟩ := bindS hm
          refine SJ.append (k := 4) (R := fRaw4) (app_raw h110 hl107.1 hl108.1) rfl Tryd.underlying24 el47 rfl rfl rfl (fun w hw => (hw.row_rd (k := 1) rfl)) rfl fun v111 => ?_
          refine SJ.sel (L' := [ins shLesson 2 fI64 vs58 l55, ins shLesson 2 fI64 ([mkRaw (n := 4) (shLesson.enc (.slice none 0 0) (Lesson.mk [] [] ([] : List Int) 0)) (shLesson.len _ _) (shLesson.one _ _ hc105.2)] : List (Raw 4)) ([(Lesson.mk [] [] ([] : List Int) 0)] : List Lesson), row v106 47 fRaw4 ([mkRaw (n := 4) (shLesson.enc (.slice none 0 0) (Lesson.mk [] [] ([] : List Int) 0)) (shLesson.len _ _) (shLesson.one _ _ hc105.2)] : List (Raw 4)), box g6 112 [v2, .int .i64 r102.2.at_, .int .u64 r102.2.seed], row v111 47 fRaw4 (vs58 ++ ([mkRaw (n := 4) (shLesson.enc (.slice none 0 0) (Lesson.mk [] [] ([] : List Int) 0)) (shLesson.len _ _) (shLesson.one _ _ hc105.2)] : List (Raw 4))), row v9 47 fRaw4 vs10, ins shLesson 2 fI64 vs10 r7.1]) [3, 0, 1, 2, 4, 5, 6] ⟨by decide, rfl⟩ ?_
          refine SJ.star ?_
          refine SJ.conv0 (fun w S h => ins_app h110 h) ?_
          refine SJ.q (YldS.yld (y_assign rfl)) rfl ?_
          refine SJ.nil ?_
          exact PJ.joined (l109, (vs58 ++ ([mkRaw (n := 4) (shLesson.enc (.slice none 0 0) (Lesson.mk [] [] ([] : List Int) 0)) (shLesson.len _ _) (shLesson.one _ _ hc105.2)] : List (Raw 4))), v111) [0, 3, 4, 5] hm ⟨rfl, rfl, trivial⟩ ⟨by decide, rfl⟩
        · replace hm := ifF hm hb104
          refine WJ.skip ?_
          exact PJ.joined (l55, vs58, v14) [1, 2, 3, 4] hm ⟨rfl, rfl, trivial⟩ ⟨by decide, rfl⟩
      · rintro ⟨l97, vs98, v99⟩ hm
        subst hk101
        refine WJ.seq ?_
        refine WJ.quiet ?_
        refine QJ.step (YldS.yld (y_move rfl)) rfl ?_
        refine QJ.step (YldS.yld (y_move rfl)) rfl ?_
        refine QJ.step (YldS.yld (y_assign rfl)) rfl ?_
        refine QJ.step (YldS.yld (y_assign rfl)) rfl ?_
        refine QJ.done ?_
        refine PJ.next ?_
        refine WJ.ret ?_
        obtain rfl := Option.some.inj hm
        refine PJ.sel (L' := [row v9 47 fRaw4 vs10, ins shLesson 2 fI64 vs10 r7.1, row v99 47 fRaw4 vs98, ins shLesson 2 fI64 vs98 l97]) [2, 3, 1, 0] ⟨by decide, rfl⟩ ?_
        exact PJ.retn (vs := [v9, v99]) Tryd.results18 ⟨rfl, rfl, trivial⟩ ⟨_, _, _, _, rfl, rfl⟩

set_option maxRecDepth 100000 in
set_option maxHeartbeats 1000000 in
theorem ok_s_DrawLessonText {N : Nat} {code1 : List UInt8} {r : (List Lesson) × Int} (hm : s_DrawLessonText N code1 = some r) (w : World) (v2 : Value) (hr3 : RdS w (cx w).Fz v2 fByte.rp code1) :
    Calls Tryd.prog 19 #[v2] w (RetG (cx w) fun u L => ∃ (u1 : Value) (u2 : List (Raw 4)), (u = tup [u1, .int .i64 r.2] ∧ L = [row u1 47 fRaw4 u2, ins shLesson 2 fI64 u2 r.1])) := by
  unfold s_DrawLessonText at hm
  refine Calls.enter [v2] Tryd.func19 rfl Tryd.ntmps19 rfl ?_
  refine WJ.seq ?_
  refine WJ.quiet ?_
  refine QJ.step (YldS.yld (y_assign rfl)) rfl ?_
  refine QJ.step (YldS.yld (y_assign rfl)) rfl ?_
  refine QJ.done ?_
  refine PJ.next ?_
  refine WJ.seq ?_
  refine WJ.reg ?_
  refine SJ.q (YldS.yld (y_move rfl)) rfl ?_
  obtain ⟨r4, h5, hm⟩ := bindS hm
  refine SJ.call Tryd.call49 rfl (fun w hw => ok_s_l00From h5 w _ (hr3.st hw)) rfl ?_
  rintro _ _ ⟨g6, rfl, rfl⟩
  refine SJ.q (YldS.yld (y_assign rfl)) rfl ?_
  refine SJ.nil ?_
  refine PJ.next ?_
  refine WJ.seq ?_
  refine WJ.reg ?_
  refine SJ.q (YldS.yld (y_move rfl)) rfl ?_
  obtain ⟨r7, h8, hm⟩ := bindS hm
  refine SJ.call1 (k := 0) rfl Tryd.call48 rfl (fun w S hw hA hO => ok_s_l18Bent h8 w S _ (hr3.st1 hw hO) hA) rfl ?_
  rintro v9 _ ⟨_, vs10, rfl, rfl⟩
  refine SJ.q (YldS.yld (y_assign rfl)) rfl ?_
  refine SJ.nil ?_
  refine PJ.next ?_
  refine WJ.seq ?_
  refine WJ.reg ?_
  refine SJ.q (YldS.yld (y_move rfl)) rfl ?_
  refine SJ.q (YldS.yld (y_move rfl)) rfl ?_
  refine SJ.q (YldS.yld (y_move rfl)) rfl ?_
  refine SJ.q (YldS.yld (y_lenSh (k := 1) (j := 2) rfl rfl Tryd.runUnderlying24 rfl)) rfl ?_
  refine SJ.q (YldS.yld (y_bin rfl rfl rfl)) rfl ?_
  obtain ⟨r11, h12, hm⟩ := bindS hm
  refine SJ.call1 (k := 0) rfl Tryd.call66 rfl (fun w S hw hA hO => ok_s_l00Src_pick h12 w S _ (hr3.st1 hw hO) hA) rfl ?_
  rintro _ _ ⟨rfl, rfl⟩
  refine SJ.q (YldS.yld (y_move rfl)) rfl ?_
  obtain ⟨r13, h14, hm⟩ := bindS hm
  refine SJ.call1 (k := 0) rfl Tryd.call66 rfl (fun w S hw hA hO => ok_s_l00Src_pick h14 w S _ (hr3.st1 hw hO) hA) rfl ?_
  rintro _ _ ⟨rfl, rfl⟩
  refine SJ.q (YldS.yld (y_quo rfl rfl (by decide))) rfl ?_
  refine SJ.q (YldS.yld (y_bin rfl rfl rfl)) rfl ?_
  refine SJ.q (YldS.yld (y_assign rfl)) rfl ?_
  refine SJ.q (YldS.yld (y_assign rfl)) rfl ?_
  refine SJ.nil ?_
  refine PJ.next ?_
  refine WJ.ret ?_
  obtain rfl := Option.some.inj hm
  refine PJ.sel (L' := [row v9 47 fRaw4 vs10, ins shLesson 2 fI64 vs10 r7.1]) [1, 2] ⟨by decide, rfl⟩ ?_
  exact PJ.retn (vs := [v9, .int .i64 (w64 (r11.1 - (w64 (Int.tdiv r13.1 15))))]) Tryd.results19 ⟨rfl, rfl, trivial⟩ ⟨_, _, rfl, rfl⟩

set_option maxRecDepth 100000 in
set_option maxHeartbeats 1000000 in
theorem ok_w_f6ints {N : Nat} {a1 : List Int} {b4 : List Int} {r : Bool} (hm : w_f6ints N a1 b4 = some r) (w : World) (v2 : Value) (hr3 : RdS w (cx w).Fz v2 fI64.rp a1) (v5 : Value) (hr6 : RdS w (cx w).Fz v5 fI64.rp b4) :
    Calls Tryd.prog 20 #[v2, v5] w (Ret (cx w) (.bool r)) := by
  unfold w_f6ints at hm
  refine Calls.enter [v2, v5] Tryd.func20 rfl Tryd.ntmps20 rfl ?_
  refine WJ.seq ?_
  refine WJ.quiet ?_
  refine QJ.step (YldS.yld (y_assign rfl)) rfl ?_
  refine QJ.done ?_
  refine PJ.next ?_
  refine WJ.seq ?_
  refine WJ.seq ?_
  refine WJ.quiet ?_
  refine QJ.step (YldS.yld (y_move rfl)) rfl ?_
  refine QJ.step (YldS.yld (y_lenS Tryd.runUnderlying26 hr3 rfl)) rfl ?_
  refine QJ.step (YldS.yld (y_move rfl)) rfl ?_
  refine QJ.step (YldS.yld (y_lenS Tryd.runUnderlying26 hr6 rfl)) rfl ?_
  refine QJ.step (YldS.yld (y_bin rfl rfl rfl)) rfl ?_
  refine QJ.done ?_
  refine PJ.next ?_
  refine WJ.cond (t := ((List.length a1 : Int) != (List.length b4 : Int))) rfl (fun hb7 => ?_) (fun hb7 => ?_)
  · replace hm := ifT hm hb7
    refine WJ.seq ?_
    refine WJ.quiet ?_
    refine QJ.step (YldS.yld (y_assign rfl)) rfl ?_
    refine QJ.done ?_
    refine PJ.next ?_
    refine WJ.ret ?_
    refine PJ.then_ret ?_
    obtain rfl := Option.some.inj hm
    refine PJ.sel (L' := []) [] ⟨List.nodup_nil, rfl⟩ ?_
    exact PJ.retn (vs := [.bool false]) Tryd.results20 ⟨rfl, trivial⟩ ⟨rfl, rfl⟩
  · replace hm := ifF hm hb7
    refine WJ.skip ?_
    refine PJ.next ?_
    obtain ⟨kj8, hk9, hm⟩ := withK_open hm
    refine WJ.join (X := Unit) (fun (_ : Unit) => kj8  = some r) (fun (_ : Unit) => []) (fun (_ : Unit) => []) ?_ ?_
    · clear hk9
      refine WJ.seq ?_
      refine WJ.quiet ?_
      refine QJ.step (YldS.yld (y_assign rfl)) rfl ?_
      refine QJ.done ?_
      refine PJ.next ?_
      refine WJ.block ?_
      refine WJ.sel (L' := (fun (x : Int) => []) 0) [] ⟨List.nodup_nil, rfl⟩ ?_
      refine WJ.sub (m' := (fun (x : Int) => [(0, v2), (1, v5), (5, .int .i64 x)]) 0) ⟨rfl, rfl, rfl, trivial⟩ ?_
      refine WJ.loop (X := Int) (fun N (x : Int) => w_f6ints_l1 kj8 a1 b4 N x = some r) (fun (x : Int) => [(0, v2), (1, v5), (5, .int .i64 x)]) (fun (x : Int) => []) ?_ N 0 hm
      · rintro N i10 hI
        have hm := hI; clear hI
        cases N with
        | zero => cases hm
        | succ N =>
        unfold w_f6ints_l1 at hm
        refine WJ.seq ?_
        refine WJ.seq ?_
        refine WJ.quiet ?_
        refine QJ.step (YldS.yld (y_move rfl)) rfl ?_
        refine QJ.step (YldS.yld (y_move rfl)) rfl ?_
        refine QJ.step (YldS.yld (y_lenS Tryd.runUnderlying26 hr3 rfl)) rfl ?_
        refine QJ.step (YldS.yld (y_bin rfl rfl rfl)) rfl ?_
        refine QJ.done ?_
        refine PJ.next ?_
        refine WJ.cond (t := decide (i10 < (List.length a1 : Int))) rfl (fun hb11 => ?_) (fun hb11 => ?_)
        · replace hm := ifT hm hb11
          refine WJ.skip ?_
          refine PJ.next ?_
          refine WJ.seq ?_
          refine WJ.block ?_
          refine WJ.seq ?_
          refine WJ.quiet_draw follows (by kernel_rfl) ?_
          refine QJ.step (YldS.yld (y_move rfl)) rfl ?_
          refine QJ.step (YldS.yld (y_move rfl)) rfl ?_
          obtain ⟨e12, h13, hm⟩ := bindS hm
          obtain ⟨ad14, _, rfl, ha15, hy16⟩ := hr3.elem h13
          refine QJ.step (YldS.yld (hy16 Tryd.runUnderlying26 Tryd.sizeOf2 rfl rfl)) rfl ?_
          refine QJ.step (YldS.yld (y_load1 (v := .int .i64 e12) Tryd.isAgg2 ha15 St.frozenC rfl)) rfl ?_
          refine QJ.step (YldS.yld (y_move rfl)) rfl ?_
          refine QJ.step (YldS.yld (y_move rfl)) rfl ?_
          obtain ⟨e17, h18, hm⟩ := bindS hm
          obtain ⟨ad19, _, rfl, ha20, hy21⟩ := hr6.elem h18
          refine QJ.step (YldS.yld (hy21 Tryd.runUnderlying26 Tryd.sizeOf2 rfl rfl)) rfl ?_
          refine QJ.step (YldS.yld (y_load1 (v := .int .i64 e17) Tryd.isAgg2 ha20 St.frozenC rfl)) rfl ?_
          refine QJ.step (YldS.yld (y_bin rfl rfl rfl)) rfl ?_
          refine QJ.done ?_
          refine PJ.next ?_
          refine WJ.cond (t := (e12 != e17)) rfl (fun hb22 => ?_) (fun hb22 => ?_)
          · replace hm := ifT hm hb22
            refine WJ.seq ?_
            refine WJ.quiet ?_
            refine QJ.step (YldS.yld (y_assign rfl)) rfl ?_
            refine QJ.done ?_
            refine PJ.next ?_
            refine WJ.ret ?_
            refine PJ.block_ret (PJ.then_ret (PJ.then_ret (PJ.block_ret (PJ.then_ret ?_))))
            obtain rfl := Option.some.inj hm
            refine PJ.sel (L' := []) [] ⟨List.nodup_nil, rfl⟩ ?_
            exact PJ.retn (vs := [.bool false]) Tryd.results20 ⟨rfl, trivial⟩ ⟨rfl, rfl⟩
          · replace hm := ifF hm hb22
            refine WJ.skip ?_
            refine PJ.block_normal (PJ.next ?_)
            refine WJ.quiet ?_
            refine QJ.step (YldS.yld (y_move rfl)) rfl ?_
            refine QJ.step (YldS.yld (y_bin rfl rfl rfl)) rfl ?_
            refine QJ.step (YldS.yld (y_assign rfl)) rfl ?_
            refine QJ.done ?_
            exact PJ.round (w64 (i10 + 1)) [] hm ⟨rfl, rfl, rfl, trivial⟩ ⟨List.nodup_nil, rfl⟩
        · replace hm := ifF hm hb11
          refine WJ.exit ?_
          refine PJ.then_exit (PJ.then_exit (PJ.block_exit ?_))
          exact PJ.joined () [] hm trivial ⟨List.nodup_nil, rfl⟩
    · rintro _ hm
      subst hk9
      refine WJ.seq ?_
      refine WJ.quiet ?_
      refine QJ.step (YldS.yld (y_assign rfl)) rfl ?_
      refine QJ.done ?_
      refine PJ.next ?_
      refine WJ.ret ?_
      obtain rfl := Option.some.inj hm
      refine PJ.sel (L' := []) [] ⟨List.nodup_nil, rfl⟩ ?_
      exact PJ.retn (vs := [.bool true]) Tryd.results20 ⟨rfl, trivial⟩ ⟨rfl, rfl⟩

set_option maxRecDepth 100000 in
set_option maxHeartbeats 1000000 in
theorem ok_i_sameNumbers {N : Nat} {a1 : List Int} {b4 : List Int} {r : Bool} (hm : i_sameNumbers N a1 b4 = some r) (w : World) (v2 : Value) (hr3 : RdS w (cx w).Fz v2 fI64.rp a1) (v5 : Value) (hr6 : RdS w (cx w).Fz v5 fI64.rp b4) :
    Calls Tryd.prog 68 #[v2, v5] w (Ret (cx w) (.bool r)) := by
  unfold i_sameNumbers at hm
  refine Calls.enter [v2, v5] Tryd.func68 rfl Tryd.ntmps68 rfl ?_
  refine WJ.seq ?_
  refine WJ.quiet ?_
  refine QJ.step (YldS.yld (y_assign rfl)) rfl ?_
  refine QJ.done ?_
  refine PJ.next ?_
  refine WJ.seq ?_
  refine WJ.seq ?_
  refine WJ.quiet ?_
  refine QJ.step (YldS.yld (y_move rfl)) rfl ?_
  refine QJ.step (YldS.yld (y_lenS Tryd.runUnderlying26 hr3 rfl)) rfl ?_
  refine QJ.step (YldS.yld (y_move rfl)) rfl ?_
  refine QJ.step (YldS.yld (y_lenS Tryd.runUnderlying26 hr6 rfl)) rfl ?_
  refine QJ.step (YldS.yld (y_bin rfl rfl rfl)) rfl ?_
  refine QJ.done ?_
  refine PJ.next ?_
  refine WJ.cond (t := ((List.length a1 : Int) != (List.length b4 : Int))) rfl (fun hb7 => ?_) (fun hb7 => ?_)
  · replace hm := ifT hm hb7
    refine WJ.seq ?_
    refine WJ.quiet ?_
    refine QJ.step (YldS.yld (y_assign rfl)) rfl ?_
    refine QJ.done ?_
    refine PJ.next ?_
    refine WJ.ret ?_
    refine PJ.then_ret ?_
    obtain rfl := Option.some.inj hm
    refine PJ.sel (L' := []) [] ⟨List.nodup_nil, rfl⟩ ?_
    exact PJ.retn (vs := [.bool false]) Tryd.results68 ⟨rfl, trivial⟩ ⟨rfl, rfl⟩
  · replace hm := ifF hm hb7
    refine WJ.skip ?_
    refine PJ.next ?_
    obtain ⟨kj8, hk9, hm⟩ := withK_open hm
    refine WJ.join (X := Unit) (fun (_ : Unit) => kj8  = some r) (fun (_ : Unit) => []) (fun (_ : Unit) => []) ?_ ?_
    · clear hk9
      refine WJ.seq ?_
      refine WJ.quiet ?_
      refine QJ.step (YldS.yld (y_move rfl)) rfl ?_
      refine QJ.step (YldS.yld (y_lenS Tryd.runUnderlying26 hr3 rfl)) rfl ?_
      refine QJ.step (YldS.yld (y_move rfl)) rfl ?_
      refine QJ.done ?_
      refine PJ.next ?_
      refine WJ.block ?_
      refine WJ.sel (L' := (fun (x : Int) => []) 0) [] ⟨List.nodup_nil, rfl⟩ ?_
      refine WJ.sub (m' := (fun (x : Int) => [(0, v2), (1, v5), (12, .int .i64 (List.length a1 : Int)), (13, .int .i64 x)]) 0) ⟨rfl, rfl, rfl, rfl, trivial⟩ ?_
      refine WJ.loop (X := Int) (fun N (x : Int) => i_sameNumbers_l1 kj8 a1 b4 N x = some r) (fun (x : Int) => [(0, v2), (1, v5), (12, .int .i64 (List.length a1 : Int)), (13, .int .i64 x)]) (fun (x : Int) => []) ?_ N 0 hm
      · rintro N x10 hI
        have hm := hI; clear hI
        cases N with
        | zero => cases hm
        | succ N =>
        unfold i_sameNumbers_l1 at hm
        refine WJ.seq ?_
        refine WJ.quiet ?_
        refine QJ.step (YldS.yld (y_bin rfl rfl rfl)) rfl ?_
        refine QJ.done ?_
        refine PJ.next ?_
        refine WJ.seq ?_
        refine WJ.cond (t := decide (x10 < (List.length a1 : Int))) rfl (fun hb11 => ?_) (fun hb11 => ?_)
        · replace hm := ifT hm hb11
          refine WJ.skip ?_
          refine PJ.next ?_
          refine WJ.seq ?_
          refine WJ.block ?_
          refine WJ.seq ?_
          refine WJ.quiet ?_
          refine QJ.step (YldS.yld (y_move rfl)) rfl ?_
          refine QJ.step (YldS.yld (y_assign rfl)) rfl ?_
          refine QJ.done ?_
          refine PJ.next ?_
          refine WJ.seq ?_
          refine WJ.quiet_draw follows (by kernel_rfl) ?_
          refine QJ.step (YldS.yld (y_move rfl)) rfl ?_
          refine QJ.step (YldS.yld (y_move rfl)) rfl ?_
          obtain ⟨e12, h13, hm⟩ := bindS hm
          obtain ⟨ad14, _, rfl, ha15, hy16⟩ := hr3.elem h13
          refine QJ.step (YldS.yld (hy16 Tryd.runUnderlying26 Tryd.sizeOf2 rfl rfl)) rfl ?_
          refine QJ.step (YldS.yld (y_load1 (v := .int .i64 e12) Tryd.isAgg2 ha15 St.frozenC rfl)) rfl ?_
          refine QJ.step (YldS.yld (y_move rfl)) rfl ?_
          refine QJ.step (YldS.yld (y_move rfl)) rfl ?_
          obtain ⟨e17, h18, hm⟩ := bindS hm
          obtain ⟨ad19, _, rfl, ha20, hy21⟩ := hr6.elem h18
          refine QJ.step (YldS.yld (hy21 Tryd.runUnderlying26 Tryd.sizeOf2 rfl rfl)) rfl ?_
          refine QJ.step (YldS.yld (y_load1 (v := .int .i64 e17) Tryd.isAgg2 ha20 St.frozenC rfl)) rfl ?_
          refine QJ.step (YldS.yld (y_bin rfl rfl rfl)) rfl ?_
          refine QJ.done ?_
          refine PJ.next ?_
          refine WJ.cond (t := (e12 != e17)) rfl (fun hb22 => ?_) (fun hb22 => ?_)
          · replace hm := ifT hm hb22
            refine WJ.seq ?_
            refine WJ.quiet ?_
            refine QJ.step (YldS.yld (y_assign rfl)) rfl ?_
            refine QJ.done ?_
            refine PJ.next ?_
            refine WJ.ret ?_
            refine PJ.block_ret (PJ.then_ret (PJ.then_ret (PJ.block_ret (PJ.then_ret ?_))))
            obtain rfl := Option.some.inj hm
            refine PJ.sel (L' := []) [] ⟨List.nodup_nil, rfl⟩ ?_
            exact PJ.retn (vs := [.bool false]) Tryd.results68 ⟨rfl, trivial⟩ ⟨rfl, rfl⟩
          · replace hm := ifF hm hb22
            refine WJ.skip ?_
            refine PJ.block_normal (PJ.next ?_)
            refine WJ.quiet ?_
            refine QJ.step (YldS.yld (y_bin rfl rfl rfl)) rfl ?_
            refine QJ.step (YldS.yld (y_move rfl)) rfl ?_
            refine QJ.done ?_
            exact PJ.round (w64 (x10 + 1)) [] hm ⟨rfl, rfl, rfl, rfl, trivial⟩ ⟨List.nodup_nil, rfl⟩
        · replace hm := ifF hm hb11
          refine WJ.exit ?_
          refine PJ.then_exit (PJ.then_exit (PJ.block_exit ?_))
          exact PJ.joined () [] hm trivial ⟨List.nodup_nil, rfl⟩
    · rintro _ hm
      subst hk9
      refine WJ.seq ?_
      refine WJ.quiet ?_
      refine QJ.step (YldS.yld (y_assign rfl)) rfl ?_
      refine QJ.done ?_
      refine PJ.next ?_
      refine WJ.ret ?_
      obtain rfl := Option.some.inj hm
      refine PJ.sel (L' := []) [] ⟨List.nodup_nil, rfl⟩ ?_
      exact PJ.retn (vs := [.bool true]) Tryd.results68 ⟨rfl, trivial⟩ ⟨rfl, rfl⟩

set_option maxRecDepth 100000 in
set_option maxHeartbeats 1000000 in
theorem ok_i_SameLessons {N : Nat} {a1 : List Lesson} {b4 : List Lesson} {r : Bool} (hm : i_SameLessons N a1 b4 = some r) (w : World) (v2 : Value) (hr3 : RdS w (cx w).Fz v2 (shLesson.rp fI64.rp) a1) (v5 : Value) (hr6 : RdS w (cx w).Fz v5 (shLesson.rp fI64.rp) b4) :
    Calls Tryd.prog 21 #[v2, v5] w (Ret (cx w) (.bool r)) := by
  unfold i_SameLessons at hm
  refine Calls.enter [v2, v5] Tryd.func21 rfl Tryd.ntmps21 rfl ?_
  refine WJ.seq ?_
  refine WJ.quiet ?_
  refine QJ.step (YldS.yld (y_assign rfl)) rfl ?_
  refine QJ.done ?_
  refine PJ.next ?_
  refine WJ.seq ?_
  refine WJ.seq ?_
  refine WJ.quiet ?_
  refine QJ.step (YldS.yld (y_move rfl)) rfl ?_
  refine QJ.step (YldS.yld (y_lenS Tryd.runUnderlying24 hr3 rfl)) rfl ?_
  refine QJ.step (YldS.yld (y_move rfl)) rfl ?_
  refine QJ.step (YldS.yld (y_lenS Tryd.runUnderlying24 hr6 rfl)) rfl ?_
  refine QJ.step (YldS.yld (y_bin rfl rfl rfl)) rfl ?_
  refine QJ.done ?_
  refine PJ.next ?_
  refine WJ.cond (t := ((List.length a1 : Int) != (List.length b4 : Int))) rfl (fun hb7 => ?_) (fun hb7 => ?_)
  · replace hm := ifT hm hb7
    refine WJ.seq ?_
    refine WJ.quiet ?_
    refine QJ.step (YldS.yld (y_assign rfl)) rfl ?_
    refine QJ.done ?_
    refine PJ.next ?_
    refine WJ.ret ?_
    refine PJ.then_ret ?_
    obtain rfl := Option.some.inj hm
    refine PJ.sel (L' := []) [] ⟨List.nodup_nil, rfl⟩ ?_
    exact PJ.retn (vs := [.bool false]) Tryd.results21 ⟨rfl, trivial⟩ ⟨rfl, rfl⟩
  · replace hm := ifF hm hb7
    refine WJ.skip ?_
    refine PJ.next ?_
    obtain ⟨kj8, hk9, hm⟩ := withK_open hm
    refine WJ.join (X := Unit) (fun (_ : Unit) => kj8  = some r) (fun (_ : Unit) => []) (fun (_ : Unit) => []) ?_ ?_
    · clear hk9
      refine WJ.seq ?_
      refine WJ.quiet ?_
      refine QJ.step (YldS.yld (y_move rfl)) rfl ?_
      refine QJ.step (YldS.yld (y_lenS Tryd.runUnderlying24 hr3 rfl)) rfl ?_
      refine QJ.step (YldS.yld (y_move rfl)) rfl ?_
      refine QJ.done ?_
      refine PJ.next ?_
      refine WJ.block ?_
      refine WJ.sel (L' := (fun (x : Int) => []) 0) [] ⟨List.nodup_nil, rfl⟩ ?_
      refine WJ.sub (m' := (fun (x : Int) => [(1, v5), (13, v2), (14, .int .i64 (List.length a1 : Int)), (15, .int .i64 x)]) 0) ⟨rfl, rfl, rfl, rfl, trivial⟩ ?_
      refine WJ.loop (X := Int) (fun N (x : Int) => i_SameLessons_l1 kj8 a1 b4 N x = some r) (fun (x : Int) => [(1, v5), (13, v2), (14, .int .i64 (List.length a1 : Int)), (15, .int .i64 x)]) (fun (x : Int) => []) ?_ N 0 hm
      · rintro N x10 hI
        have hm := hI; clear hI
        cases N with
        | zero => cases hm
        | succ N =>
        unfold i_SameLessons_l1 at hm
        refine WJ.seq ?_
        refine WJ.quiet ?_
        refine QJ.step (YldS.yld (y_bin rfl rfl rfl)) rfl ?_
        refine QJ.done ?_
        refine PJ.next ?_
        refine WJ.seq ?_
        refine WJ.cond (t := decide (x10 < (List.length a1 : Int))) rfl (fun hb11 => ?_) (fun hb11 => ?_)
        · replace hm := ifT hm hb11
          refine WJ.skip ?_
          refine PJ.next ?_
          refine WJ.seq ?_
          refine WJ.block ?_
          refine WJ.seq ?_
          refine WJ.reg ?_
          refine SJ.q (YldS.yld (y_move rfl)) rfl ?_
          obtain ⟨e12, h13, hm⟩ := bindS hm
          obtain ⟨ad14, _, ⟨v17, rfl, hr18⟩, ha15, hy16⟩ := hr3.elem h13
          refine SJ.q (YldS.yld (hy16 Tryd.runUnderlying24 Tryd.sizeOf47 rfl rfl)) rfl ?_
          refine SJ.q (YldS.yld (y_loadN Tryd.isAgg47 Tryd.sizeOf47 rfl ha15 St.frozenC rfl)) rfl ?_
          refine SJ.alloc (cs := [str [], str [], .slice none 0 0, .int .i64 0]) Tryd.zeroValue47 rfl rfl fun g19 => ?_
          refine SJ.nil_row 2 fI64 ?_
          refine SJ.q (YldS.yld (y_assign rfl)) rfl ?_
          have hc20 := And.intro (RdS.cells1 hr18) (RdS.one1 hr18)
          refine SJ.storeL (k := 1) (off := 0) (us := [str e12.name, str e12.letters, v17, .int .i64 e12.hours]) rfl rfl rfl rfl Tryd.sizeOf47 rfl (by simp only [List.all_cons, hc20.2]; rfl) ?_
          refine SJ.nil ?_
          refine PJ.next ?_
          refine WJ.seq ?_
          refine WJ.reg ?_
          refine SJ.q (YldS.yld (y_move rfl)) rfl ?_
          refine SJ.q (YldS.yld (y_move rfl)) rfl ?_
          obtain ⟨e21, h22, hm⟩ := bindS hm
          obtain ⟨ad23, _, ⟨v26, rfl, hr27⟩, ha24, hy25⟩ := hr6.elem h22
          refine SJ.q (YldS.yld (hy25 Tryd.runUnderlying24 Tryd.sizeOf47 rfl rfl)) rfl ?_
          refine SJ.q (YldS.yld (y_loadN Tryd.isAgg47 Tryd.sizeOf47 rfl ha24 St.frozenC rfl)) rfl ?_
          refine SJ.alloc (cs := [str [], str [], .slice none 0 0, .int .i64 0]) Tryd.zeroValue47 rfl rfl fun g28 => ?_
          refine SJ.nil_row 2 fI64 ?_
          have hc29 := And.intro (RdS.cells1 hr27) (RdS.one1 hr27)
          refine SJ.storeL (k := 1) (off := 0) (us := [str e21.name, str e21.letters, v26, .int .i64 e21.hours]) rfl rfl rfl rfl Tryd.sizeOf47 rfl (by simp only [List.all_cons, hc29.2]; rfl) ?_
          refine SJ.nil ?_
          refine PJ.next ?_
          refine WJ.seq ?_
          refine WJ.quiet ?_
          refine QJ.step (YldS.yld (y_fldB (o := 0) fld47_0 rfl)) rfl ?_
          refine QJ.step (YldS.yld (y_loadB (k := 3) (off := 0) (v := str e12.name) rfl Tryd.isAgg9 rfl rfl)) rfl ?_
          refine QJ.step (YldS.yld (y_fldB (o := 0) fld47_0 rfl)) rfl ?_
          refine QJ.step (YldS.yld (y_loadB (k := 1) (off := 0) (v := str e21.name) rfl Tryd.isAgg9 rfl rfl)) rfl ?_
          refine QJ.step (YldS.yld (y_binS rfl rfl rfl)) rfl ?_
          refine QJ.step (YldS.yld (y_move rfl)) rfl ?_
          obtain ⟨t30, h31, hm⟩ := bindS hm
          refine QJ.cut 6 [(1, v5), (6, pt g19 0), (7, pt g28 0), (13, v2), (14, .int .i64 (List.length a1 : Int)), (15, .int .i64 x10), (35, .bool t30)] ?_ ?_
          · rcases Bool.eq_false_or_eq_true (e12.name != e21.name) with hb32 | hb32
            · obtain rfl := orT h31 hb32
              refine QJ.off rfl rfl (cB hb32) rfl rfl ?_
              refine QJ.off rfl rfl (cB hb32) rfl rfl ?_
              refine QJ.off rfl rfl (cB hb32) rfl rfl ?_
              refine QJ.off rfl rfl (cB hb32) rfl rfl ?_
              refine QJ.off rfl rfl (cB hb32) rfl rfl ?_
              refine QJ.step (YldS.yld (y_pick_t (cB hb32) rfl)) rfl ?_
              exact QJ.cut_end ⟨rfl, rfl, rfl, rfl, rfl, rfl, rfl, trivial⟩
            · replace h31 := orF h31 hb32
              refine QJ.on rfl rfl (cB hb32) (YldS.yld (y_fldB (o := 0) fld47_1 rfl)) rfl ?_
              refine QJ.on rfl rfl (cB hb32) (YldS.yld (y_loadB (k := 3) (off := 1) (v := str e12.letters) rfl Tryd.isAgg9 rfl rfl)) rfl ?_
              refine QJ.on rfl rfl (cB hb32) (YldS.yld (y_fldB (o := 0) fld47_1 rfl)) rfl ?_
              refine QJ.on rfl rfl (cB hb32) (YldS.yld (y_loadB (k := 1) (off := 1) (v := str e21.letters) rfl Tryd.isAgg9 rfl rfl)) rfl ?_
              refine QJ.on rfl rfl (cB hb32) (YldS.yld (y_binS rfl rfl rfl)) rfl ?_
              refine QJ.step (YldS.yld (y_pick_f (cB hb32) rfl)) rfl ?_
              obtain rfl := Option.some.inj h31
              exact QJ.cut_end ⟨rfl, rfl, rfl, rfl, rfl, rfl, rfl, trivial⟩
          refine QJ.step (YldS.yld (y_move rfl)) rfl ?_
          obtain ⟨t33, h34, hm⟩ := bindS hm
          refine QJ.cut 6 [(1, v5), (6, pt g19 0), (7, pt g28 0), (13, v2), (14, .int .i64 (List.length a1 : Int)), (15, .int .i64 x10), (42, .bool t33)] ?_ ?_
          · rcases Bool.eq_false_or_eq_true t30 with hb35 | hb35
            · obtain rfl := orT h34 hb35
              refine QJ.off rfl rfl (cB hb35) rfl rfl ?_
              refine QJ.off rfl rfl (cB hb35) rfl rfl ?_
              refine QJ.off rfl rfl (cB hb35) rfl rfl ?_
              refine QJ.off rfl rfl (cB hb35) rfl rfl ?_
              refine QJ.off rfl rfl (cB hb35) rfl rfl ?_
              refine QJ.step (YldS.yld (y_pick_t (cB hb35) rfl)) rfl ?_
              exact QJ.cut_end ⟨rfl, rfl, rfl, rfl, rfl, rfl, rfl, trivial⟩
            · replace h34 := orF h34 hb35
              refine QJ.on rfl rfl (cB hb35) (YldS.yld (y_fldB (o := 0) fld47_3 rfl)) rfl ?_
              refine QJ.on rfl rfl (cB hb35) (YldS.yld (y_loadB (k := 3) (off := 3) (v := .int .i64 e12.hours) rfl Tryd.isAgg2 rfl rfl)) rfl ?_
              refine QJ.on rfl rfl (cB hb35) (YldS.yld (y_fldB (o := 0) fld47_3 rfl)) rfl ?_
              refine QJ.on rfl rfl (cB hb35) (YldS.yld (y_loadB (k := 1) (off := 3) (v := .int .i64 e21.hours) rfl Tryd.isAgg2 rfl rfl)) rfl ?_
              refine QJ.on rfl rfl (cB hb35) (YldS.yld (y_bin rfl rfl rfl)) rfl ?_
              refine QJ.step (YldS.yld (y_pick_f (cB hb35) rfl)) rfl ?_
              obtain rfl := Option.some.inj h34
              exact QJ.cut_end ⟨rfl, rfl, rfl, rfl, rfl, rfl, rfl, trivial⟩
          refine QJ.step (YldS.yld (y_move rfl)) rfl ?_
          obtain ⟨t36, h37, hm⟩ := bindS hm
          refine QJ.cut 7 [(1, v5), (13, v2), (14, .int .i64 (List.length a1 : Int)), (15, .int .i64 x10), (50, .bool t36)] ?_ ?_
          · rcases Bool.eq_false_or_eq_true t33 with hb38 | hb38
            · obtain rfl := orT h37 hb38
              refine QJ.off rfl rfl (cB hb38) rfl rfl ?_
              refine QJ.off rfl rfl (cB hb38) rfl rfl ?_
              refine QJ.off rfl rfl (cB hb38) rfl rfl ?_
              refine QJ.off rfl rfl (cB hb38) rfl rfl ?_
              refine QJ.off rfl rfl (cB hb38) rfl rfl ?_
              refine QJ.off rfl rfl (cB hb38) rfl rfl ?_
              refine QJ.step (YldS.yld (y_pick_t (cB hb38) rfl)) rfl ?_
              exact QJ.cut_end ⟨rfl, rfl, rfl, rfl, rfl, trivial⟩
            · replace h37 := orF h37 hb38
              refine QJ.on rfl rfl (cB hb38) (YldS.yld (y_fldB (o := 0) fld47_2 rfl)) rfl ?_
              refine QJ.on rfl rfl (cB hb38) (YldS.yld (y_loadB (k := 3) (off := 2) (v := v17) rfl Tryd.isAgg26 rfl rfl)) rfl ?_
              refine QJ.on rfl rfl (cB hb38) (YldS.yld (y_fldB (o := 0) fld47_2 rfl)) rfl ?_
              refine QJ.on rfl rfl (cB hb38) (YldS.yld (y_loadB (k := 1) (off := 2) (v := v26) rfl Tryd.isAgg26 rfl rfl)) rfl ?_
              obtain ⟨r39, h40, h37⟩ := bindS h37
              refine QJ.on rfl rfl (cB hb38) (y_call Tryd.call68 rfl (RetG.quiet fun w hw => ok_i_sameNumbers h40 w _ (hr18.st hw) _ (hr27.st hw))) rfl ?_
              refine QJ.on rfl rfl (cB hb38) (YldS.yld (y_not rfl)) rfl ?_
              refine QJ.step (YldS.yld (y_pick_f (cB hb38) rfl)) rfl ?_
              obtain rfl := Option.some.inj h37
              exact QJ.cut_end ⟨rfl, rfl, rfl, rfl, rfl, trivial⟩
          refine QJ.done ?_
          refine PJ.next ?_
          refine WJ.cond (t := t36) rfl (fun hb41 => ?_) (fun hb41 => ?_)
          · replace hm := ifT hm hb41
            refine WJ.seq ?_
            refine WJ.quiet ?_
            refine QJ.step (YldS.yld (y_assign rfl)) rfl ?_
            refine QJ.done ?_
            refine PJ.next ?_
            refine WJ.ret ?_
            refine PJ.block_ret (PJ.then_ret (PJ.then_ret (PJ.block_ret (PJ.then_ret ?_))))
            obtain rfl := Option.some.inj hm
            refine PJ.sel (L' := []) [] ⟨List.nodup_nil, rfl⟩ ?_
            exact PJ.retn (vs := [.bool false]) Tryd.results21 ⟨rfl, trivial⟩ ⟨rfl, rfl⟩
          · replace hm := ifF hm hb41
            refine WJ.skip ?_
            refine PJ.block_normal (PJ.next ?_)
            refine WJ.quiet ?_
            refine QJ.step (YldS.yld (y_bin rfl rfl rfl)) rfl ?_
            refine QJ.step (YldS.yld (y_move rfl)) rfl ?_
            refine QJ.done ?_
            exact PJ.round (w64 (x10 + 1)) [] hm ⟨rfl, rfl, rfl, rfl, trivial⟩ ⟨List.nodup_nil, rfl⟩
        · replace hm := ifF hm hb11
          refine WJ.exit ?_
          refine PJ.then_exit (PJ.then_exit (PJ.block_exit ?_))
          exact PJ.joined () [] hm trivial ⟨List.nodup_nil, rfl⟩
    · rintro _ hm
      subst hk9
      refine WJ.seq ?_
      refine WJ.quiet ?_
      refine QJ.step (YldS.yld (y_assign rfl)) rfl ?_
      refine QJ.done ?_
      refine PJ.next ?_
      refine WJ.ret ?_
      obtain rfl := Option.some.inj hm
      refine PJ.sel (L' := []) [] ⟨List.nodup_nil, rfl⟩ ?_
      exact PJ.retn (vs := [.bool true]) Tryd.results21 ⟨rfl, trivial⟩ ⟨rfl, rfl⟩

set_option maxRecDepth 100000 in
set_option maxHeartbeats 1000000 in
theorem ok_s_l00Same {N : Nat} {a1 : List Int} {b4 : List Int} {r : Bool} (hm : s_l00Same N a1 b4 = some r) (w : World) (v2 : Value) (hr3 : RdS w (cx w).Fz v2 fI64.rp a1) (v5 : Value) (hr6 : RdS w (cx w).Fz v5 fI64.rp b4) :
    Calls Tryd.prog 69 #[v2, v5] w (Ret (cx w) (.bool r)) := by
  unfold s_l00Same at hm
  refine Calls.enter [v2, v5] Tryd.func69 rfl Tryd.ntmps69 rfl ?_
  refine WJ.seq ?_
  refine WJ.quiet ?_
  refine QJ.step (YldS.yld (y_assign rfl)) rfl ?_
  refine QJ.done ?_
  refine PJ.next ?_
  refine WJ.seq ?_
  refine WJ.seq ?_
  refine WJ.quiet ?_
  refine QJ.step (YldS.yld (y_move rfl)) rfl ?_
  refine QJ.step (YldS.yld (y_lenS Tryd.runUnderlying26 hr3 rfl)) rfl ?_
  refine QJ.step (YldS.yld (y_move rfl)) rfl ?_
  refine QJ.step (YldS.yld (y_lenS Tryd.runUnderlying26 hr6 rfl)) rfl ?_
  refine QJ.step (YldS.yld (y_bin rfl rfl rfl)) rfl ?_
  refine QJ.done ?_
  refine PJ.next ?_
  refine WJ.cond (t := ((List.length a1 : Int) != (List.length b4 : Int))) rfl (fun hb7 => ?_) (fun hb7 => ?_)
  · replace hm := ifT hm hb7
    refine WJ.seq ?_
    refine WJ.quiet ?_
    refine QJ.step (YldS.yld (y_assign rfl)) rfl ?_
    refine QJ.done ?_
    refine PJ.next ?_
    refine WJ.ret ?_
    refine PJ.then_ret ?_
    obtain rfl := Option.some.inj hm
    refine PJ.sel (L' := []) [] ⟨List.nodup_nil, rfl⟩ ?_
    exact PJ.retn (vs := [.bool false]) Tryd.results69 ⟨rfl, trivial⟩ ⟨rfl, rfl⟩
  · replace hm := ifF hm hb7
    refine WJ.skip ?_
    refine PJ.next ?_
    obtain ⟨kj8, hk9, hm⟩ := withK_open hm
    refine WJ.join (X := Unit) (fun (_ : Unit) => kj8  = some r) (fun (_ : Unit) => []) (fun (_ : Unit) => []) ?_ ?_
    · clear hk9
      refine WJ.seq ?_
      refine WJ.quiet ?_
      refine QJ.step (YldS.yld (y_assign rfl)) rfl ?_
      refine QJ.done ?_
      refine PJ.next ?_
      refine WJ.block ?_
      refine WJ.sel (L' := (fun (x : Int) => []) 0) [] ⟨List.nodup_nil, rfl⟩ ?_
      refine WJ.sub (m' := (fun (x : Int) => [(0, v2), (1, v5), (5, .int .i64 x)]) 0) ⟨rfl, rfl, rfl, trivial⟩ ?_
      refine WJ.loop (X := Int) (fun N (x : Int) => s_l00Same_l1 kj8 a1 b4 N x = some r) (fun (x : Int) => [(0, v2), (1, v5), (5, .int .i64 x)]) (fun (x : Int) => []) ?_ N 0 hm
      · rintro N i10 hI
        have hm := hI; clear hI
        cases N with
        | zero => cases hm
        | succ N =>
        unfold s_l00Same_l1 at hm
        refine WJ.seq ?_
        refine WJ.seq ?_
        refine WJ.quiet ?_
        refine QJ.step (YldS.yld (y_move rfl)) rfl ?_
        refine QJ.step (YldS.yld (y_move rfl)) rfl ?_
        refine QJ.step (YldS.yld (y_lenS Tryd.runUnderlying26 hr3 rfl)) rfl ?_
        refine QJ.step (YldS.yld (y_bin rfl rfl rfl)) rfl ?_
        refine QJ.done ?_
        refine PJ.next ?_
        refine WJ.cond (t := decide (i10 < (List.length a1 : Int))) rfl (fun hb11 => ?_) (fun hb11 => ?_)
        · replace hm := ifT hm hb11
          refine WJ.skip ?_
          refine PJ.next ?_
          refine WJ.seq ?_
          refine WJ.block ?_
          refine WJ.seq ?_
          refine WJ.quiet_draw follows (by kernel_rfl) ?_
          refine QJ.step (YldS.yld (y_move rfl)) rfl ?_
          refine QJ.step (YldS.yld (y_move rfl)) rfl ?_
          obtain ⟨e12, h13, hm⟩ := bindS hm
          obtain ⟨ad14, _, rfl, ha15, hy16⟩ := hr3.elem h13
          refine QJ.step (YldS.yld (hy16 Tryd.runUnderlying26 Tryd.sizeOf2 rfl rfl)) rfl ?_
          refine QJ.step (YldS.yld (y_load1 (v := .int .i64 e12) Tryd.isAgg2 ha15 St.frozenC rfl)) rfl ?_
          refine QJ.step (YldS.yld (y_move rfl)) rfl ?_
          refine QJ.step (YldS.yld (y_move rfl)) rfl ?_
          obtain ⟨e17, h18, hm⟩ := bindS hm
          obtain ⟨ad19, _, rfl, ha20, hy21⟩ := hr6.elem h18
          refine QJ.step (YldS.yld (hy21 Tryd.runUnderlying26 Tryd.sizeOf2 rfl rfl)) rfl ?_
          refine QJ.step (YldS.yld (y_load1 (v := .int .i64 e17) Tryd.isAgg2 ha20 St.frozenC rfl)) rfl ?_
          refine QJ.step (YldS.yld (y_bin rfl rfl rfl)) rfl ?_
          refine QJ.done ?_
          refine PJ.next ?_
          refine WJ.cond (t := (e12 != e17)) rfl (fun hb22 => ?_) (fun hb22 => ?_)
          · replace hm := ifT hm hb22
            refine WJ.seq ?_
            refine WJ.quiet ?_
            refine QJ.step (YldS.yld (y_assign rfl)) rfl ?_
            refine QJ.done ?_
            refine PJ.next ?_
            refine WJ.ret ?_
            refine PJ.block_ret (PJ.then_ret (PJ.then_ret (PJ.block_ret (PJ.then_ret ?_))))
            obtain rfl := Option.some.inj hm
            refine PJ.sel (L' := []) [] ⟨List.nodup_nil, rfl⟩ ?_
            exact PJ.retn (vs := [.bool false]) Tryd.results69 ⟨rfl, trivial⟩ ⟨rfl, rfl⟩
          · replace hm := ifF hm hb22
            refine WJ.skip ?_
            refine PJ.block_normal (PJ.next ?_)
            refine WJ.quiet ?_
            refine QJ.step (YldS.yld (y_move rfl)) rfl ?_
            refine QJ.step (YldS.yld (y_bin rfl rfl rfl)) rfl ?_
            refine QJ.step (YldS.yld (y_assign rfl)) rfl ?_
            refine QJ.done ?_
            exact PJ.round (w64 (i10 + 1)) [] hm ⟨rfl, rfl, rfl, trivial⟩ ⟨List.nodup_nil, rfl⟩
        · replace hm := ifF hm hb11
          refine WJ.exit ?_
          refine PJ.then_exit (PJ.then_exit (PJ.block_exit ?_))
          exact PJ.joined () [] hm trivial ⟨List.nodup_nil, rfl⟩
    · rintro _ hm
      subst hk9
      refine WJ.seq ?_
      refine WJ.quiet ?_
      refine QJ.step (YldS.yld (y_assign rfl)) rfl ?_
      refine QJ.done ?_
      refine PJ.next ?_
      refine WJ.ret ?_
      obtain rfl := Option.some.inj hm
      refine PJ.sel (L' := []) [] ⟨List.nodup_nil, rfl⟩ ?_
      exact PJ.retn (vs := [.bool true]) Tryd.results69 ⟨rfl, trivial⟩ ⟨rfl, rfl⟩

set_option maxRecDepth 100000 in
set_option maxHeartbeats 1000000 in
theorem ok_s_SameLessons {N : Nat} {a1 : List Lesson} {b4 : List Lesson} {r : Bool} (hm : s_SameLessons N a1 b4 = some r) (w : World) (v2 : Value) (hr3 : RdS w (cx w).Fz v2 (shLesson.rp fI64.rp) a1) (v5 : Value) (hr6 : RdS w (cx w).Fz v5 (shLesson.rp fI64.rp) b4) :
    Calls Tryd.prog 22 #[v2, v5] w (Ret (cx w) (.bool r)) := by
  unfold s_SameLessons at hm
  refine Calls.enter [v2, v5] Tryd.func22 rfl Tryd.ntmps22 rfl ?_
  refine WJ.seq ?_
  refine WJ.quiet ?_
  refine QJ.step (YldS.yld (y_assign rfl)) rfl ?_
  refine QJ.done ?_
  refine PJ.next ?_
  refine WJ.seq ?_
  refine WJ.seq ?_
  refine WJ.quiet ?_
  refine QJ.step (YldS.yld (y_move rfl)) rfl ?_
  refine QJ.step (YldS.yld (y_lenS Tryd.runUnderlying24 hr3 rfl)) rfl ?_
  refine QJ.step (YldS.yld (y_move rfl)) rfl ?_
  refine QJ.step (YldS.yld (y_lenS Tryd.runUnderlying24 hr6 rfl)) rfl ?_
  refine QJ.step (YldS.yld (y_bin rfl rfl rfl)) rfl ?_
  refine QJ.done ?_
  refine PJ.next ?_
  refine WJ.cond (t := ((List.length a1 : Int) != (List.length b4 : Int))) rfl (fun hb7 => ?_) (fun hb7 => ?_)
  · replace hm := ifT hm hb7
    refine WJ.seq ?_
    refine WJ.quiet ?_
    refine QJ.step (YldS.yld (y_assign rfl)) rfl ?_
    refine QJ.done ?_
    refine PJ.next ?_
    refine WJ.ret ?_
    refine PJ.then_ret ?_
    obtain rfl := Option.some.inj hm
    refine PJ.sel (L' := []) [] ⟨List.nodup_nil, rfl⟩ ?_
    exact PJ.retn (vs := [.bool false]) Tryd.results22 ⟨rfl, trivial⟩ ⟨rfl, rfl⟩
  · replace hm := ifF hm hb7
    refine WJ.skip ?_
    refine PJ.next ?_
    obtain ⟨kj8, hk9, hm⟩ := withK_open hm
    refine WJ.join (X := Unit) (fun (_ : Unit) => kj8  = some r) (fun (_ : Unit) => []) (fun (_ : Unit) => []) ?_ ?_
    · clear hk9
      refine WJ.seq ?_
      refine WJ.quiet ?_
      refine QJ.step (YldS.yld (y_assign rfl)) rfl ?_
      refine QJ.done ?_
      refine PJ.next ?_
      refine WJ.block ?_
      refine WJ.sel (L' := (fun (x : Int) => []) 0) [] ⟨List.nodup_nil, rfl⟩ ?_
      refine WJ.sub (m' := (fun (x : Int) => [(0, v2), (1, v5), (5, .int .i64 x)]) 0) ⟨rfl, rfl, rfl, trivial⟩ ?_
      refine WJ.loop (X := Int) (fun N (x : Int) => s_SameLessons_l1 kj8 a1 b4 N x = some r) (fun (x : Int) => [(0, v2), (1, v5), (5, .int .i64 x)]) (fun (x : Int) => []) ?_ N 0 hm
      · rintro N i10 hI
        have hm := hI; clear hI
        cases N with
        | zero => cases hm
        | succ N =>
        unfold s_SameLessons_l1 at hm
        refine WJ.seq ?_
        refine WJ.seq ?_
        refine WJ.quiet ?_
        refine QJ.step (YldS.yld (y_move rfl)) rfl ?_
        refine QJ.step (YldS.yld (y_move rfl)) rfl ?_
        refine QJ.step (YldS.yld (y_lenS Tryd.runUnderlying24 hr3 rfl)) rfl ?_
        refine QJ.step (YldS.yld (y_bin rfl rfl rfl)) rfl ?_
        refine QJ.done ?_
        refine PJ.next ?_
        refine WJ.cond (t := decide (i10 < (List.length a1 : Int))) rfl (fun hb11 => ?_) (fun hb11 => ?_)
        · replace hm := ifT hm hb11
          refine WJ.skip ?_
          refine PJ.next ?_
          refine WJ.seq ?_
          refine WJ.block ?_
          refine WJ.seq ?_
          refine WJ.quiet_draw follows (by kernel_rfl) ?_
          refine QJ.step (YldS.yld (y_move rfl)) rfl ?_
          refine QJ.step (YldS.yld (y_move rfl)) rfl ?_
          obtain ⟨e12, h13, hm⟩ := bindS hm
          obtain ⟨ad14, _, ⟨v17, rfl, hr18⟩, ha15, hy16⟩ := hr3.elem h13
          refine QJ.step (YldS.yld (hy16 Tryd.runUnderlying24 Tryd.sizeOf47 rfl rfl)) rfl ?_
          refine QJ.step (YldS.yld (y_fld (ad := ad14) fld47_0 rfl)) rfl ?_
          refine QJ.step (YldS.yld (y_load1 (v := str e12.name) Tryd.isAgg9 (ha15.sub 0 1) St.frozenC rfl)) rfl ?_
          refine QJ.step (YldS.yld (y_move rfl)) rfl ?_
          refine QJ.step (YldS.yld (y_move rfl)) rfl ?_
          obtain ⟨e19, h20, hm⟩ := bindS hm
          obtain ⟨ad21, _, ⟨v24, rfl, hr25⟩, ha22, hy23⟩ := hr6.elem h20
          refine QJ.step (YldS.yld (hy23 Tryd.runUnderlying24 Tryd.sizeOf47 rfl rfl)) rfl ?_
          refine QJ.step (YldS.yld (y_fld (ad := ad21) fld47_0 rfl)) rfl ?_
          refine QJ.step (YldS.yld (y_load1 (v := str e19.name) Tryd.isAgg9 (ha22.sub 0 1) St.frozenC rfl)) rfl ?_
          refine QJ.step (YldS.yld (y_binS rfl rfl rfl)) rfl ?_
          refine QJ.step (YldS.yld (y_move rfl)) rfl ?_
          obtain ⟨t26, h27, hm⟩ := bindS hm
          refine QJ.cut 12 [(0, v2), (1, v5), (5, .int .i64 i10), (40, .bool t26)] ?_ ?_
          · rcases Bool.eq_false_or_eq_true (e12.name != e19.name) with hb28 | hb28
            · obtain rfl := orT h27 hb28
              refine QJ.off rfl rfl (cB hb28) rfl rfl ?_
              refine QJ.off rfl rfl (cB hb28) rfl rfl ?_
              refine QJ.off rfl rfl (cB hb28) rfl rfl ?_
              refine QJ.off rfl rfl (cB hb28) rfl rfl ?_
              refine QJ.off rfl rfl (cB hb28) rfl rfl ?_
              refine QJ.off rfl rfl (cB hb28) rfl rfl ?_
              refine QJ.off rfl rfl (cB hb28) rfl rfl ?_
              refine QJ.off rfl rfl (cB hb28) rfl rfl ?_
              refine QJ.off rfl rfl (cB hb28) rfl rfl ?_
              refine QJ.off rfl rfl (cB hb28) rfl rfl ?_
              refine QJ.off rfl rfl (cB hb28) rfl rfl ?_
              refine QJ.step (YldS.yld (y_pick_t (cB hb28) rfl)) rfl ?_
              exact QJ.cut_end ⟨rfl, rfl, rfl, rfl, trivial⟩
            · replace h27 := orF h27 hb28
              refine QJ.on rfl rfl (cB hb28) (YldS.yld (y_move rfl)) rfl ?_
              refine QJ.on rfl rfl (cB hb28) (YldS.yld (y_move rfl)) rfl ?_
              obtain ⟨e29, h30, h27⟩ := bindS h27
              obtain ⟨ad31, _, ⟨v34, rfl, hr35⟩, ha32, hy33⟩ := hr3.elem h30
              refine QJ.on rfl rfl (cB hb28) (YldS.yld (hy33 Tryd.runUnderlying24 Tryd.sizeOf47 rfl rfl)) rfl ?_
              refine QJ.on rfl rfl (cB hb28) (YldS.yld (y_fld (ad := ad31) fld47_1 rfl)) rfl ?_
              refine QJ.on rfl rfl (cB hb28) (YldS.yld (y_load1 (v := str e29.letters) Tryd.isAgg9 (ha32.sub 1 1) St.frozenC rfl)) rfl ?_
              refine QJ.on rfl rfl (cB hb28) (YldS.yld (y_move rfl)) rfl ?_
              refine QJ.on rfl rfl (cB hb28) (YldS.yld (y_move rfl)) rfl ?_
              obtain ⟨e36, h37, h27⟩ := bindS h27
              obtain ⟨ad38, _, ⟨v41, rfl, hr42⟩, ha39, hy40⟩ := hr6.elem h37
              refine QJ.on rfl rfl (cB hb28) (YldS.yld (hy40 Tryd.runUnderlying24 Tryd.sizeOf47 rfl rfl)) rfl ?_
              refine QJ.on rfl rfl (cB hb28) (YldS.yld (y_fld (ad := ad38) fld47_1 rfl)) rfl ?_
              refine QJ.on rfl rfl (cB hb28) (YldS.yld (y_load1 (v := str e36.letters) Tryd.isAgg9 (ha39.sub 1 1) St.frozenC rfl)) rfl ?_
              refine QJ.on rfl rfl (cB hb28) (YldS.yld (y_binS rfl rfl rfl)) rfl ?_
              refine QJ.step (YldS.yld (y_pick_f (cB hb28) rfl)) rfl ?_
              obtain rfl := Option.some.inj h27
              exact QJ.cut_end ⟨rfl, rfl, rfl, rfl, trivial⟩
          refine QJ.step (YldS.yld (y_move rfl)) rfl ?_
          obtain ⟨t43, h44, hm⟩ := bindS hm
          refine QJ.cut 13 [(0, v2), (1, v5), (5, .int .i64 i10), (54, .bool t43)] ?_ ?_
          · rcases Bool.eq_false_or_eq_true t26 with hb45 | hb45
            · obtain rfl := orT h44 hb45
              refine QJ.off rfl rfl (cB hb45) rfl rfl ?_
              refine QJ.off rfl rfl (cB hb45) rfl rfl ?_
              refine QJ.off rfl rfl (cB hb45) rfl rfl ?_
              refine QJ.off rfl rfl (cB hb45) rfl rfl ?_
              refine QJ.off rfl rfl (cB hb45) rfl rfl ?_
              refine QJ.off rfl rfl (cB hb45) rfl rfl ?_
              refine QJ.off rfl rfl (cB hb45) rfl rfl ?_
              refine QJ.off rfl rfl (cB hb45) rfl rfl ?_
              refine QJ.off rfl rfl (cB hb45) rfl rfl ?_
              refine QJ.off rfl rfl (cB hb45) rfl rfl ?_
              refine QJ.off rfl rfl (cB hb45) rfl rfl ?_
              refine QJ.off rfl rfl (cB hb45) rfl rfl ?_
              refine QJ.step (YldS.yld (y_pick_t (cB hb45) rfl)) rfl ?_
              exact QJ.cut_end ⟨rfl, rfl, rfl, rfl, trivial⟩
            · replace h44 := orF h44 hb45
              refine QJ.on rfl rfl (cB hb45) (YldS.yld (y_move rfl)) rfl ?_
              refine QJ.on rfl rfl (cB hb45) (YldS.yld (y_move rfl)) rfl ?_
              obtain ⟨e46, h47, h44⟩ := bindS h44
              obtain ⟨ad48, _, ⟨v51, rfl, hr52⟩, ha49, hy50⟩ := hr3.elem h47
              refine QJ.on rfl rfl (cB hb45) (YldS.yld (hy50 Tryd.runUnderlying24 Tryd.sizeOf47 rfl rfl)) rfl ?_
              refine QJ.on rfl rfl (cB hb45) (YldS.yld (y_fld (ad := ad48) fld47_2 rfl)) rfl ?_
              refine QJ.on rfl rfl (cB hb45) (YldS.yld (y_load1 (v := v51) Tryd.isAgg26 (ha49.sub 2 1) St.frozenC rfl)) rfl ?_
              refine QJ.on rfl rfl (cB hb45) (YldS.yld (y_move rfl)) rfl ?_
              refine QJ.on rfl rfl (cB hb45) (YldS.yld (y_move rfl)) rfl ?_
              obtain ⟨e53, h54, h44⟩ := bindS h44
              obtain ⟨ad55, _, ⟨v58, rfl, hr59⟩, ha56, hy57⟩ := hr6.elem h54
              refine QJ.on rfl rfl (cB hb45) (YldS.yld (hy57 Tryd.runUnderlying24 Tryd.sizeOf47 rfl rfl)) rfl ?_
              refine QJ.on rfl rfl (cB hb45) (YldS.yld (y_fld (ad := ad55) fld47_2 rfl)) rfl ?_
              refine QJ.on rfl rfl (cB hb45) (YldS.yld (y_load1 (v := v58) Tryd.isAgg26 (ha56.sub 2 1) St.frozenC rfl)) rfl ?_
              obtain ⟨r60, h61, h44⟩ := bindS h44
              refine QJ.on rfl rfl (cB hb45) (y_call Tryd.call69 rfl (RetG.quiet fun w hw => ok_s_l00Same h61 w _ (hr52.st hw) _ (hr59.st hw))) rfl ?_
              refine QJ.on rfl rfl (cB hb45) (YldS.yld (y_not rfl)) rfl ?_
              refine QJ.step (YldS.yld (y_pick_f (cB hb45) rfl)) rfl ?_
              obtain rfl := Option.some.inj h44
              exact QJ.cut_end ⟨rfl, rfl, rfl, rfl, trivial⟩
          refine QJ.step (YldS.yld (y_move rfl)) rfl ?_
          obtain ⟨t62, h63, hm⟩ := bindS hm
          refine QJ.cut 12 [(0, v2), (1, v5), (5, .int .i64 i10), (67, .bool t62)] ?_ ?_
          · rcases Bool.eq_false_or_eq_true t43 with hb64 | hb64
            · obtain rfl := orT h63 hb64
              refine QJ.off rfl rfl (cB hb64) rfl rfl ?_
              refine QJ.off rfl rfl (cB hb64) rfl rfl ?_
              refine QJ.off rfl rfl (cB hb64) rfl rfl ?_
              refine QJ.off rfl rfl (cB hb64) rfl rfl ?_
              refine QJ.off rfl rfl (cB hb64) rfl rfl ?_
              refine QJ.off rfl rfl (cB hb64) rfl rfl ?_
              refine QJ.off rfl rfl (cB hb64) rfl rfl ?_
              refine QJ.off rfl rfl (cB hb64) rfl rfl ?_
              refine QJ.off rfl rfl (cB hb64) rfl rfl ?_
              refine QJ.off rfl rfl (cB hb64) rfl rfl ?_
              refine QJ.off rfl rfl (cB hb64) rfl rfl ?_
              refine QJ.step (YldS.yld (y_pick_t (cB hb64) rfl)) rfl ?_
              exact QJ.cut_end ⟨rfl, rfl, rfl, rfl, trivial⟩
            · replace h63 := orF h63 hb64
              refine QJ.on rfl rfl (cB hb64) (YldS.yld (y_move rfl)) rfl ?_
              refine QJ.on rfl rfl (cB hb64) (YldS.yld (y_move rfl)) rfl ?_
              obtain ⟨e65, h66, h63⟩ := bindS h63
              obtain ⟨ad67, _, ⟨v70, rfl, hr71⟩, ha68, hy69⟩ := hr3.elem h66
              refine QJ.on rfl rfl (cB hb64) (YldS.yld (hy69 Tryd.runUnderlying24 Tryd.sizeOf47 rfl rfl)) rfl ?_
              refine QJ.on rfl rfl (cB hb64) (YldS.yld (y_fld (ad := ad67) fld47_3 rfl)) rfl ?_
              refine QJ.on rfl rfl (cB hb64) (YldS.yld (y_load1 (v := .int .i64 e65.hours) Tryd.isAgg2 (ha68.sub 3 1) St.frozenC rfl)) rfl ?_
              refine QJ.on rfl rfl (cB hb64) (YldS.yld (y_move rfl)) rfl ?_
              refine QJ.on rfl rfl (cB hb64) (YldS.yld (y_move rfl)) rfl ?_
              obtain ⟨e72, h73, h63⟩ := bindS h63
              obtain ⟨ad74, _, ⟨v77, rfl, hr78⟩, ha75, hy76⟩ := hr6.elem h73
              refine QJ.on rfl rfl (cB hb64) (YldS.yld (hy76 Tryd.runUnderlying24 Tryd.sizeOf47 rfl rfl)) rfl ?_
              refine QJ.on rfl rfl (cB hb64) (YldS.yld (y_fld (ad := ad74) fld47_3 rfl)) rfl ?_
              refine QJ.on rfl rfl (cB hb64) (YldS.yld (y_load1 (v := .int .i64 e72.hours) Tryd.isAgg2 (ha75.sub 3 1) St.frozenC rfl)) rfl ?_
              refine QJ.on rfl rfl (cB hb64) (YldS.yld (y_bin rfl rfl rfl)) rfl ?_
              refine QJ.step (YldS.yld (y_pick_f (cB hb64) rfl)) rfl ?_
              obtain rfl := Option.some.inj h63
              exact QJ.cut_end ⟨rfl, rfl, rfl, rfl, trivial⟩
          refine QJ.done ?_
          refine PJ.next ?_
          refine WJ.cond (t := t62) rfl (fun hb79 => ?_) (fun hb79 => ?_)
          · replace hm := ifT hm hb79
            refine WJ.seq ?_
            refine WJ.quiet ?_
            refine QJ.step (YldS.yld (y_assign rfl)) rfl ?_
            refine QJ.done ?_
            refine PJ.next ?_
            refine WJ.ret ?_
            refine PJ.block_ret (PJ.then_ret (PJ.then_ret (PJ.block_ret (PJ.then_ret ?_))))
            obtain rfl := Option.some.inj hm
            refine PJ.sel (L' := []) [] ⟨List.nodup_nil, rfl⟩ ?_
            exact PJ.retn (vs := [.bool false]) Tryd.results22 ⟨rfl, trivial⟩ ⟨rfl, rfl⟩
          · replace hm := ifF hm hb79
            refine WJ.skip ?_
            refine PJ.block_normal (PJ.next ?_)
            refine WJ.quiet ?_
            refine QJ.step (YldS.yld (y_move rfl)) rfl ?_
            refine QJ.step (YldS.yld (y_bin rfl rfl rfl)) rfl ?_
            refine QJ.step (YldS.yld (y_assign rfl)) rfl ?_
            refine QJ.done ?_
            exact PJ.round (w64 (i10 + 1)) [] hm ⟨rfl, rfl, rfl, trivial⟩ ⟨List.nodup_nil, rfl⟩
        · replace hm := ifF hm hb11
          refine WJ.exit ?_
          refine PJ.then_exit (PJ.then_exit (PJ.block_exit ?_))
          exact PJ.joined () [] hm trivial ⟨List.nodup_nil, rfl⟩
    · rintro _ hm
      subst hk9
      refine WJ.seq ?_
      refine WJ.quiet ?_
      refine QJ.step (YldS.yld (y_assign rfl)) rfl ?_
      refine QJ.done ?_
      refine PJ.next ?_
      refine WJ.ret ?_
      obtain rfl := Option.some.inj hm
      refine PJ.sel (L' := []) [] ⟨List.nodup_nil, rfl⟩ ?_
      exact PJ.retn (vs := [.bool true]) Tryd.results22 ⟨rfl, trivial⟩ ⟨rfl, rfl⟩

theorem ok_fmtI {a b : Int} {r : Str} (hm : fmtI a b = some r) (w : World) (hT : Tab Tryd.prog tabNm w (cx w).Fz) :
    Calls Tryd.prog 102 #[.int .i64 a, .int .i64 b] w (Ret (cx w) (str r)) :=
  fmtI_ok (fun n h0 h1 w h => Any.strconv_FormatInt_10 Tryd.laysM173 n h0 h1 w h) hm w hT

set_option maxRecDepth 100000 in
set_option maxHeartbeats 1000000 in
theorem ok_i_Decimal {n1 : Int} {r : Str} (hm : i_Decimal n1 = some r) (w : World) (hT : Tab Tryd.prog tabNm w (cx w).Fz) :
    Calls Tryd.prog 71 #[.int .i64 n1] w (Ret (cx w) (str r)) := by
  unfold i_Decimal at hm
  refine Calls.enter [.int .i64 n1] Tryd.func71 rfl Tryd.ntmps71 rfl ?_
  refine WJ.seq ?_
  refine WJ.quiet ?_
  refine QJ.step (YldS.yld (y_assign rfl)) rfl ?_
  refine QJ.done ?_
  refine PJ.next ?_
  refine WJ.seq ?_
  refine WJ.quiet ?_
  refine QJ.step (YldS.yld (y_move rfl)) rfl ?_
  obtain ⟨r2, h3, hm⟩ := bindS hm
  refine QJ.step (y_call Tryd.call102 rfl (RetG.quiet fun w hw => ok_fmtI h3 w (hT.st hw))) rfl ?_
  refine QJ.step (YldS.yld (y_assign rfl)) rfl ?_
  refine QJ.done ?_
  refine PJ.next ?_
  refine WJ.ret ?_
  obtain rfl := Option.some.inj hm
  refine PJ.sel (L' := []) [] ⟨List.nodup_nil, rfl⟩ ?_
  exact PJ.retn (vs := [str r2]) Tryd.results71 ⟨rfl, trivial⟩ ⟨rfl, rfl⟩

theorem ok_joinO {xs : List Str} {sep r : Str} (hm : joinO xs sep = some r) (w : World) (v : Value) (hr : RdS w (cx w).Fz v fStr.rp xs) (hsp : SpN v) :
    Calls Tryd.prog 72 #[v, str sep] w (Ret (cx w) (str r)) :=
  joinO_ok Tryd.strings_Join Tryd.strings_Join_none hm w hr hsp

end Go.Proofs.YtbgngihmpdneaaaDoor
