/-
  The walks: a call hands back what its plain function computes, where that has a value. No other conditions.
-/
import Derived.Test.YtigjflandggihaaFnExactHirePriceM
import Derived.Test.YtigjflandggihaaChecked
namespace Go.Proofs.Ytigjflandggihaa
open Go.RowKit Go.Proofs
set_option linter.unusedVariables false
set_option linter.unusedSimpArgs false

theorem follows : Try.prog.follows .mixedOrders = true := by kernel_rfl



set_option maxRecDepth 100000 in
set_option maxHeartbeats 1000000 in
theorem ok_s_l00In {n1 : Int} {low2 : Int} {high3 : Int} {r : Bool} (hm : s_l00In n1 low2 high3 = some r) (w : World)  :
    Calls Try.prog 38 #[.int .i64 n1, .int .i64 low2, .int .i64 high3] w (Ret (cx w) (.bool r)) := by
  unfold s_l00In at hm
  refine Calls.enter [.int .i64 n1, .int .i64 low2, .int .i64 high3] Try.func38 rfl Try.ntmps38 rfl ?_
  refine WJ.seq ?_
  refine WJ.quiet ?_
  refine QJ.step (y_assign rfl) rfl ?_
  refine QJ.done ?_
  refine PJ.next ?_
  refine WJ.seq ?_
  refine WJ.quiet ?_
  refine QJ.step (y_move rfl) rfl ?_
  refine QJ.step (y_move rfl) rfl ?_
  refine QJ.step (y_bin rfl rfl rfl) rfl ?_
  refine QJ.step (y_move rfl) rfl ?_
  obtain ⟨t4, h5, hm⟩ := bindS hm
  refine QJ.cut 4 [(14, .bool t4)] ?_ ?_
  · rcases Bool.eq_false_or_eq_true (decide (n1 ≥ low2)) with hb6 | hb6
    · replace h5 := andT h5 hb6
      refine QJ.on rfl rfl (cB hb6) (y_move rfl) rfl ?_
      refine QJ.on rfl rfl (cB hb6) (y_move rfl) rfl ?_
      refine QJ.on rfl rfl (cB hb6) (y_bin rfl rfl rfl) rfl ?_
      refine QJ.step (y_pick_t (cB hb6) rfl) rfl ?_
      obtain rfl := Option.some.inj h5
      exact QJ.cut_end ⟨rfl, trivial⟩
    · obtain rfl := andF h5 hb6
      refine QJ.off rfl rfl (cB hb6) rfl rfl ?_
      refine QJ.off rfl rfl (cB hb6) rfl rfl ?_
      refine QJ.off rfl rfl (cB hb6) rfl rfl ?_
      refine QJ.step (y_pick_f (cB hb6) rfl) rfl ?_
      exact QJ.cut_end ⟨rfl, trivial⟩
  refine QJ.step (y_assign rfl) rfl ?_
  refine QJ.done ?_
  refine PJ.next ?_
  refine WJ.ret ?_
  obtain rfl := Option.some.inj hm
  refine PJ.sel (L' := []) [] ⟨List.nodup_nil, rfl⟩ ?_
  exact PJ.retn (vs := [.bool t4]) Try.results38 ⟨rfl, trivial⟩ ⟨rfl, rfl⟩

set_option maxRecDepth 100000 in
set_option maxHeartbeats 1000000 in
theorem ok_s_l00Max {a1 : Int} {b2 : Int} {r : Int} (hm : s_l00Max a1 b2 = some r) (w : World)  :
    Calls Try.prog 39 #[.int .i64 a1, .int .i64 b2] w (Ret (cx w) (.int .i64 r)) := by
  unfold s_l00Max at hm
  refine Calls.enter [.int .i64 a1, .int .i64 b2] Try.func39 rfl Try.ntmps39 rfl ?_
  refine WJ.seq ?_
  refine WJ.quiet ?_
  refine QJ.step (y_assign rfl) rfl ?_
  refine QJ.done ?_
  refine PJ.next ?_
  refine WJ.seq ?_
  refine WJ.seq ?_
  refine WJ.quiet ?_
  refine QJ.step (y_move rfl) rfl ?_
  refine QJ.step (y_move rfl) rfl ?_
  refine QJ.step (y_bin rfl rfl rfl) rfl ?_
  refine QJ.done ?_
  refine PJ.next ?_
  refine WJ.cond (t := decide (a1 > b2)) rfl (fun hb3 => ?_) (fun hb3 => ?_)
  · replace hm := ifT hm hb3
    refine WJ.seq ?_
    refine WJ.quiet ?_
    refine QJ.step (y_move rfl) rfl ?_
    refine QJ.step (y_assign rfl) rfl ?_
    refine QJ.done ?_
    refine PJ.next ?_
    refine WJ.ret ?_
    refine PJ.then_ret ?_
    obtain rfl := Option.some.inj hm
    refine PJ.sel (L' := []) [] ⟨List.nodup_nil, rfl⟩ ?_
    exact PJ.retn (vs := [.int .i64 a1]) Try.results39 ⟨rfl, trivial⟩ ⟨rfl, rfl⟩
  · replace hm := ifF hm hb3
    refine WJ.skip ?_
    refine PJ.next ?_
    refine WJ.seq ?_
    refine WJ.quiet ?_
    refine QJ.step (y_move rfl) rfl ?_
    refine QJ.step (y_assign rfl) rfl ?_
    refine QJ.done ?_
    refine PJ.next ?_
    refine WJ.ret ?_
    obtain rfl := Option.some.inj hm
    refine PJ.sel (L' := []) [] ⟨List.nodup_nil, rfl⟩ ?_
    exact PJ.retn (vs := [.int .i64 b2]) Try.results39 ⟨rfl, trivial⟩ ⟨rfl, rfl⟩

set_option maxRecDepth 100000 in
set_option maxHeartbeats 1000000 in
theorem ok_s_HirePrice {N : Nat} {days1 : Int} {x2 : Int} {x3 : Int} {x4 : Int} {r : Int × Int} (hm : s_HirePrice N days1 x2 x3 x4 = some r) (w : World)  :
    Calls Try.prog 10 #[.int .i64 days1, .int .i64 x2, .int .i64 x3, .int .i64 x4] w (Ret (cx w) (tup [.int .i64 r.1, .int .i64 r.2])) := by
  unfold s_HirePrice at hm
  refine Calls.enter [.int .i64 days1, .int .i64 x2, .int .i64 x3, .int .i64 x4] Try.func10 rfl Try.ntmps10 rfl ?_
  refine WJ.seq ?_
  refine WJ.quiet ?_
  refine QJ.step (y_assign rfl) rfl ?_
  refine QJ.step (y_assign rfl) rfl ?_
  refine QJ.done ?_
  refine PJ.next ?_
  refine WJ.seq ?_
  refine WJ.seq ?_
  refine WJ.quiet ?_
  refine QJ.step (y_move rfl) rfl ?_
  obtain ⟨r5, h6, hm⟩ := bindS hm
  refine QJ.step (y_call Try.call38 rfl (RetG.quiet fun w hw => ok_s_l00In h6 w )) rfl ?_
  refine QJ.step (y_not rfl) rfl ?_
  refine QJ.step (y_move rfl) rfl ?_
  obtain ⟨t7, h8, hm⟩ := bindS hm
  refine QJ.cut 4 [(0, .int .i64 days1), (1, .int .i64 x2), (2, .int .i64 x3), (3, .int .i64 x4), (22, .bool t7)] ?_ ?_
  · rcases Bool.eq_false_or_eq_true (!r5) with hb9 | hb9
    · obtain rfl := orT h8 hb9
      refine QJ.off rfl rfl (cB hb9) rfl rfl ?_
      refine QJ.off rfl rfl (cB hb9) rfl rfl ?_
      refine QJ.off rfl rfl (cB hb9) rfl rfl ?_
      refine QJ.step (y_pick_t (cB hb9) rfl) rfl ?_
      exact QJ.cut_end ⟨rfl, rfl, rfl, rfl, rfl, trivial⟩
    · replace h8 := orF h8 hb9
      refine QJ.on rfl rfl (cB hb9) (y_move rfl) rfl ?_
      obtain ⟨r10, h11, h8⟩ := bindS h8
      refine QJ.on rfl rfl (cB hb9) (y_call Try.call38 rfl (RetG.quiet fun w hw => ok_s_l00In h11 w )) rfl ?_
      refine QJ.on rfl rfl (cB hb9) (y_not rfl) rfl ?_
      refine QJ.step (y_pick_f (cB hb9) rfl) rfl ?_
      obtain rfl := Option.some.inj h8
      exact QJ.cut_end ⟨rfl, rfl, rfl, rfl, rfl, trivial⟩
  refine QJ.step (y_move rfl) rfl ?_
  obtain ⟨t12, h13, hm⟩ := bindS hm
  refine QJ.cut 4 [(0, .int .i64 days1), (1, .int .i64 x2), (2, .int .i64 x3), (3, .int .i64 x4), (27, .bool t12)] ?_ ?_
  · rcases Bool.eq_false_or_eq_true t7 with hb14 | hb14
    · obtain rfl := orT h13 hb14
      refine QJ.off rfl rfl (cB hb14) rfl rfl ?_
      refine QJ.off rfl rfl (cB hb14) rfl rfl ?_
      refine QJ.off rfl rfl (cB hb14) rfl rfl ?_
      refine QJ.step (y_pick_t (cB hb14) rfl) rfl ?_
      exact QJ.cut_end ⟨rfl, rfl, rfl, rfl, rfl, trivial⟩
    · replace h13 := orF h13 hb14
      refine QJ.on rfl rfl (cB hb14) (y_move rfl) rfl ?_
      obtain ⟨r15, h16, h13⟩ := bindS h13
      refine QJ.on rfl rfl (cB hb14) (y_call Try.call38 rfl (RetG.quiet fun w hw => ok_s_l00In h16 w )) rfl ?_
      refine QJ.on rfl rfl (cB hb14) (y_not rfl) rfl ?_
      refine QJ.step (y_pick_f (cB hb14) rfl) rfl ?_
      obtain rfl := Option.some.inj h13
      exact QJ.cut_end ⟨rfl, rfl, rfl, rfl, rfl, trivial⟩
  refine QJ.step (y_move rfl) rfl ?_
  obtain ⟨t17, h18, hm⟩ := bindS hm
  refine QJ.cut 4 [(0, .int .i64 days1), (1, .int .i64 x2), (2, .int .i64 x3), (3, .int .i64 x4), (32, .bool t17)] ?_ ?_
  · rcases Bool.eq_false_or_eq_true t12 with hb19 | hb19
    · obtain rfl := orT h18 hb19
      refine QJ.off rfl rfl (cB hb19) rfl rfl ?_
      refine QJ.off rfl rfl (cB hb19) rfl rfl ?_
      refine QJ.off rfl rfl (cB hb19) rfl rfl ?_
      refine QJ.step (y_pick_t (cB hb19) rfl) rfl ?_
      exact QJ.cut_end ⟨rfl, rfl, rfl, rfl, rfl, trivial⟩
    · replace h18 := orF h18 hb19
      refine QJ.on rfl rfl (cB hb19) (y_move rfl) rfl ?_
      obtain ⟨r20, h21, h18⟩ := bindS h18
      refine QJ.on rfl rfl (cB hb19) (y_call Try.call38 rfl (RetG.quiet fun w hw => ok_s_l00In h21 w )) rfl ?_
      refine QJ.on rfl rfl (cB hb19) (y_not rfl) rfl ?_
      refine QJ.step (y_pick_f (cB hb19) rfl) rfl ?_
      obtain rfl := Option.some.inj h18
      exact QJ.cut_end ⟨rfl, rfl, rfl, rfl, rfl, trivial⟩
  refine QJ.done ?_
  refine PJ.next ?_
  refine WJ.cond (t := t17) rfl (fun hb22 => ?_) (fun hb22 => ?_)
  · replace hm := ifT hm hb22
    refine WJ.seq ?_
    refine WJ.quiet ?_
    refine QJ.step (y_assign rfl) rfl ?_
    refine QJ.step (y_assign rfl) rfl ?_
    refine QJ.done ?_
    refine PJ.next ?_
    refine WJ.ret ?_
    refine PJ.then_ret ?_
    obtain rfl := Option.some.inj hm
    refine PJ.sel (L' := []) [] ⟨List.nodup_nil, rfl⟩ ?_
    exact PJ.retn (vs := [.int .i64 0, .int .i64 2]) Try.results10 ⟨rfl, rfl, trivial⟩ ⟨rfl, rfl⟩
  · replace hm := ifF hm hb22
    refine WJ.skip ?_
    refine PJ.next ?_
    refine WJ.seq ?_
    refine WJ.quiet ?_
    refine QJ.step (y_assign rfl) rfl ?_
    refine QJ.done ?_
    refine PJ.next ?_
    obtain ⟨k24, hk25, hm⟩ := withK_open hm
    refine WJ.join (X := Int) (fun (x : Int) => k24 x = some r) (fun (x : Int) => [(10, .int .i64 x)]) (fun (x : Int) => []) ?_ ?_
    · clear hk25
      refine WJ.seq ?_
      refine WJ.quiet ?_
      refine QJ.step (y_assign rfl) rfl ?_
      refine QJ.done ?_
      refine PJ.next ?_
      refine WJ.block ?_
      refine WJ.sel (L' := (fun (x : Int × Int) => []) ((-1), 0)) [] ⟨List.nodup_nil, rfl⟩ ?_
      refine WJ.sub (m' := (fun (x : Int × Int) => [(0, .int .i64 days1), (1, .int .i64 x2), (2, .int .i64 x3), (3, .int .i64 x4), (10, .int .i64 x.1), (11, .int .i64 x.2)]) ((-1), 0)) ⟨rfl, rfl, rfl, rfl, rfl, rfl, trivial⟩ ?_
      refine WJ.loop (X := Int × Int) (fun N (x : Int × Int) => s_HirePrice_l1 k24 days1 x2 x3 x4 N x.1 x.2 = some r) (fun (x : Int × Int) => [(0, .int .i64 days1), (1, .int .i64 x2), (2, .int .i64 x3), (3, .int .i64 x4), (10, .int .i64 x.1), (11, .int .i64 x.2)]) (fun (x : Int × Int) => []) ?_ N ((-1), 0) hm
      · rintro N ⟨x26, x27⟩ hI
        have hm := hI; clear hI
        cases N with
        | zero => cases hm
        | succ N =>
        unfold s_HirePrice_l1 at hm
        refine WJ.seq ?_
        refine WJ.seq ?_
        refine WJ.quiet ?_
        refine QJ.step (y_move rfl) rfl ?_
        refine QJ.step (y_move rfl) rfl ?_
        refine QJ.step (y_bin rfl rfl rfl) rfl ?_
        refine QJ.step (y_quo rfl rfl (by decide)) rfl ?_
        refine QJ.step (y_bin rfl rfl rfl) rfl ?_
        refine QJ.done ?_
        refine PJ.next ?_
        refine WJ.cond (t := decide (x27 ≤ (w64 (Int.tdiv (w64 (days1 + 29)) 30)))) rfl (fun hb28 => ?_) (fun hb28 => ?_)
        · replace hm := ifT hm hb28
          refine WJ.skip ?_
          refine PJ.next ?_
          obtain ⟨k31, hk31, hm⟩ := withK_open hm
          refine WJ.join (X := Int) (fun (x : Int) => k31 x = some r) (fun (x : Int) => [(0, .int .i64 days1), (1, .int .i64 x2), (2, .int .i64 x3), (3, .int .i64 x4), (10, .int .i64 x), (11, .int .i64 x27)]) (fun (x : Int) => []) ?_ ?_
          · clear hk31
            refine WJ.block ?_
            refine WJ.seq ?_
            refine WJ.quiet ?_
            refine QJ.step (y_move rfl) rfl ?_
            refine QJ.step (y_move rfl) rfl ?_
            refine QJ.step (y_bin rfl rfl rfl) rfl ?_
            refine QJ.step (y_bin rfl rfl rfl) rfl ?_
            obtain ⟨r32, h33, hm⟩ := bindS hm
            refine QJ.step (y_call Try.call39 rfl (RetG.quiet fun w hw => ok_s_l00Max h33 w )) rfl ?_
            refine QJ.step (y_assign rfl) rfl ?_
            refine QJ.done ?_
            refine PJ.next ?_
            refine WJ.seq ?_
            refine WJ.quiet ?_
            refine QJ.step (y_assign rfl) rfl ?_
            refine QJ.done ?_
            refine PJ.next ?_
            refine WJ.block ?_
            refine WJ.sel (L' := (fun (x : Int × Int) => []) (x26, 0)) [] ⟨List.nodup_nil, rfl⟩ ?_
            refine WJ.sub (m' := (fun (x : Int × Int) => [(0, .int .i64 days1), (1, .int .i64 x2), (2, .int .i64 x3), (3, .int .i64 x4), (10, .int .i64 x.1), (11, .int .i64 x27), (12, .int .i64 r32), (13, .int .i64 x.2)]) (x26, 0)) ⟨rfl, rfl, rfl, rfl, rfl, rfl, rfl, rfl, trivial⟩ ?_
            refine WJ.loop (X := Int × Int) (fun N (x : Int × Int) => s_HirePrice_l2 k31 x2 x3 x4 x27 r32 N x.1 x.2 = some r) (fun (x : Int × Int) => [(0, .int .i64 days1), (1, .int .i64 x2), (2, .int .i64 x3), (3, .int .i64 x4), (10, .int .i64 x.1), (11, .int .i64 x27), (12, .int .i64 r32), (13, .int .i64 x.2)]) (fun (x : Int × Int) => []) ?_ N (x26, 0) hm
            · rintro N ⟨x34, x35⟩ hI
              have hm := hI; clear hI
              cases N with
              | zero => cases hm
              | succ N =>
              unfold s_HirePrice_l2 at hm
              refine WJ.seq ?_
              refine WJ.seq ?_
              refine WJ.quiet ?_
              refine QJ.step (y_move rfl) rfl ?_
              refine QJ.step (y_move rfl) rfl ?_
              refine QJ.step (y_bin rfl rfl rfl) rfl ?_
              refine QJ.step (y_quo rfl rfl (by decide)) rfl ?_
              refine QJ.step (y_bin rfl rfl rfl) rfl ?_
              refine QJ.done ?_
              refine PJ.next ?_
              refine WJ.cond (t := decide (x35 ≤ (w64 (Int.tdiv (w64 (r32 + 6)) 7)))) rfl (fun hb36 => ?_) (fun hb36 => ?_)
              · replace hm := ifT hm hb36
                refine WJ.skip ?_
                refine PJ.next ?_
                obtain ⟨k40, hk39, hm⟩ := withK_open hm
                refine WJ.join (X := Int) (fun (x : Int) => k40 x = some r) (fun (x : Int) => [(0, .int .i64 days1), (1, .int .i64 x2), (2, .int .i64 x3), (3, .int .i64 x4), (10, .int .i64 x), (11, .int .i64 x27), (12, .int .i64 r32), (13, .int .i64 x35)]) (fun (x : Int) => []) ?_ ?_
                · clear hk39
                  refine WJ.block ?_
                  refine WJ.seq ?_
                  refine WJ.quiet ?_
                  refine QJ.step (y_move rfl) rfl ?_
                  refine QJ.step (y_move rfl) rfl ?_
                  refine QJ.step (y_bin rfl rfl rfl) rfl ?_
                  refine QJ.step (y_move rfl) rfl ?_
                  refine QJ.step (y_move rfl) rfl ?_
                  refine QJ.step (y_bin rfl rfl rfl) rfl ?_
                  refine QJ.step (y_bin rfl rfl rfl) rfl ?_
                  refine QJ.step (y_move rfl) rfl ?_
                  refine QJ.step (y_move rfl) rfl ?_
                  refine QJ.step (y_bin rfl rfl rfl) rfl ?_
                  refine QJ.step (y_bin rfl rfl rfl) rfl ?_
                  obtain ⟨r40, h41, hm⟩ := bindS hm
                  refine QJ.step (y_call Try.call39 rfl (RetG.quiet fun w hw => ok_s_l00Max h41 w )) rfl ?_
                  refine QJ.step (y_move rfl) rfl ?_
                  refine QJ.step (y_bin rfl rfl rfl) rfl ?_
                  refine QJ.step (y_bin rfl rfl rfl) rfl ?_
                  refine QJ.step (y_assign rfl) rfl ?_
                  refine QJ.done ?_
                  refine PJ.next ?_
                  refine WJ.seq ?_
                  refine WJ.quiet ?_
                  refine QJ.step (y_move rfl) rfl ?_
                  refine QJ.step (y_bin rfl rfl rfl) rfl ?_
                  refine QJ.step (y_move rfl) rfl ?_
                  obtain ⟨t42, h43, hm⟩ := bindS hm
                  refine QJ.cut 4 [(0, .int .i64 days1), (1, .int .i64 x2), (2, .int .i64 x3), (3, .int .i64 x4), (10, .int .i64 x34), (11, .int .i64 x27), (12, .int .i64 r32), (13, .int .i64 x35), (14, .int .i64 (w64 ((w64 ((w64 (x27 * x4)) + (w64 (x35 * x3)))) + (w64 (r40 * x2))))), (73, .bool t42)] ?_ ?_
                  · rcases Bool.eq_false_or_eq_true (decide (x34 < 0)) with hb44 | hb44
                    · obtain rfl := orT h43 hb44
                      refine QJ.off rfl rfl (cB hb44) rfl rfl ?_
                      refine QJ.off rfl rfl (cB hb44) rfl rfl ?_
                      refine QJ.off rfl rfl (cB hb44) rfl rfl ?_
                      refine QJ.step (y_pick_t (cB hb44) rfl) rfl ?_
                      exact QJ.cut_end ⟨rfl, rfl, rfl, rfl, rfl, rfl, rfl, rfl, rfl, rfl, trivial⟩
                    · replace h43 := orF h43 hb44
                      refine QJ.on rfl rfl (cB hb44) (y_move rfl) rfl ?_
                      refine QJ.on rfl rfl (cB hb44) (y_move rfl) rfl ?_
                      refine QJ.on rfl rfl (cB hb44) (y_bin rfl rfl rfl) rfl ?_
                      refine QJ.step (y_pick_f (cB hb44) rfl) rfl ?_
                      obtain rfl := Option.some.inj h43
                      exact QJ.cut_end ⟨rfl, rfl, rfl, rfl, rfl, rfl, rfl, rfl, rfl, rfl, trivial⟩
                  refine QJ.done ?_
                  refine PJ.next ?_
                  refine WJ.cond (t := t42) rfl (fun hb45 => ?_) (fun hb45 => ?_)
                  · replace hm := ifT hm hb45
                    refine WJ.quiet ?_
                    refine QJ.step (y_move rfl) rfl ?_
                    refine QJ.step (y_assign rfl) rfl ?_
                    refine QJ.done ?_
                    refine PJ.block_normal ?_
                    exact PJ.joined (w64 ((w64 ((w64 (x27 * x4)) + (w64 (x35 * x3)))) + (w64 (r40 * x2)))) [] hm ⟨rfl, rfl, rfl, rfl, rfl, rfl, rfl, rfl, trivial⟩ ⟨List.nodup_nil, rfl⟩
                  · replace hm := ifF hm hb45
                    refine WJ.skip ?_
                    refine PJ.block_normal ?_
                    exact PJ.joined x34 [] hm ⟨rfl, rfl, rfl, rfl, rfl, rfl, rfl, rfl, trivial⟩ ⟨List.nodup_nil, rfl⟩
                · rintro x37 hm
                  subst hk39
                  refine WJ.quiet ?_
                  refine QJ.step (y_move rfl) rfl ?_
                  refine QJ.step (y_bin rfl rfl rfl) rfl ?_
                  refine QJ.step (y_assign rfl) rfl ?_
                  refine QJ.done ?_
                  exact PJ.round (x37, w64 (x35 + 1)) [] hm ⟨rfl, rfl, rfl, rfl, rfl, rfl, rfl, rfl, trivial⟩ ⟨List.nodup_nil, rfl⟩
              · replace hm := ifF hm hb36
                refine WJ.exit ?_
                refine PJ.then_exit (PJ.then_exit (PJ.block_exit (PJ.block_normal ?_)))
                exact PJ.joined x34 [] hm ⟨rfl, rfl, rfl, rfl, rfl, rfl, trivial⟩ ⟨List.nodup_nil, rfl⟩
          · rintro x29 hm
            subst hk31
            refine WJ.quiet ?_
            refine QJ.step (y_move rfl) rfl ?_
            refine QJ.step (y_bin rfl rfl rfl) rfl ?_
            refine QJ.step (y_assign rfl) rfl ?_
            refine QJ.done ?_
            exact PJ.round (x29, w64 (x27 + 1)) [] hm ⟨rfl, rfl, rfl, rfl, rfl, rfl, trivial⟩ ⟨List.nodup_nil, rfl⟩
        · replace hm := ifF hm hb28
          refine WJ.exit ?_
          refine PJ.then_exit (PJ.then_exit (PJ.block_exit ?_))
          exact PJ.joined x26 [] hm ⟨rfl, trivial⟩ ⟨List.nodup_nil, rfl⟩
    · rintro x23 hm
      subst hk25
      refine WJ.seq ?_
      refine WJ.quiet ?_
      refine QJ.step (y_move rfl) rfl ?_
      refine QJ.step (y_assign rfl) rfl ?_
      refine QJ.step (y_assign rfl) rfl ?_
      refine QJ.done ?_
      refine PJ.next ?_
      refine WJ.ret ?_
      obtain rfl := Option.some.inj hm
      refine PJ.sel (L' := []) [] ⟨List.nodup_nil, rfl⟩ ?_
      exact PJ.retn (vs := [.int .i64 x23, .int .i64 0]) Try.results10 ⟨rfl, rfl, trivial⟩ ⟨rfl, rfl⟩

set_option maxRecDepth 100000 in
set_option maxHeartbeats 1000000 in
theorem ok_i_between {n1 : Int} {low2 : Int} {high3 : Int} {r : Bool} (hm : i_between n1 low2 high3 = some r) (w : World)  :
    Calls Try.prog 40 #[.int .i64 n1, .int .i64 low2, .int .i64 high3] w (Ret (cx w) (.bool r)) := by
  unfold i_between at hm
  refine Calls.enter [.int .i64 n1, .int .i64 low2, .int .i64 high3] Try.func40 rfl Try.ntmps40 rfl ?_
  refine WJ.seq ?_
  refine WJ.quiet ?_
  refine QJ.step (y_assign rfl) rfl ?_
  refine QJ.done ?_
  refine PJ.next ?_
  refine WJ.seq ?_
  refine WJ.quiet ?_
  refine QJ.step (y_move rfl) rfl ?_
  refine QJ.step (y_move rfl) rfl ?_
  refine QJ.step (y_bin rfl rfl rfl) rfl ?_
  refine QJ.step (y_move rfl) rfl ?_
  obtain ⟨t4, h5, hm⟩ := bindS hm
  refine QJ.cut 4 [(14, .bool t4)] ?_ ?_
  · rcases Bool.eq_false_or_eq_true (decide (n1 ≥ low2)) with hb6 | hb6
    · replace h5 := andT h5 hb6
      refine QJ.on rfl rfl (cB hb6) (y_move rfl) rfl ?_
      refine QJ.on rfl rfl (cB hb6) (y_move rfl) rfl ?_
      refine QJ.on rfl rfl (cB hb6) (y_bin rfl rfl rfl) rfl ?_
      refine QJ.step (y_pick_t (cB hb6) rfl) rfl ?_
      obtain rfl := Option.some.inj h5
      exact QJ.cut_end ⟨rfl, trivial⟩
    · obtain rfl := andF h5 hb6
      refine QJ.off rfl rfl (cB hb6) rfl rfl ?_
      refine QJ.off rfl rfl (cB hb6) rfl rfl ?_
      refine QJ.off rfl rfl (cB hb6) rfl rfl ?_
      refine QJ.step (y_pick_f (cB hb6) rfl) rfl ?_
      exact QJ.cut_end ⟨rfl, trivial⟩
  refine QJ.step (y_assign rfl) rfl ?_
  refine QJ.done ?_
  refine PJ.next ?_
  refine WJ.ret ?_
  obtain rfl := Option.some.inj hm
  refine PJ.sel (L' := []) [] ⟨List.nodup_nil, rfl⟩ ?_
  exact PJ.retn (vs := [.bool t4]) Try.results40 ⟨rfl, trivial⟩ ⟨rfl, rfl⟩

set_option maxRecDepth 100000 in
set_option maxHeartbeats 1000000 in
theorem ok_i_HirePrice {N : Nat} {days1 : Int} {x2 : Int} {x3 : Int} {x4 : Int} {r : Int × Int} (hm : i_HirePrice N days1 x2 x3 x4 = some r) (w : World)  :
    Calls Try.prog 11 #[.int .i64 days1, .int .i64 x2, .int .i64 x3, .int .i64 x4] w (Ret (cx w) (tup [.int .i64 r.1, .int .i64 r.2])) := by
  unfold i_HirePrice at hm
  refine Calls.enter [.int .i64 days1, .int .i64 x2, .int .i64 x3, .int .i64 x4] Try.func11 rfl Try.ntmps11 rfl ?_
  refine WJ.seq ?_
  refine WJ.quiet ?_
  refine QJ.step (y_assign rfl) rfl ?_
  refine QJ.step (y_assign rfl) rfl ?_
  refine QJ.done ?_
  refine PJ.next ?_
  refine WJ.seq ?_
  refine WJ.seq ?_
  refine WJ.quiet ?_
  refine QJ.step (y_move rfl) rfl ?_
  obtain ⟨r5, h6, hm⟩ := bindS hm
  refine QJ.step (y_call Try.call40 rfl (RetG.quiet fun w hw => ok_i_between h6 w )) rfl ?_
  refine QJ.step (y_not rfl) rfl ?_
  refine QJ.step (y_move rfl) rfl ?_
  obtain ⟨t7, h8, hm⟩ := bindS hm
  refine QJ.cut 4 [(0, .int .i64 days1), (1, .int .i64 x2), (2, .int .i64 x3), (3, .int .i64 x4), (23, .bool t7)] ?_ ?_
  · rcases Bool.eq_false_or_eq_true (!r5) with hb9 | hb9
    · obtain rfl := orT h8 hb9
      refine QJ.off rfl rfl (cB hb9) rfl rfl ?_
      refine QJ.off rfl rfl (cB hb9) rfl rfl ?_
      refine QJ.off rfl rfl (cB hb9) rfl rfl ?_
      refine QJ.step (y_pick_t (cB hb9) rfl) rfl ?_
      exact QJ.cut_end ⟨rfl, rfl, rfl, rfl, rfl, trivial⟩
    · replace h8 := orF h8 hb9
      refine QJ.on rfl rfl (cB hb9) (y_move rfl) rfl ?_
      obtain ⟨r10, h11, h8⟩ := bindS h8
      refine QJ.on rfl rfl (cB hb9) (y_call Try.call40 rfl (RetG.quiet fun w hw => ok_i_between h11 w )) rfl ?_
      refine QJ.on rfl rfl (cB hb9) (y_not rfl) rfl ?_
      refine QJ.step (y_pick_f (cB hb9) rfl) rfl ?_
      obtain rfl := Option.some.inj h8
      exact QJ.cut_end ⟨rfl, rfl, rfl, rfl, rfl, trivial⟩
  refine QJ.step (y_move rfl) rfl ?_
  obtain ⟨t12, h13, hm⟩ := bindS hm
  refine QJ.cut 4 [(0, .int .i64 days1), (1, .int .i64 x2), (2, .int .i64 x3), (3, .int .i64 x4), (28, .bool t12)] ?_ ?_
  · rcases Bool.eq_false_or_eq_true t7 with hb14 | hb14
    · obtain rfl := orT h13 hb14
      refine QJ.off rfl rfl (cB hb14) rfl rfl ?_
      refine QJ.off rfl rfl (cB hb14) rfl rfl ?_
      refine QJ.off rfl rfl (cB hb14) rfl rfl ?_
      refine QJ.step (y_pick_t (cB hb14) rfl) rfl ?_
      exact QJ.cut_end ⟨rfl, rfl, rfl, rfl, rfl, trivial⟩
    · replace h13 := orF h13 hb14
      refine QJ.on rfl rfl (cB hb14) (y_move rfl) rfl ?_
      obtain ⟨r15, h16, h13⟩ := bindS h13
      refine QJ.on rfl rfl (cB hb14) (y_call Try.call40 rfl (RetG.quiet fun w hw => ok_i_between h16 w )) rfl ?_
      refine QJ.on rfl rfl (cB hb14) (y_not rfl) rfl ?_
      refine QJ.step (y_pick_f (cB hb14) rfl) rfl ?_
      obtain rfl := Option.some.inj h13
      exact QJ.cut_end ⟨rfl, rfl, rfl, rfl, rfl, trivial⟩
  refine QJ.step (y_move rfl) rfl ?_
  obtain ⟨t17, h18, hm⟩ := bindS hm
  refine QJ.cut 4 [(0, .int .i64 days1), (1, .int .i64 x2), (2, .int .i64 x3), (3, .int .i64 x4), (33, .bool t17)] ?_ ?_
  · rcases Bool.eq_false_or_eq_true t12 with hb19 | hb19
    · obtain rfl := orT h18 hb19
      refine QJ.off rfl rfl (cB hb19) rfl rfl ?_
      refine QJ.off rfl rfl (cB hb19) rfl rfl ?_
      refine QJ.off rfl rfl (cB hb19) rfl rfl ?_
      refine QJ.step (y_pick_t (cB hb19) rfl) rfl ?_
      exact QJ.cut_end ⟨rfl, rfl, rfl, rfl, rfl, trivial⟩
    · replace h18 := orF h18 hb19
      refine QJ.on rfl rfl (cB hb19) (y_move rfl) rfl ?_
      obtain ⟨r20, h21, h18⟩ := bindS h18
      refine QJ.on rfl rfl (cB hb19) (y_call Try.call40 rfl (RetG.quiet fun w hw => ok_i_between h21 w )) rfl ?_
      refine QJ.on rfl rfl (cB hb19) (y_not rfl) rfl ?_
      refine QJ.step (y_pick_f (cB hb19) rfl) rfl ?_
      obtain rfl := Option.some.inj h18
      exact QJ.cut_end ⟨rfl, rfl, rfl, rfl, rfl, trivial⟩
  refine QJ.done ?_
  refine PJ.next ?_
  refine WJ.cond (t := t17) rfl (fun hb22 => ?_) (fun hb22 => ?_)
  · replace hm := ifT hm hb22
    refine WJ.seq ?_
    refine WJ.quiet ?_
    refine QJ.step (y_assign rfl) rfl ?_
    refine QJ.step (y_assign rfl) rfl ?_
    refine QJ.done ?_
    refine PJ.next ?_
    refine WJ.ret ?_
    refine PJ.then_ret ?_
    obtain rfl := Option.some.inj hm
    refine PJ.sel (L' := []) [] ⟨List.nodup_nil, rfl⟩ ?_
    exact PJ.retn (vs := [.int .i64 0, .int .i64 2]) Try.results11 ⟨rfl, rfl, trivial⟩ ⟨rfl, rfl⟩
  · replace hm := ifF hm hb22
    refine WJ.skip ?_
    refine PJ.next ?_
    refine WJ.seq ?_
    refine WJ.quiet ?_
    refine QJ.step (y_assign rfl) rfl ?_
    refine QJ.done ?_
    refine PJ.next ?_
    refine WJ.seq ?_
    refine WJ.quiet ?_
    refine QJ.step (y_assign rfl) rfl ?_
    refine QJ.done ?_
    refine PJ.next ?_
    refine WJ.block ?_
    refine WJ.sel (L' := (fun (x : Int × Int) => []) ((-1), 0)) [] ⟨List.nodup_nil, rfl⟩ ?_
    refine WJ.sub (m' := (fun (x : Int × Int) => [(0, .int .i64 days1), (1, .int .i64 x2), (2, .int .i64 x3), (3, .int .i64 x4), (10, .int .i64 x.1), (11, .int .i64 x.2)]) ((-1), 0)) ⟨rfl, rfl, rfl, rfl, rfl, rfl, trivial⟩ ?_
    refine WJ.loop (X := Int × Int) (fun N (x : Int × Int) => i_HirePrice_l1 days1 x2 x3 x4 N x.1 x.2 = some r) (fun (x : Int × Int) => [(0, .int .i64 days1), (1, .int .i64 x2), (2, .int .i64 x3), (3, .int .i64 x4), (10, .int .i64 x.1), (11, .int .i64 x.2)]) (fun (x : Int × Int) => []) ?_ N ((-1), 0) hm
    · rintro N ⟨x23, x24⟩ hI
      have hm := hI; clear hI
      cases N with
      | zero => cases hm
      | succ N =>
      unfold i_HirePrice_l1 at hm
      obtain ⟨k26, hk27, hm⟩ := withK_open hm
      refine WJ.join (X := Int) (fun (x : Int) => k26 x = some r) (fun (x : Int) => [(0, .int .i64 days1), (1, .int .i64 x2), (2, .int .i64 x3), (3, .int .i64 x4), (10, .int .i64 x), (11, .int .i64 x24)]) (fun (x : Int) => []) ?_ ?_
      · clear hk27
        refine WJ.block ?_
        refine WJ.seq ?_
        refine WJ.quiet ?_
        refine QJ.step (y_move rfl) rfl ?_
        refine QJ.step (y_move rfl) rfl ?_
        refine QJ.step (y_bin rfl rfl rfl) rfl ?_
        refine QJ.step (y_bin rfl rfl rfl) rfl ?_
        refine QJ.step (y_max rfl rfl) rfl ?_
        refine QJ.step (y_assign rfl) rfl ?_
        refine QJ.done ?_
        refine PJ.next ?_
        obtain ⟨k30, hk30, hm⟩ := withK_open hm
        refine WJ.join (X := Int) (fun (x : Int) => k30 x = some r) (fun (x : Int) => [(0, .int .i64 days1), (1, .int .i64 x2), (2, .int .i64 x3), (3, .int .i64 x4), (10, .int .i64 x), (11, .int .i64 x24), (12, .int .i64 (imax (w64 (days1 - (w64 (30 * x24)))) 0))]) (fun (x : Int) => []) ?_ ?_
        · clear hk30
          refine WJ.seq ?_
          refine WJ.quiet ?_
          refine QJ.step (y_assign rfl) rfl ?_
          refine QJ.done ?_
          refine PJ.next ?_
          refine WJ.block ?_
          refine WJ.sel (L' := (fun (x : Int × Int) => []) (x23, 0)) [] ⟨List.nodup_nil, rfl⟩ ?_
          refine WJ.sub (m' := (fun (x : Int × Int) => [(0, .int .i64 days1), (1, .int .i64 x2), (2, .int .i64 x3), (3, .int .i64 x4), (10, .int .i64 x.1), (11, .int .i64 x24), (12, .int .i64 (imax (w64 (days1 - (w64 (30 * x24)))) 0)), (13, .int .i64 x.2)]) (x23, 0)) ⟨rfl, rfl, rfl, rfl, rfl, rfl, rfl, rfl, trivial⟩ ?_
          refine WJ.loop (X := Int × Int) (fun N (x : Int × Int) => i_HirePrice_l2 k30 days1 x2 x3 x4 x24 N x.1 x.2 = some r) (fun (x : Int × Int) => [(0, .int .i64 days1), (1, .int .i64 x2), (2, .int .i64 x3), (3, .int .i64 x4), (10, .int .i64 x.1), (11, .int .i64 x24), (12, .int .i64 (imax (w64 (days1 - (w64 (30 * x24)))) 0)), (13, .int .i64 x.2)]) (fun (x : Int × Int) => []) ?_ N (x23, 0) hm
          · rintro N ⟨x31, x32⟩ hI
            have hm := hI; clear hI
            cases N with
            | zero => cases hm
            | succ N =>
            unfold i_HirePrice_l2 at hm
            refine WJ.seq ?_
            refine WJ.block ?_
            refine WJ.seq ?_
            refine WJ.quiet ?_
            refine QJ.step (y_move rfl) rfl ?_
            refine QJ.step (y_move rfl) rfl ?_
            refine QJ.step (y_bin rfl rfl rfl) rfl ?_
            refine QJ.step (y_bin rfl rfl rfl) rfl ?_
            refine QJ.step (y_max rfl rfl) rfl ?_
            refine QJ.step (y_assign rfl) rfl ?_
            refine QJ.done ?_
            refine PJ.next ?_
            obtain ⟨k36, hk35, hm⟩ := withK_open hm
            refine WJ.join (X := Int) (fun (x : Int) => k36 x = some r) (fun (x : Int) => [(0, .int .i64 days1), (1, .int .i64 x2), (2, .int .i64 x3), (3, .int .i64 x4), (10, .int .i64 x), (11, .int .i64 x24), (12, .int .i64 (imax (w64 (days1 - (w64 (30 * x24)))) 0)), (13, .int .i64 x32), (14, .int .i64 (imax (w64 ((imax (w64 (days1 - (w64 (30 * x24)))) 0) - (w64 (7 * x32)))) 0))]) (fun (x : Int) => []) ?_ ?_
            · clear hk35
              refine WJ.seq ?_
              refine WJ.quiet ?_
              refine QJ.step (y_move rfl) rfl ?_
              refine QJ.step (y_move rfl) rfl ?_
              refine QJ.step (y_bin rfl rfl rfl) rfl ?_
              refine QJ.step (y_move rfl) rfl ?_
              refine QJ.step (y_move rfl) rfl ?_
              refine QJ.step (y_bin rfl rfl rfl) rfl ?_
              refine QJ.step (y_bin rfl rfl rfl) rfl ?_
              refine QJ.step (y_move rfl) rfl ?_
              refine QJ.step (y_move rfl) rfl ?_
              refine QJ.step (y_bin rfl rfl rfl) rfl ?_
              refine QJ.step (y_bin rfl rfl rfl) rfl ?_
              refine QJ.step (y_assign rfl) rfl ?_
              refine QJ.done ?_
              refine PJ.next ?_
              refine WJ.seq ?_
              refine WJ.quiet ?_
              refine QJ.step (y_move rfl) rfl ?_
              refine QJ.step (y_bin rfl rfl rfl) rfl ?_
              refine QJ.step (y_move rfl) rfl ?_
              obtain ⟨t36, h37, hm⟩ := bindS hm
              refine QJ.cut 4 [(0, .int .i64 days1), (1, .int .i64 x2), (2, .int .i64 x3), (3, .int .i64 x4), (10, .int .i64 x31), (11, .int .i64 x24), (12, .int .i64 (imax (w64 (days1 - (w64 (30 * x24)))) 0)), (13, .int .i64 x32), (14, .int .i64 (imax (w64 ((imax (w64 (days1 - (w64 (30 * x24)))) 0) - (w64 (7 * x32)))) 0)), (15, .int .i64 (w64 ((w64 ((w64 (x24 * x4)) + (w64 (x32 * x3)))) + (w64 ((imax (w64 ((imax (w64 (days1 - (w64 (30 * x24)))) 0) - (w64 (7 * x32)))) 0) * x2))))), (65, .bool t36)] ?_ ?_
              · rcases Bool.eq_false_or_eq_true (decide (x31 < 0)) with hb38 | hb38
                · obtain rfl := orT h37 hb38
                  refine QJ.off rfl rfl (cB hb38) rfl rfl ?_
                  refine QJ.off rfl rfl (cB hb38) rfl rfl ?_
                  refine QJ.off rfl rfl (cB hb38) rfl rfl ?_
                  refine QJ.step (y_pick_t (cB hb38) rfl) rfl ?_
                  exact QJ.cut_end ⟨rfl, rfl, rfl, rfl, rfl, rfl, rfl, rfl, rfl, rfl, rfl, trivial⟩
                · replace h37 := orF h37 hb38
                  refine QJ.on rfl rfl (cB hb38) (y_move rfl) rfl ?_
                  refine QJ.on rfl rfl (cB hb38) (y_move rfl) rfl ?_
                  refine QJ.on rfl rfl (cB hb38) (y_bin rfl rfl rfl) rfl ?_
                  refine QJ.step (y_pick_f (cB hb38) rfl) rfl ?_
                  obtain rfl := Option.some.inj h37
                  exact QJ.cut_end ⟨rfl, rfl, rfl, rfl, rfl, rfl, rfl, rfl, rfl, rfl, rfl, trivial⟩
              refine QJ.done ?_
              refine PJ.next ?_
              refine WJ.cond (t := t36) rfl (fun hb39 => ?_) (fun hb39 => ?_)
              · replace hm := ifT hm hb39
                refine WJ.quiet ?_
                refine QJ.step (y_move rfl) rfl ?_
                refine QJ.step (y_assign rfl) rfl ?_
                refine QJ.done ?_
                exact PJ.joined (w64 ((w64 ((w64 (x24 * x4)) + (w64 (x32 * x3)))) + (w64 ((imax (w64 ((imax (w64 (days1 - (w64 (30 * x24)))) 0) - (w64 (7 * x32)))) 0) * x2)))) [] hm ⟨rfl, rfl, rfl, rfl, rfl, rfl, rfl, rfl, rfl, trivial⟩ ⟨List.nodup_nil, rfl⟩
              · replace hm := ifF hm hb39
                refine WJ.skip ?_
                exact PJ.joined x31 [] hm ⟨rfl, rfl, rfl, rfl, rfl, rfl, rfl, rfl, rfl, trivial⟩ ⟨List.nodup_nil, rfl⟩
            · rintro x33 hm
              subst hk35
              refine WJ.seq ?_
              refine WJ.quiet ?_
              refine QJ.step (y_move rfl) rfl ?_
              refine QJ.step (y_bin rfl rfl rfl) rfl ?_
              refine QJ.done ?_
              refine PJ.next ?_
              refine WJ.cond (t := ((imax (w64 ((imax (w64 (days1 - (w64 (30 * x24)))) 0) - (w64 (7 * x32)))) 0) == 0)) rfl (fun hb40 => ?_) (fun hb40 => ?_)
              · replace hm := ifT hm hb40
                refine WJ.exit ?_
                refine PJ.block_exit_ne rfl (PJ.then_exit (PJ.then_exit (PJ.block_exit ?_)))
                exact PJ.joined x33 [] hm ⟨rfl, rfl, rfl, rfl, rfl, rfl, rfl, trivial⟩ ⟨List.nodup_nil, rfl⟩
              · replace hm := ifF hm hb40
                refine WJ.skip ?_
                refine PJ.block_normal (PJ.next ?_)
                refine WJ.quiet ?_
                refine QJ.step (y_move rfl) rfl ?_
                refine QJ.step (y_bin rfl rfl rfl) rfl ?_
                refine QJ.step (y_assign rfl) rfl ?_
                refine QJ.done ?_
                exact PJ.round (x33, w64 (x32 + 1)) [] hm ⟨rfl, rfl, rfl, rfl, rfl, rfl, rfl, rfl, trivial⟩ ⟨List.nodup_nil, rfl⟩
        · rintro x28 hm
          subst hk30
          refine WJ.seq ?_
          refine WJ.quiet ?_
          refine QJ.step (y_move rfl) rfl ?_
          refine QJ.step (y_bin rfl rfl rfl) rfl ?_
          refine QJ.done ?_
          refine PJ.next ?_
          refine WJ.cond (t := ((imax (w64 (days1 - (w64 (30 * x24)))) 0) == 0)) rfl (fun hb41 => ?_) (fun hb41 => ?_)
          · replace hm := ifT hm hb41
            refine WJ.seq ?_
            refine WJ.quiet ?_
            refine QJ.step (y_move rfl) rfl ?_
            refine QJ.step (y_assign rfl) rfl ?_
            refine QJ.step (y_assign rfl) rfl ?_
            refine QJ.done ?_
            refine PJ.next ?_
            refine WJ.ret ?_
            refine PJ.block_ret (PJ.then_ret (PJ.then_ret (PJ.block_ret ?_)))
            obtain rfl := Option.some.inj hm
            refine PJ.sel (L' := []) [] ⟨List.nodup_nil, rfl⟩ ?_
            exact PJ.retn (vs := [.int .i64 x28, .int .i64 0]) Try.results11 ⟨rfl, rfl, trivial⟩ ⟨rfl, rfl⟩
          · replace hm := ifF hm hb41
            refine WJ.skip ?_
            refine PJ.block_normal ?_
            exact PJ.joined x28 [] hm ⟨rfl, rfl, rfl, rfl, rfl, rfl, trivial⟩ ⟨List.nodup_nil, rfl⟩
      · rintro x25 hm
        subst hk27
        refine WJ.quiet ?_
        refine QJ.step (y_move rfl) rfl ?_
        refine QJ.step (y_bin rfl rfl rfl) rfl ?_
        refine QJ.step (y_assign rfl) rfl ?_
        refine QJ.done ?_
        exact PJ.round (x25, w64 (x24 + 1)) [] hm ⟨rfl, rfl, rfl, rfl, rfl, rfl, trivial⟩ ⟨List.nodup_nil, rfl⟩

set_option maxRecDepth 100000 in
set_option maxHeartbeats 1000000 in
theorem ok_w_FnExactHirePrice {N : Nat} {aDays1 : Int} {aDay2 : Int} {aWeek3 : Int} {aMonth4 : Int} {r : Bool} (hm : w_FnExactHirePrice N aDays1 aDay2 aWeek3 aMonth4 = some r) (w : World)  :
    Calls Try.prog 3 #[.int .i64 aDays1, .int .i64 aDay2, .int .i64 aWeek3, .int .i64 aMonth4] w (Ret (cx w) (.bool r)) := by
  unfold w_FnExactHirePrice at hm
  refine Calls.enter [.int .i64 aDays1, .int .i64 aDay2, .int .i64 aWeek3, .int .i64 aMonth4] Try.func3 rfl Try.ntmps3 rfl ?_
  refine WJ.seq ?_
  refine WJ.quiet ?_
  refine QJ.step (y_assign rfl) rfl ?_
  refine QJ.done ?_
  refine PJ.next ?_
  refine WJ.seq ?_
  refine WJ.quiet ?_
  refine QJ.step (y_move rfl) rfl ?_
  refine QJ.step (y_move rfl) rfl ?_
  refine QJ.step (y_move rfl) rfl ?_
  refine QJ.step (y_move rfl) rfl ?_
  obtain ⟨r5, h6, hm⟩ := bindS hm
  refine QJ.step (y_call Try.call10 rfl (RetG.quiet fun w hw => ok_s_HirePrice h6 w )) rfl ?_
  refine QJ.step (y_move rfl) rfl ?_
  refine QJ.step (y_extract rfl rfl) rfl ?_
  refine QJ.step (y_extract rfl rfl) rfl ?_
  refine QJ.step (y_assign rfl) rfl ?_
  refine QJ.step (y_assign rfl) rfl ?_
  refine QJ.done ?_
  refine PJ.next ?_
  refine WJ.seq ?_
  refine WJ.quiet ?_
  refine QJ.step (y_move rfl) rfl ?_
  refine QJ.step (y_move rfl) rfl ?_
  refine QJ.step (y_move rfl) rfl ?_
  refine QJ.step (y_move rfl) rfl ?_
  obtain ⟨r7, h8, hm⟩ := bindS hm
  refine QJ.step (y_call Try.call11 rfl (RetG.quiet fun w hw => ok_i_HirePrice h8 w )) rfl ?_
  refine QJ.step (y_move rfl) rfl ?_
  refine QJ.step (y_extract rfl rfl) rfl ?_
  refine QJ.step (y_extract rfl rfl) rfl ?_
  refine QJ.step (y_assign rfl) rfl ?_
  refine QJ.step (y_assign rfl) rfl ?_
  refine QJ.done ?_
  refine PJ.next ?_
  refine WJ.seq ?_
  refine WJ.seq ?_
  refine WJ.quiet ?_
  refine QJ.step (y_move rfl) rfl ?_
  refine QJ.step (y_move rfl) rfl ?_
  refine QJ.step (y_bin rfl rfl rfl) rfl ?_
  refine QJ.step (y_move rfl) rfl ?_
  obtain ⟨t9, h10, hm⟩ := bindS hm
  refine QJ.cut 4 [(36, .bool t9)] ?_ ?_
  · rcases Bool.eq_false_or_eq_true (r7.1 != r5.1) with hb11 | hb11
    · obtain rfl := orT h10 hb11
      refine QJ.off rfl rfl (cB hb11) rfl rfl ?_
      refine QJ.off rfl rfl (cB hb11) rfl rfl ?_
      refine QJ.off rfl rfl (cB hb11) rfl rfl ?_
      refine QJ.step (y_pick_t (cB hb11) rfl) rfl ?_
      exact QJ.cut_end ⟨rfl, trivial⟩
    · replace h10 := orF h10 hb11
      refine QJ.on rfl rfl (cB hb11) (y_move rfl) rfl ?_
      refine QJ.on rfl rfl (cB hb11) (y_move rfl) rfl ?_
      refine QJ.on rfl rfl (cB hb11) (y_bin rfl rfl rfl) rfl ?_
      refine QJ.step (y_pick_f (cB hb11) rfl) rfl ?_
      obtain rfl := Option.some.inj h10
      exact QJ.cut_end ⟨rfl, trivial⟩
  refine QJ.done ?_
  refine PJ.next ?_
  refine WJ.cond (t := t9) rfl (fun hb12 => ?_) (fun hb12 => ?_)
  · replace hm := ifT hm hb12
    refine WJ.seq ?_
    refine WJ.quiet ?_
    refine QJ.step (y_assign rfl) rfl ?_
    refine QJ.done ?_
    refine PJ.next ?_
    refine WJ.ret ?_
    refine PJ.then_ret ?_
    obtain rfl := Option.some.inj hm
    refine PJ.sel (L' := []) [] ⟨List.nodup_nil, rfl⟩ ?_
    exact PJ.retn (vs := [.bool false]) Try.results3 ⟨rfl, trivial⟩ ⟨rfl, rfl⟩
  · replace hm := ifF hm hb12
    refine WJ.skip ?_
    refine PJ.next ?_
    refine WJ.seq ?_
    refine WJ.quiet ?_
    refine QJ.step (y_assign rfl) rfl ?_
    refine QJ.done ?_
    refine PJ.next ?_
    refine WJ.ret ?_
    obtain rfl := Option.some.inj hm
    refine PJ.sel (L' := []) [] ⟨List.nodup_nil, rfl⟩ ?_
    exact PJ.retn (vs := [.bool true]) Try.results3 ⟨rfl, trivial⟩ ⟨rfl, rfl⟩

end Go.Proofs.Ytigjflandggihaa
