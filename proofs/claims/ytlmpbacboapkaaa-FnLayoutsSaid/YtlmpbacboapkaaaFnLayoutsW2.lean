/-
  The walks: a call hands back what its plain function computes, where that has a value. No other conditions.
-/
import Derived.Test.YtlmpbacboapkaaaFnLayoutsW
import Derived.Test.YtlmpbacboapkaaaChecked
namespace Go.Proofs.Ytlmpbacboapkaaa
open Go.RowKit Go.Proofs
set_option linter.unusedVariables false
set_option linter.unusedSimpArgs false

set_option maxRecDepth 100000 in
set_option maxHeartbeats 1000000 in
theorem ok_s_l06Change {N : Nat} {x1 : Layout} {a6 : UInt8} {b7 : UInt8} {r : Layout} (hm : s_l06Change N x1 a6 b7 = some r) (w : World) (ad2 : Addr) (v4 : Value) (ha3 : At w (cx w).Fz ad2 [v4]) (hr5 : RdS w (cx w).Fz v4 fStr.rp x1.rows) :
    Calls Try.prog 114 #[.pointer (some ad2), .int .u8 (UInt8.toNat a6 : Int), .int .u8 (UInt8.toNat b7 : Int)] w (RetG (cx w) fun u L => ∃ (u1 : Value), (u = .agg #[u1] ∧ L = [row u1 9 fStr r.rows])) := by
  unfold s_l06Change at hm
  refine Calls.enter [.pointer (some ad2), .int .u8 (UInt8.toNat a6 : Int), .int .u8 (UInt8.toNat b7 : Int)] Try.func114 rfl Try.ntmps114 rfl ?_
  refine WJ.seq ?_
  refine WJ.reg ?_
  refine SJ.alloc (cs := [.slice none 0 0]) Try.zeroValue60 rfl rfl fun g8 => ?_
  refine SJ.nil_row 9 fStr ?_
  refine SJ.nil ?_
  refine PJ.next ?_
  refine WJ.seq ?_
  refine WJ.reg ?_
  refine SJ.buildSlice (R := fStr) (os := []) [] Try.runUnderlying24 Try.sizeOf9 Try.zeroValue9 rfl rfl rfl rfl rfl rfl fun v9 => ?_
  refine SJ.rowCells (k := 0) rfl fun hc10 => ?_
  refine SJ.q (YldS.yld (y_build (parts := [(0, .tmp 11)]) (places := [(0, 1)]) (r := [v9]) pl60 Try.zeroValue60 rfl rfl (show _ = [(0, [v9])] from by simp only [List.map, hc10.1]; try rfl) rfl)) rfl ?_
  refine SJ.alloc (cs := [.slice none 0 0]) Try.zeroValue60 rfl rfl fun g11 => ?_
  refine SJ.nil_row 9 fStr ?_
  refine SJ.rowCells (k := 2) rfl fun hc12 => ?_
  refine SJ.storeL (k := 1) (off := 0) (us := [v9]) rfl rfl rfl rfl Try.sizeOf60 rfl (by simp only [List.all_cons, hc12.2]; rfl) ?_
  refine SJ.erase 0 ?_
  refine SJ.nil ?_
  refine PJ.next ?_
  obtain ⟨kj15, hk16, hm⟩ := withK_open hm
  refine WJ.join (X := (List Str) × Value) (fun (x : (List Str) × Value) => kj15 x.1 = some r) (fun (x : (List Str) × Value) => [(6, pt g8 0), (7, pt g11 0)]) (fun (x : (List Str) × Value) => [box g11 60 [x.2], row x.2 9 fStr x.1, row (.slice none 0 0) 9 fStr [], box g8 60 [(.slice none 0 0)]]) ?_ ?_
  · clear hk16
    refine WJ.seq ?_
    refine WJ.quiet ?_
    refine QJ.step (YldS.yld (y_assign rfl)) rfl ?_
    refine QJ.done ?_
    refine PJ.next ?_
    refine WJ.block ?_
    refine WJ.sel (L' := (fun (x : (List Str) × Value × Int) => [box g11 60 [x.2.1], row x.2.1 9 fStr x.1, row (.slice none 0 0) 9 fStr [], box g8 60 [(.slice none 0 0)]]) ([], v9, 0)) [0, 1, 2, 3] ⟨by decide, rfl⟩ ?_
    refine WJ.sub (m' := (fun (x : (List Str) × Value × Int) => [(0, .pointer (some ad2)), (1, .int .u8 (UInt8.toNat a6 : Int)), (2, .int .u8 (UInt8.toNat b7 : Int)), (6, pt g8 0), (7, pt g11 0), (8, .int .i64 x.2.2)]) ([], v9, 0)) ⟨rfl, rfl, rfl, rfl, rfl, rfl, trivial⟩ ?_
    refine WJ.loop (X := (List Str) × Value × Int) (fun N (x : (List Str) × Value × Int) => s_l06Change_l1 kj15 x1 a6 b7 N x.1 x.2.2 = some r) (fun (x : (List Str) × Value × Int) => [(0, .pointer (some ad2)), (1, .int .u8 (UInt8.toNat a6 : Int)), (2, .int .u8 (UInt8.toNat b7 : Int)), (6, pt g8 0), (7, pt g11 0), (8, .int .i64 x.2.2)]) (fun (x : (List Str) × Value × Int) => [box g11 60 [x.2.1], row x.2.1 9 fStr x.1, row (.slice none 0 0) 9 fStr [], box g8 60 [(.slice none 0 0)]]) ?_ N ([], v9, 0) hm
    · rintro N ⟨l17, v18, r19⟩ hI
      have hm := hI; clear hI
      cases N with
      | zero => cases hm
      | succ N =>
      unfold s_l06Change_l1 at hm
      refine WJ.seq ?_
      refine WJ.seq ?_
      refine WJ.quiet ?_
      refine QJ.step (YldS.yld (y_move rfl)) rfl ?_
      refine QJ.step (YldS.yld (y_move rfl)) rfl ?_
      refine QJ.step (YldS.yld (y_nil rfl)) rfl ?_
      refine QJ.step (YldS.yld (y_fld (ad := ad2) fld60_0 rfl)) rfl ?_
      refine QJ.step (YldS.yld (y_load1 (v := v4) Try.isAgg24 (ha3.sub 0 1) St.frozenC rfl)) rfl ?_
      refine QJ.step (YldS.yld (y_lenS Try.runUnderlying24 hr5 rfl)) rfl ?_
      refine QJ.step (YldS.yld (y_bin rfl rfl rfl)) rfl ?_
      refine QJ.done ?_
      refine PJ.next ?_
      refine WJ.cond (t := decide (r19 < (List.length x1.rows : Int))) rfl (fun hb20 => ?_) (fun hb20 => ?_)
      · replace hm := ifT hm hb20
        refine WJ.skip ?_
        refine PJ.next ?_
        obtain ⟨kj23, hk24, hm⟩ := withK_open hm
        refine WJ.join (X := (List Str) × Value) (fun (x : (List Str) × Value) => kj23 x.1 = some r) (fun (x : (List Str) × Value) => [(0, .pointer (some ad2)), (1, .int .u8 (UInt8.toNat a6 : Int)), (2, .int .u8 (UInt8.toNat b7 : Int)), (6, pt g8 0), (7, pt g11 0), (8, .int .i64 r19)]) (fun (x : (List Str) × Value) => [box g11 60 [x.2], row x.2 9 fStr x.1, row (.slice none 0 0) 9 fStr [], box g8 60 [(.slice none 0 0)]]) ?_ ?_
        · clear hk24
          refine WJ.block ?_
          refine WJ.seq ?_
          refine WJ.reg ?_
          refine SJ.q (YldS.yld (y_move rfl)) rfl ?_
          refine SJ.q (YldS.yld (y_nil rfl)) rfl ?_
          refine SJ.q (YldS.yld (y_fld (ad := ad2) fld60_0 rfl)) rfl ?_
          refine SJ.q (YldS.yld (y_load1 (v := v4) Try.isAgg24 (ha3.sub 0 1) St.frozenC rfl)) rfl ?_
          refine SJ.q (YldS.yld (y_move rfl)) rfl ?_
          obtain ⟨e25, h26, hm⟩ := bindS hm
          obtain ⟨ad27, _, rfl, ha28, hy29⟩ := hr5.elem h26
          refine SJ.q (YldS.yld (hy29 Try.runUnderlying24 Try.sizeOf9 rfl rfl)) rfl ?_
          refine SJ.q (YldS.yld (y_load1 (v := str e25) Try.isAgg9 ha28 St.frozenC rfl)) rfl ?_
          obtain ⟨l30, h31, hm⟩ := bindS hm
          refine SJ.convBytes h31 Try.underlying9 Try.underlying22 Try.underlying5 rfl rfl fun v32 => ?_
          refine SJ.q (YldS.yld (y_assign rfl)) rfl ?_
          refine SJ.nil ?_
          refine PJ.next ?_
          obtain ⟨kj34, hk35, hm⟩ := withK_open hm
          refine WJ.join (X := (List UInt8)) (fun (x : (List UInt8)) => kj34 x = some r) (fun (x : (List UInt8)) => [(0, .pointer (some ad2)), (1, .int .u8 (UInt8.toNat a6 : Int)), (2, .int .u8 (UInt8.toNat b7 : Int)), (6, pt g8 0), (7, pt g11 0), (8, .int .i64 r19), (9, v32)]) (fun (x : (List UInt8)) => [rowM v32 5 fByte x, box g11 60 [v18], row v18 9 fStr l17, row (.slice none 0 0) 9 fStr [], box g8 60 [(.slice none 0 0)]]) ?_ ?_
          · clear hk35
            refine WJ.seq ?_
            refine WJ.quiet ?_
            refine QJ.step (YldS.yld (y_assign rfl)) rfl ?_
            refine QJ.done ?_
            refine PJ.next ?_
            refine WJ.block ?_
            refine WJ.sel (L' := (fun (x : (List UInt8) × Int) => [rowM v32 5 fByte x.1, box g11 60 [v18], row v18 9 fStr l17, row (.slice none 0 0) 9 fStr [], box g8 60 [(.slice none 0 0)]]) (l30, 0)) [0, 1, 2, 3, 4] ⟨by decide, rfl⟩ ?_
            refine WJ.sub (m' := (fun (x : (List UInt8) × Int) => [(0, .pointer (some ad2)), (1, .int .u8 (UInt8.toNat a6 : Int)), (2, .int .u8 (UInt8.toNat b7 : Int)), (6, pt g8 0), (7, pt g11 0), (8, .int .i64 r19), (9, v32), (10, .int .i64 x.2)]) (l30, 0)) ⟨rfl, rfl, rfl, rfl, rfl, rfl, rfl, rfl, trivial⟩ ?_
            refine WJ.loop (X := (List UInt8) × Int) (fun N (x : (List UInt8) × Int) => s_l06Change_l2 kj34 a6 b7 N x.1 x.2 = some r) (fun (x : (List UInt8) × Int) => [(0, .pointer (some ad2)), (1, .int .u8 (UInt8.toNat a6 : Int)), (2, .int .u8 (UInt8.toNat b7 : Int)), (6, pt g8 0), (7, pt g11 0), (8, .int .i64 r19), (9, v32), (10, .int .i64 x.2)]) (fun (x : (List UInt8) × Int) => [rowM v32 5 fByte x.1, box g11 60 [v18], row v18 9 fStr l17, row (.slice none 0 0) 9 fStr [], box g8 60 [(.slice none 0 0)]]) ?_ N (l30, 0) hm
            · rintro N ⟨l36, c37⟩ hI
              have hm := hI; clear hI
              cases N with
              | zero => cases hm
              | succ N =>
              unfold s_l06Change_l2 at hm
              refine WJ.seq ?_
              refine WJ.seq ?_
              refine WJ.quiet ?_
              refine QJ.step (YldS.yld (y_move rfl)) rfl ?_
              refine QJ.step (YldS.yld (y_move rfl)) rfl ?_
              refine QJ.step (YldS.yld (y_lenRowM (k := 0) rfl Try.runUnderlying22 rfl)) rfl ?_
              refine QJ.step (YldS.yld (y_bin rfl rfl rfl)) rfl ?_
              refine QJ.done ?_
              refine PJ.next ?_
              refine WJ.cond (t := decide (c37 < (List.length l36 : Int))) rfl (fun hb38 => ?_) (fun hb38 => ?_)
              · replace hm := ifT hm hb38
                refine WJ.skip ?_
                refine PJ.next ?_
                obtain ⟨kj40, hk41, hm⟩ := withK_open hm
                refine WJ.join (X := (List UInt8)) (fun (x : (List UInt8)) => kj40 x = some r) (fun (x : (List UInt8)) => [(0, .pointer (some ad2)), (1, .int .u8 (UInt8.toNat a6 : Int)), (2, .int .u8 (UInt8.toNat b7 : Int)), (6, pt g8 0), (7, pt g11 0), (8, .int .i64 r19), (9, v32), (10, .int .i64 c37)]) (fun (x : (List UInt8)) => [rowM v32 5 fByte x, box g11 60 [v18], row v18 9 fStr l17, row (.slice none 0 0) 9 fStr [], box g8 60 [(.slice none 0 0)]]) ?_ ?_
                · clear hk41
                  refine WJ.block ?_
                  refine WJ.seq ?_
                  refine WJ.quiet ?_
                  refine QJ.step (YldS.yld (y_move rfl)) rfl ?_
                  refine QJ.step (YldS.yld (y_move rfl)) rfl ?_
                  obtain ⟨e42, h43, hm⟩ := bindS hm
                  refine QJ.step (YldS.yld (y_ixRowM (k := 0) (R := fByte) rfl Try.runUnderlying22 Try.sizeOf5 rfl rfl h43)) rfl ?_
                  refine QJ.step (YldS.yld (y_loadRM (k := 0) (i := (Int.toNat c37)) (off := 0) (u := .int .u8 (UInt8.toNat e42 : Int)) rfl Try.isAgg5 rfl (idx_get h43) rfl)) rfl ?_
                  refine QJ.done ?_
                  refine PJ.next ?_
                  refine WJ.block ?_
                  refine WJ.seq ?_
                  refine WJ.quiet ?_
                  refine QJ.step (YldS.yld (y_move rfl)) rfl ?_
                  refine QJ.step (YldS.yld (y_bin8 e42 a6 rfl rfl rfl)) rfl ?_
                  refine QJ.step (YldS.yld (y_assign rfl)) rfl ?_
                  refine QJ.done ?_
                  refine PJ.next ?_
                  refine WJ.cond (t := (e42 == a6)) rfl (fun hb44 => ?_) (fun hb44 => ?_)
                  · replace hm := ifT hm hb44
                    refine WJ.reg ?_
                    refine SJ.q (YldS.yld (y_move rfl)) rfl ?_
                    refine SJ.q (YldS.yld (y_move rfl)) rfl ?_
                    refine SJ.q (YldS.yld (y_move rfl)) rfl ?_
                    obtain ⟨e45, h46, hm⟩ := bindS hm
                    refine SJ.q (YldS.yld (y_ixRowM (k := 0) (R := fByte) rfl Try.runUnderlying22 Try.sizeOf5 rfl rfl h46)) rfl ?_
                    refine SJ.storeRLM (k := 0) (i := (Int.toNat c37)) (off := 0) (us := [.int .u8 (UInt8.toNat b7 : Int)]) (b := b7) rfl rfl (idx_get h46) rfl rfl Try.sizeOf5 rfl rfl rfl ?_
                    refine SJ.nil ?_
                    refine PJ.block_normal (PJ.block_normal ?_)
                    exact PJ.joined (List.set l36 (Int.toNat c37) b7) [0, 1, 2, 3, 4] hm ⟨rfl, rfl, rfl, rfl, rfl, rfl, rfl, rfl, trivial⟩ ⟨by decide, rfl⟩
                  · replace hm := ifF hm hb44
                    refine WJ.seq ?_
                    refine WJ.quiet ?_
                    refine QJ.step (YldS.yld (y_move rfl)) rfl ?_
                    refine QJ.step (YldS.yld (y_bin8 e42 b7 rfl rfl rfl)) rfl ?_
                    refine QJ.step (YldS.yld (y_assign rfl)) rfl ?_
                    refine QJ.done ?_
                    refine PJ.next ?_
                    refine WJ.cond (t := (e42 == b7)) rfl (fun hb47 => ?_) (fun hb47 => ?_)
                    · replace hm := ifT hm hb47
                      refine WJ.reg ?_
                      refine SJ.q (YldS.yld (y_move rfl)) rfl ?_
                      refine SJ.q (YldS.yld (y_move rfl)) rfl ?_
                      refine SJ.q (YldS.yld (y_move rfl)) rfl ?_
                      obtain ⟨e48, h49, hm⟩ := bindS hm
                      refine SJ.q (YldS.yld (y_ixRowM (k := 0) (R := fByte) rfl Try.runUnderlying22 Try.sizeOf5 rfl rfl h49)) rfl ?_
                      refine SJ.storeRLM (k := 0) (i := (Int.toNat c37)) (off := 0) (us := [.int .u8 (UInt8.toNat a6 : Int)]) (b := a6) rfl rfl (idx_get h49) rfl rfl Try.sizeOf5 rfl rfl rfl ?_
                      refine SJ.nil ?_
                      refine PJ.block_normal (PJ.block_normal ?_)
                      exact PJ.joined (List.set l36 (Int.toNat c37) a6) [0, 1, 2, 3, 4] hm ⟨rfl, rfl, rfl, rfl, rfl, rfl, rfl, rfl, trivial⟩ ⟨by decide, rfl⟩
                    · replace hm := ifF hm hb47
                      refine WJ.skip ?_
                      refine PJ.block_normal (PJ.block_normal ?_)
                      exact PJ.joined l36 [0, 1, 2, 3, 4] hm ⟨rfl, rfl, rfl, rfl, rfl, rfl, rfl, rfl, trivial⟩ ⟨by decide, rfl⟩
                · rintro l39 hm
                  subst hk41
                  refine WJ.quiet ?_
                  refine QJ.step (YldS.yld (y_move rfl)) rfl ?_
                  refine QJ.step (YldS.yld (y_bin rfl rfl rfl)) rfl ?_
                  refine QJ.step (YldS.yld (y_assign rfl)) rfl ?_
                  refine QJ.done ?_
                  exact PJ.round (l39, w64 (c37 + 1)) [0, 1, 2, 3, 4] hm ⟨rfl, rfl, rfl, rfl, rfl, rfl, rfl, rfl, trivial⟩ ⟨by decide, rfl⟩
              · replace hm := ifF hm hb38
                refine WJ.exit ?_
                refine PJ.then_exit (PJ.then_exit (PJ.block_exit ?_))
                exact PJ.joined l36 [0, 1, 2, 3, 4] hm ⟨rfl, rfl, rfl, rfl, rfl, rfl, rfl, trivial⟩ ⟨by decide, rfl⟩
          · rintro l33 hm
            subst hk35
            refine WJ.reg ?_
            refine SJ.q (YldS.yld (y_fldB (o := 0) fld60_0 rfl)) rfl ?_
            refine SJ.q (YldS.yld (y_loadB (k := 1) (off := 0) (v := v18) rfl Try.isAgg24 rfl rfl)) rfl ?_
            refine SJ.q (YldS.yld (y_move rfl)) rfl ?_
            refine SJ.q (YldS.yld (y_b2s Try.underlying22 Try.underlying9 Try.underlying5 (fun w hw => ⟨_, (hw.rowM_rd (k := 0) rfl)⟩) rfl)) rfl ?_
            refine SJ.buildSlice (R := fStr) (os := [.tmp 57]) [l33] Try.runUnderlying24 Try.sizeOf9 Try.zeroValue9 rfl rfl rfl rfl rfl rfl fun v50 => ?_
            obtain ⟨l51, h52, hm⟩ := bindS hm
            refine SJ.append (k := 3) (R := fStr) h52 rfl Try.underlying24 el9 rfl rfl rfl (fun w hw => (hw.row_rd (k := 0) rfl)) rfl fun v53 => ?_
            refine SJ.q (YldS.yld (y_fldB (o := 0) fld60_0 rfl)) rfl ?_
            refine SJ.rowCells (k := 3) rfl fun hc54 => ?_
            refine SJ.storeL (k := 2) (off := 0) (us := [v53]) rfl rfl rfl hc54.1 Try.sizeOf24 rfl (by simp [hc54.2]) ?_
            refine SJ.nil ?_
            refine PJ.block_normal ?_
            exact PJ.joined (l51, v53) [2, 3, 4, 5] hm ⟨rfl, rfl, rfl, rfl, rfl, rfl, trivial⟩ ⟨by decide, rfl⟩
        · rintro ⟨l21, v22⟩ hm
          subst hk24
          refine WJ.quiet ?_
          refine QJ.step (YldS.yld (y_move rfl)) rfl ?_
          refine QJ.step (YldS.yld (y_bin rfl rfl rfl)) rfl ?_
          refine QJ.step (YldS.yld (y_assign rfl)) rfl ?_
          refine QJ.done ?_
          exact PJ.round (l21, v22, w64 (r19 + 1)) [0, 1, 2, 3] hm ⟨rfl, rfl, rfl, rfl, rfl, rfl, trivial⟩ ⟨by decide, rfl⟩
      · replace hm := ifF hm hb20
        refine WJ.exit ?_
        refine PJ.then_exit (PJ.then_exit (PJ.block_exit ?_))
        exact PJ.joined (l17, v18) [0, 1, 2, 3] hm ⟨rfl, rfl, trivial⟩ ⟨by decide, rfl⟩
  · rintro ⟨l13, v14⟩ hm
    subst hk16
    refine WJ.seq ?_
    refine WJ.reg ?_
    refine SJ.q (YldS.yld (y_loadBN (k := 0) (off := 0) (us := [v14]) rfl Try.isAgg60 Try.sizeOf60 rfl rfl)) rfl ?_
    refine SJ.rowCells (k := 1) rfl fun hc55 => ?_
    refine SJ.storeL (k := 3) (off := 0) (us := [v14]) rfl rfl rfl rfl Try.sizeOf60 rfl (by simp only [List.all_cons, hc55.2]; rfl) ?_
    refine SJ.erase 2 ?_
    refine SJ.nil ?_
    refine PJ.next ?_
    refine WJ.ret ?_
    obtain rfl := Option.some.inj hm
    exact PJ.retn_sel (vs := [.agg #[v14]]) Try.results114 ⟨⟨2, g8, 60, [v14], rfl, rfl, .inl ⟨Try.isAgg60, Try.sizeOf60, rfl⟩⟩, trivial⟩ [1] ⟨by decide, rfl⟩ ⟨_, rfl, rfl⟩

set_option maxRecDepth 100000 in
set_option maxHeartbeats 1000000 in
theorem ok_s_ExchangeLetters {N : Nat} {x1 : Layout} {a4 : Str} {b5 : Str} {r : Layout × Int} (hm : s_ExchangeLetters N x1 a4 b5 = some r) (w : World) (v2 : Value) (hr3 : RdS w (cx w).Fz v2 fStr.rp x1.rows) :
    Calls Try.prog 49 #[.agg #[v2], str a4, str b5] w (RetG (cx w) fun u L => ∃ (u1 : Value), (u = tup [.agg #[u1], .int .i64 r.2] ∧ L = [row u1 9 fStr r.1.rows])) := by
  unfold s_ExchangeLetters at hm
  refine Calls.enter [.agg #[v2], str a4, str b5] Try.func49 rfl Try.ntmps49 rfl ?_
  refine WJ.seq ?_
  refine WJ.reg ?_
  refine SJ.box (cs := [v2]) rfl rfl rfl fun g6 => ?_
  refine SJ.alloc (cs := [.slice none 0 0]) Try.zeroValue60 rfl rfl fun g7 => ?_
  refine SJ.nil_row 9 fStr ?_
  refine SJ.q (YldS.yld (y_assign rfl)) rfl ?_
  refine SJ.nil ?_
  refine PJ.next ?_
  refine WJ.seq ?_
  refine WJ.seq ?_
  refine WJ.quiet ?_
  obtain ⟨r8, h9, hm⟩ := bindS hm
  refine QJ.step (y_call Try.call111 rfl (RetG.quiet fun w hw => ok_s_l06Ok h9 w _ _ (hw.box_at (k := 2) rfl) (hr3.st hw))) rfl ?_
  refine QJ.step (YldS.yld (y_not rfl)) rfl ?_
  refine QJ.done ?_
  refine PJ.next ?_
  refine WJ.cond (t := !r8) rfl (fun hb10 => ?_) (fun hb10 => ?_)
  · replace hm := ifT hm hb10
    refine WJ.seq ?_
    refine WJ.reg ?_
    refine SJ.q (YldS.yld (y_build (parts := []) (places := [(0, 1)]) (r := [.slice none 0 0]) pl60 Try.zeroValue60 rfl rfl rfl rfl)) rfl ?_
    refine SJ.storeL (k := 1) (off := 0) (us := [.slice none 0 0]) rfl rfl rfl rfl Try.sizeOf60 rfl rfl ?_
    refine SJ.nil_row 9 fStr ?_
    refine SJ.erase 1 ?_
    refine SJ.q (YldS.yld (y_assign rfl)) rfl ?_
    refine SJ.nil ?_
    refine PJ.next ?_
    refine WJ.ret ?_
    refine PJ.then_ret ?_
    obtain rfl := Option.some.inj hm
    exact PJ.retn_sel (vs := [.agg #[(.slice none 0 0)], .int .i64 1]) Try.results49 ⟨⟨1, g7, 60, [(.slice none 0 0)], rfl, rfl, .inl ⟨Try.isAgg60, Try.sizeOf60, rfl⟩⟩, rfl, trivial⟩ [0] ⟨by decide, rfl⟩ ⟨_, rfl, rfl⟩
  · replace hm := ifF hm hb10
    refine WJ.skip ?_
    refine PJ.next ?_
    refine WJ.seq ?_
    refine WJ.seq ?_
    refine WJ.quiet ?_
    refine QJ.step (YldS.yld (y_move rfl)) rfl ?_
    obtain ⟨r11, h12, hm⟩ := bindS hm
    refine QJ.step (y_call Try.call112 rfl (RetG.quiet fun w hw => ok_s_l02Letter h12 w )) rfl ?_
    refine QJ.step (YldS.yld (y_not rfl)) rfl ?_
    refine QJ.step (YldS.yld (y_move rfl)) rfl ?_
    obtain ⟨t13, h14, hm⟩ := bindS hm
    refine QJ.cut 4 [(1, str a4), (2, str b5), (3, pt g6 0), (6, pt g7 0), (22, .bool t13)] ?_ ?_
    · rcases Bool.eq_false_or_eq_true (!r11) with hb15 | hb15
      · obtain rfl := orT h14 hb15
        refine QJ.off rfl rfl (cB hb15) rfl rfl ?_
        refine QJ.off rfl rfl (cB hb15) rfl rfl ?_
        refine QJ.off rfl rfl (cB hb15) rfl rfl ?_
        refine QJ.step (YldS.yld (y_pick_t (cB hb15) rfl)) rfl ?_
        exact QJ.cut_end ⟨rfl, rfl, rfl, rfl, rfl, trivial⟩
      · replace h14 := orF h14 hb15
        refine QJ.on rfl rfl (cB hb15) (YldS.yld (y_move rfl)) rfl ?_
        obtain ⟨r16, h17, h14⟩ := bindS h14
        refine QJ.on rfl rfl (cB hb15) (y_call Try.call112 rfl (RetG.quiet fun w hw => ok_s_l02Letter h17 w )) rfl ?_
        refine QJ.on rfl rfl (cB hb15) (YldS.yld (y_not rfl)) rfl ?_
        refine QJ.step (YldS.yld (y_pick_f (cB hb15) rfl)) rfl ?_
        obtain rfl := Option.some.inj h14
        exact QJ.cut_end ⟨rfl, rfl, rfl, rfl, rfl, trivial⟩
    refine QJ.done ?_
    refine PJ.next ?_
    refine WJ.cond (t := t13) rfl (fun hb18 => ?_) (fun hb18 => ?_)
    · replace hm := ifT hm hb18
      refine WJ.seq ?_
      refine WJ.reg ?_
      refine SJ.q (YldS.yld (y_build (parts := []) (places := [(0, 1)]) (r := [.slice none 0 0]) pl60 Try.zeroValue60 rfl rfl rfl rfl)) rfl ?_
      refine SJ.storeL (k := 1) (off := 0) (us := [.slice none 0 0]) rfl rfl rfl rfl Try.sizeOf60 rfl rfl ?_
      refine SJ.nil_row 9 fStr ?_
      refine SJ.erase 1 ?_
      refine SJ.q (YldS.yld (y_assign rfl)) rfl ?_
      refine SJ.nil ?_
      refine PJ.next ?_
      refine WJ.ret ?_
      refine PJ.then_ret ?_
      obtain rfl := Option.some.inj hm
      exact PJ.retn_sel (vs := [.agg #[(.slice none 0 0)], .int .i64 2]) Try.results49 ⟨⟨1, g7, 60, [(.slice none 0 0)], rfl, rfl, .inl ⟨Try.isAgg60, Try.sizeOf60, rfl⟩⟩, rfl, trivial⟩ [0] ⟨by decide, rfl⟩ ⟨_, rfl, rfl⟩
    · replace hm := ifF hm hb18
      refine WJ.skip ?_
      refine PJ.next ?_
      refine WJ.seq ?_
      refine WJ.quiet_draw follows (by kernel_rfl) ?_
      refine QJ.step (YldS.yld (y_fldB (o := 0) fld60_0 rfl)) rfl ?_
      refine QJ.step (YldS.yld (y_loadB (k := 2) (off := 0) (v := v2) rfl Try.isAgg24 rfl rfl)) rfl ?_
      refine QJ.step (YldS.yld (y_move rfl)) rfl ?_
      obtain ⟨c19, h20, hm⟩ := bindS hm
      refine QJ.step (YldS.yld (y_idxStr Try.runUnderlying9 rfl rfl h20)) rfl ?_
      obtain ⟨r21, h22, hm⟩ := bindS hm
      refine QJ.step (y_call Try.call113 rfl (RetG.quiet fun w hw => ok_s_l06At h22 w _ (hr3.st hw))) rfl ?_
      refine QJ.step (YldS.yld (y_move rfl)) rfl ?_
      refine QJ.step (YldS.yld (y_extract rfl rfl)) rfl ?_
      refine QJ.step (YldS.yld (y_extract rfl rfl)) rfl ?_
      refine QJ.step (YldS.yld (y_assign rfl)) rfl ?_
      refine QJ.step (YldS.yld (y_assign rfl)) rfl ?_
      refine QJ.done ?_
      refine PJ.next ?_
      refine WJ.seq ?_
      refine WJ.quiet_draw follows (by kernel_rfl) ?_
      refine QJ.step (YldS.yld (y_fldB (o := 0) fld60_0 rfl)) rfl ?_
      refine QJ.step (YldS.yld (y_loadB (k := 2) (off := 0) (v := v2) rfl Try.isAgg24 rfl rfl)) rfl ?_
      refine QJ.step (YldS.yld (y_move rfl)) rfl ?_
      obtain ⟨c23, h24, hm⟩ := bindS hm
      refine QJ.step (YldS.yld (y_idxStr Try.runUnderlying9 rfl rfl h24)) rfl ?_
      obtain ⟨r25, h26, hm⟩ := bindS hm
      refine QJ.step (y_call Try.call113 rfl (RetG.quiet fun w hw => ok_s_l06At h26 w _ (hr3.st hw))) rfl ?_
      refine QJ.step (YldS.yld (y_move rfl)) rfl ?_
      refine QJ.step (YldS.yld (y_extract rfl rfl)) rfl ?_
      refine QJ.step (YldS.yld (y_extract rfl rfl)) rfl ?_
      refine QJ.step (YldS.yld (y_assign rfl)) rfl ?_
      refine QJ.step (YldS.yld (y_assign rfl)) rfl ?_
      refine QJ.done ?_
      refine PJ.next ?_
      refine WJ.seq ?_
      refine WJ.seq ?_
      refine WJ.quiet ?_
      refine QJ.step (YldS.yld (y_move rfl)) rfl ?_
      refine QJ.step (YldS.yld (y_bin rfl rfl rfl)) rfl ?_
      refine QJ.step (YldS.yld (y_move rfl)) rfl ?_
      obtain ⟨t27, h28, hm⟩ := bindS hm
      refine QJ.cut 3 [(1, str a4), (2, str b5), (3, pt g6 0), (6, pt g7 0), (45, .bool t27)] ?_ ?_
      · rcases Bool.eq_false_or_eq_true (decide (r21.1 < 0)) with hb29 | hb29
        · obtain rfl := orT h28 hb29
          refine QJ.off rfl rfl (cB hb29) rfl rfl ?_
          refine QJ.off rfl rfl (cB hb29) rfl rfl ?_
          refine QJ.step (YldS.yld (y_pick_t (cB hb29) rfl)) rfl ?_
          exact QJ.cut_end ⟨rfl, rfl, rfl, rfl, rfl, trivial⟩
        · replace h28 := orF h28 hb29
          refine QJ.on rfl rfl (cB hb29) (YldS.yld (y_move rfl)) rfl ?_
          refine QJ.on rfl rfl (cB hb29) (YldS.yld (y_bin rfl rfl rfl)) rfl ?_
          refine QJ.step (YldS.yld (y_pick_f (cB hb29) rfl)) rfl ?_
          obtain rfl := Option.some.inj h28
          exact QJ.cut_end ⟨rfl, rfl, rfl, rfl, rfl, trivial⟩
      refine QJ.done ?_
      refine PJ.next ?_
      refine WJ.cond (t := t27) rfl (fun hb30 => ?_) (fun hb30 => ?_)
      · replace hm := ifT hm hb30
        refine WJ.seq ?_
        refine WJ.reg ?_
        refine SJ.q (YldS.yld (y_build (parts := []) (places := [(0, 1)]) (r := [.slice none 0 0]) pl60 Try.zeroValue60 rfl rfl rfl rfl)) rfl ?_
        refine SJ.storeL (k := 1) (off := 0) (us := [.slice none 0 0]) rfl rfl rfl rfl Try.sizeOf60 rfl rfl ?_
        refine SJ.nil_row 9 fStr ?_
        refine SJ.erase 1 ?_
        refine SJ.q (YldS.yld (y_assign rfl)) rfl ?_
        refine SJ.nil ?_
        refine PJ.next ?_
        refine WJ.ret ?_
        refine PJ.then_ret ?_
        obtain rfl := Option.some.inj hm
        exact PJ.retn_sel (vs := [.agg #[(.slice none 0 0)], .int .i64 3]) Try.results49 ⟨⟨1, g7, 60, [(.slice none 0 0)], rfl, rfl, .inl ⟨Try.isAgg60, Try.sizeOf60, rfl⟩⟩, rfl, trivial⟩ [0] ⟨by decide, rfl⟩ ⟨_, rfl, rfl⟩
      · replace hm := ifF hm hb30
        refine WJ.skip ?_
        refine PJ.next ?_
        refine WJ.seq ?_
        obtain ⟨c31, h32, hm⟩ := bindS hm
        obtain ⟨c33, h34, hm⟩ := bindS hm
        obtain ⟨r35, h36, hm⟩ := bindS hm
        refine WJ.draws (N := 7) (listed0 := #[false, false, false, false, false, false, false]) [row (.slice none 0 0) 9 fStr [], box g6 60 [v2]] follows rfl rfl ?_
        refine RJ.first 0 (listed' := #[true, false, false, false, false, false, false]) [0, 2] rfl (by kernel_rfl) rfl ⟨by decide, rfl⟩ (y_move rfl) rfl ?_
        refine RJ.first 1 (listed' := #[true, true, false, false, false, false, false]) [0, 2] rfl (by kernel_rfl) rfl ⟨by decide, rfl⟩ (y_idxStr Try.runUnderlying9 rfl rfl h32) rfl ?_
        refine RJ.first 2 (listed' := #[true, true, true, false, false, false, false]) [0, 2] rfl (by kernel_rfl) rfl ⟨by decide, rfl⟩ (y_move rfl) rfl ?_
        refine RJ.first 3 (listed' := #[true, true, true, true, false, false, false]) [0, 2] rfl (by kernel_rfl) rfl ⟨by decide, rfl⟩ (y_idxStr Try.runUnderlying9 rfl rfl h34) rfl ?_
        refine RJ.step1 4 [0, 2] (by kernel_rfl) ⟨by decide, rfl⟩ ?_
        refine RO.of (listed' := #[true, true, true, true, true, false, false]) rfl rfl ?_
        refine SJ.call Try.call114 rfl (fun w hw => ok_s_l06Change h36 w _ _ (hw.box_at (k := 2) rfl) (hr3.st hw)) rfl ?_
        rintro _ _ ⟨v37, rfl, rfl⟩
        refine SJ.nil ?_
        refine PJ.draw ?_
        refine RJ.step1 5 [1, 3] (by kernel_rfl) ⟨by decide, rfl⟩ ?_
        refine RO.of (listed' := #[true, true, true, true, true, true, false]) rfl rfl ?_
        refine SJ.rowCells (k := 0) rfl fun hc38 => ?_
        refine SJ.storeL (k := 2) (off := 0) (us := [v37]) rfl rfl rfl rfl Try.sizeOf60 rfl (by simp only [List.all_cons, hc38.2]; rfl) ?_
        refine SJ.nil ?_
        refine PJ.draw ?_
        refine RJ.first 6 (listed' := #[true, true, true, true, true, true, true]) [1, 3] rfl (by kernel_rfl) rfl ⟨by decide, rfl⟩ (y_assign rfl) rfl ?_
        refine RJ.fin [1, 3] (by kernel_rfl) ⟨by decide, rfl⟩ ?_
        refine PJ.next ?_
        refine WJ.ret ?_
        obtain rfl := Option.some.inj hm
        exact PJ.retn_sel (vs := [.agg #[v37], .int .i64 0]) Try.results49 ⟨⟨2, g7, 60, [v37], rfl, rfl, .inl ⟨Try.isAgg60, Try.sizeOf60, rfl⟩⟩, rfl, trivial⟩ [0] ⟨by decide, rfl⟩ ⟨_, rfl, rfl⟩

set_option maxRecDepth 100000 in
set_option maxHeartbeats 1000000 in
theorem ok_s_DrawSpotOfLetter {N : Nat} {code1 : List UInt8} {r : Layout × Str} (hm : s_DrawSpotOfLetter N code1 = some r) (w : World) (v2 : Value) (hr3 : RdS w (cx w).Fz v2 fByte.rp code1) :
    Calls Try.prog 50 #[v2] w (RetG (cx w) fun u L => ∃ (u1 : Value), (u = tup [.agg #[u1], str r.2] ∧ L = [row u1 9 fStr r.1.rows])) := by
  unfold s_DrawSpotOfLetter at hm
  refine Calls.enter [v2] Try.func50 rfl Try.ntmps50 rfl ?_
  refine WJ.seq ?_
  refine WJ.reg ?_
  refine SJ.alloc (cs := [.slice none 0 0]) Try.zeroValue60 rfl rfl fun g4 => ?_
  refine SJ.nil_row 9 fStr ?_
  refine SJ.q (YldS.yld (y_assign rfl)) rfl ?_
  refine SJ.nil ?_
  refine PJ.next ?_
  refine WJ.seq ?_
  refine WJ.reg ?_
  refine SJ.q (YldS.yld (y_move rfl)) rfl ?_
  obtain ⟨r5, h6, hm⟩ := bindS hm
  refine SJ.call Try.call64 rfl (fun w hw => ok_s_l00From h6 w _ (hr3.st hw)) rfl ?_
  rintro _ _ ⟨g7, rfl, rfl⟩
  refine SJ.q (YldS.yld (y_assign rfl)) rfl ?_
  refine SJ.nil ?_
  refine PJ.next ?_
  refine WJ.seq ?_
  refine WJ.reg ?_
  refine SJ.q (YldS.yld (y_move rfl)) rfl ?_
  obtain ⟨r8, h9, hm⟩ := bindS hm
  refine SJ.call1 (k := 0) rfl Try.call103 rfl (fun w S hw hA hO => ok_s_l06Bent h9 w S _ (hr3.st1 hw hO) hA) rfl ?_
  rintro _ _ ⟨v10, rfl, rfl⟩
  refine SJ.alloc (cs := [.slice none 0 0]) Try.zeroValue60 rfl rfl fun g11 => ?_
  refine SJ.nil_row 9 fStr ?_
  refine SJ.rowCells (k := 3) rfl fun hc12 => ?_
  refine SJ.storeL (k := 1) (off := 0) (us := [v10]) rfl rfl rfl rfl Try.sizeOf60 rfl (by simp only [List.all_cons, hc12.2]; rfl) ?_
  refine SJ.erase 0 ?_
  refine SJ.nil ?_
  refine PJ.next ?_
  refine WJ.seq ?_
  obtain ⟨r14, h15, hm⟩ := bindS hm
  refine WJ.draws (N := 6) (listed0 := #[false, false, false, false, false, false]) [box g11 60 [v10], row v10 9 fStr r8.1.rows, row (.slice none 0 0) 9 fStr []] follows rfl rfl ?_
  refine RJ.first 0 (listed' := #[true, false, false, false, false, false]) [0, 2, 3] rfl (by kernel_rfl) rfl ⟨by decide, rfl⟩ (y_loadBN (k := 0) (off := 0) (us := [v10]) rfl Try.isAgg60 Try.sizeOf60 rfl rfl) rfl ?_
  refine RJ.first 1 (listed' := #[true, true, false, false, false, false]) [0, 2, 3] rfl (by kernel_rfl) rfl ⟨by decide, rfl⟩ (y_move rfl) rfl ?_
  refine RJ.step1 2 [0, 2, 3] (by kernel_rfl) ⟨by decide, rfl⟩ ?_
  refine RO.of (listed' := #[true, true, true, false, false, false]) rfl rfl ?_
  refine SJ.buildSlice (R := fStr) (os := [.const (str [113]), .const (str [119]), .const (str [101]), .const (str [114]), .const (str [116]), .const (str [121]), .const (str [97]), .const (str [115]), .const (str []), .const (str [120]), .const (str [113, 119])]) ([[113], [119], [101], [114], [116], [121], [97], [115], [], [120], [113, 119]] : List Str) Try.runUnderlying24 Try.sizeOf9 Try.zeroValue9 rfl rfl rfl rfl rfl rfl fun v13 => ?_
  refine SJ.nil ?_
  refine PJ.draw ?_
  refine RJ.step1 3 [1, 3, 4] (by kernel_rfl) ⟨by decide, rfl⟩ ?_
  refine RO.of (listed' := #[true, true, true, true, false, false]) rfl rfl ?_
  refine SJ.call2 (k := 2) rfl Try.call81 rfl (fun w S hw hA hO hB => ok_s_l00Src_text h15 w S _ (hr3.st1 hw hO) _ (hB.row_rd (j := 0) (k := 2) rfl rfl) hA) rfl ?_
  rintro _ _ ⟨rfl, rfl⟩
  refine SJ.nil ?_
  refine PJ.draw ?_
  refine RJ.step1 4 [2, 3, 4] (by kernel_rfl) ⟨by decide, rfl⟩ ?_
  refine RO.of (listed' := #[true, true, true, true, true, false]) rfl rfl ?_
  refine SJ.rowCells (k := 3) rfl fun hc16 => ?_
  refine SJ.storeL (k := 5) (off := 0) (us := [v10]) rfl rfl rfl rfl Try.sizeOf60 rfl (by simp only [List.all_cons, hc16.2]; rfl) ?_
  refine SJ.nil ?_
  refine PJ.draw ?_
  refine RJ.first 5 (listed' := #[true, true, true, true, true, true]) [2, 3, 4] rfl (by kernel_rfl) rfl ⟨by decide, rfl⟩ (y_assign rfl) rfl ?_
  refine RJ.fin [2, 3, 4] (by kernel_rfl) ⟨by decide, rfl⟩ ?_
  refine PJ.next ?_
  refine WJ.ret ?_
  obtain rfl := Option.some.inj hm
  exact PJ.retn_sel (vs := [.agg #[v10], str r14.1]) Try.results50 ⟨⟨5, g4, 60, [v10], rfl, rfl, .inl ⟨Try.isAgg60, Try.sizeOf60, rfl⟩⟩, rfl, trivial⟩ [3] ⟨by decide, rfl⟩ ⟨_, rfl, rfl⟩

set_option maxRecDepth 100000 in
set_option maxHeartbeats 1000000 in
theorem ok_i_SpotOfLetter {N : Nat} {x1 : Layout} {letter4 : Str} {r : Int × Int × Int} (hm : i_SpotOfLetter N x1 letter4 = some r) (w : World) (v2 : Value) (hr3 : RdS w (cx w).Fz v2 fStr.rp x1.rows) :
    Calls Try.prog 51 #[.agg #[v2], str letter4] w (Ret (cx w) (tup [.int .i64 r.1, .int .i64 r.2.1, .int .i64 r.2.2])) := by
  unfold i_SpotOfLetter at hm
  refine Calls.enter [.agg #[v2], str letter4] Try.func51 rfl Try.ntmps51 rfl ?_
  refine WJ.seq ?_
  refine WJ.reg ?_
  refine SJ.box (cs := [v2]) rfl rfl rfl fun g5 => ?_
  refine SJ.q (YldS.yld (y_assign rfl)) rfl ?_
  refine SJ.q (YldS.yld (y_assign rfl)) rfl ?_
  refine SJ.q (YldS.yld (y_assign rfl)) rfl ?_
  refine SJ.nil ?_
  refine PJ.next ?_
  refine WJ.seq ?_
  refine WJ.seq ?_
  refine WJ.quiet ?_
  refine QJ.step (YldS.yld (y_loadBN (k := 0) (off := 0) (us := [v2]) rfl Try.isAgg60 Try.sizeOf60 rfl rfl)) rfl ?_
  obtain ⟨r6, h7, hm⟩ := bindS hm
  refine QJ.step (y_call Try.call61 rfl (RetG.quiet fun w hw => ok_i_ValidLayout h7 w _ (hr3.st hw))) rfl ?_
  refine QJ.step (YldS.yld (y_not rfl)) rfl ?_
  refine QJ.done ?_
  refine PJ.next ?_
  refine WJ.cond (t := !r6) rfl (fun hb8 => ?_) (fun hb8 => ?_)
  · replace hm := ifT hm hb8
    refine WJ.seq ?_
    refine WJ.quiet ?_
    refine QJ.step (YldS.yld (y_assign rfl)) rfl ?_
    refine QJ.step (YldS.yld (y_assign rfl)) rfl ?_
    refine QJ.step (YldS.yld (y_assign rfl)) rfl ?_
    refine QJ.done ?_
    refine PJ.next ?_
    refine WJ.ret ?_
    refine PJ.then_ret ?_
    obtain rfl := Option.some.inj hm
    refine PJ.sel (L' := []) [] ⟨List.nodup_nil, rfl⟩ ?_
    exact PJ.retn (vs := [.int .i64 0, .int .i64 0, .int .i64 1]) Try.results51 ⟨rfl, rfl, rfl, trivial⟩ ⟨rfl, rfl⟩
  · replace hm := ifF hm hb8
    refine WJ.skip ?_
    refine PJ.next ?_
    refine WJ.seq ?_
    refine WJ.seq ?_
    refine WJ.quiet ?_
    refine QJ.step (YldS.yld (y_move rfl)) rfl ?_
    obtain ⟨r9, h10, hm⟩ := bindS hm
    refine QJ.step (y_call Try.call106 rfl (RetG.quiet fun w hw => ok_i_isLetter h10 w )) rfl ?_
    refine QJ.step (YldS.yld (y_not rfl)) rfl ?_
    refine QJ.done ?_
    refine PJ.next ?_
    refine WJ.cond (t := !r9) rfl (fun hb11 => ?_) (fun hb11 => ?_)
    · replace hm := ifT hm hb11
      refine WJ.seq ?_
      refine WJ.quiet ?_
      refine QJ.step (YldS.yld (y_assign rfl)) rfl ?_
      refine QJ.step (YldS.yld (y_assign rfl)) rfl ?_
      refine QJ.step (YldS.yld (y_assign rfl)) rfl ?_
      refine QJ.done ?_
      refine PJ.next ?_
      refine WJ.ret ?_
      refine PJ.then_ret ?_
      obtain rfl := Option.some.inj hm
      refine PJ.sel (L' := []) [] ⟨List.nodup_nil, rfl⟩ ?_
      exact PJ.retn (vs := [.int .i64 0, .int .i64 0, .int .i64 2]) Try.results51 ⟨rfl, rfl, rfl, trivial⟩ ⟨rfl, rfl⟩
    · replace hm := ifF hm hb11
      refine WJ.skip ?_
      refine PJ.next ?_
      refine WJ.seq ?_
      refine WJ.quiet_draw follows (by kernel_rfl) ?_
      refine QJ.step (YldS.yld (y_loadBN (k := 0) (off := 0) (us := [v2]) rfl Try.isAgg60 Try.sizeOf60 rfl rfl)) rfl ?_
      refine QJ.step (YldS.yld (y_move rfl)) rfl ?_
      obtain ⟨c12, h13, hm⟩ := bindS hm
      refine QJ.step (YldS.yld (y_idxStr Try.runUnderlying9 rfl rfl h13)) rfl ?_
      obtain ⟨r14, h15, hm⟩ := bindS hm
      refine QJ.step (y_call Try.call109 rfl (RetG.quiet fun w hw => ok_i_Layout_spot h15 w _ (hr3.st hw))) rfl ?_
      refine QJ.step (YldS.yld (y_move rfl)) rfl ?_
      refine QJ.step (YldS.yld (y_extract rfl rfl)) rfl ?_
      refine QJ.step (YldS.yld (y_extract rfl rfl)) rfl ?_
      refine QJ.step (YldS.yld (y_extract rfl rfl)) rfl ?_
      refine QJ.step (YldS.yld (y_assign rfl)) rfl ?_
      refine QJ.step (YldS.yld (y_assign rfl)) rfl ?_
      refine QJ.step (YldS.yld (y_assign rfl)) rfl ?_
      refine QJ.done ?_
      refine PJ.next ?_
      refine WJ.seq ?_
      refine WJ.seq ?_
      refine WJ.quiet ?_
      refine QJ.step (YldS.yld (y_move rfl)) rfl ?_
      refine QJ.step (YldS.yld (y_not rfl)) rfl ?_
      refine QJ.done ?_
      refine PJ.next ?_
      refine WJ.cond (t := !r14.2.2) rfl (fun hb16 => ?_) (fun hb16 => ?_)
      · replace hm := ifT hm hb16
        refine WJ.seq ?_
        refine WJ.quiet ?_
        refine QJ.step (YldS.yld (y_assign rfl)) rfl ?_
        refine QJ.step (YldS.yld (y_assign rfl)) rfl ?_
        refine QJ.step (YldS.yld (y_assign rfl)) rfl ?_
        refine QJ.done ?_
        refine PJ.next ?_
        refine WJ.ret ?_
        refine PJ.then_ret ?_
        obtain rfl := Option.some.inj hm
        refine PJ.sel (L' := []) [] ⟨List.nodup_nil, rfl⟩ ?_
        exact PJ.retn (vs := [.int .i64 0, .int .i64 0, .int .i64 3]) Try.results51 ⟨rfl, rfl, rfl, trivial⟩ ⟨rfl, rfl⟩
      · replace hm := ifF hm hb16
        refine WJ.skip ?_
        refine PJ.next ?_
        refine WJ.seq ?_
        refine WJ.quiet ?_
        refine QJ.step (YldS.yld (y_move rfl)) rfl ?_
        refine QJ.step (YldS.yld (y_move rfl)) rfl ?_
        refine QJ.step (YldS.yld (y_assign rfl)) rfl ?_
        refine QJ.step (YldS.yld (y_assign rfl)) rfl ?_
        refine QJ.step (YldS.yld (y_assign rfl)) rfl ?_
        refine QJ.done ?_
        refine PJ.next ?_
        refine WJ.ret ?_
        obtain rfl := Option.some.inj hm
        refine PJ.sel (L' := []) [] ⟨List.nodup_nil, rfl⟩ ?_
        exact PJ.retn (vs := [.int .i64 r14.1, .int .i64 r14.2.1, .int .i64 0]) Try.results51 ⟨rfl, rfl, rfl, trivial⟩ ⟨rfl, rfl⟩

set_option maxRecDepth 100000 in
set_option maxHeartbeats 1000000 in
theorem ok_s_SpotOfLetter {N : Nat} {x1 : Layout} {letter4 : Str} {r : Int × Int × Int} (hm : s_SpotOfLetter N x1 letter4 = some r) (w : World) (v2 : Value) (hr3 : RdS w (cx w).Fz v2 fStr.rp x1.rows) :
    Calls Try.prog 52 #[.agg #[v2], str letter4] w (Ret (cx w) (tup [.int .i64 r.1, .int .i64 r.2.1, .int .i64 r.2.2])) := by
  unfold s_SpotOfLetter at hm
  refine Calls.enter [.agg #[v2], str letter4] Try.func52 rfl Try.ntmps52 rfl ?_
  refine WJ.seq ?_
  refine WJ.reg ?_
  refine SJ.box (cs := [v2]) rfl rfl rfl fun g5 => ?_
  refine SJ.q (YldS.yld (y_assign rfl)) rfl ?_
  refine SJ.q (YldS.yld (y_assign rfl)) rfl ?_
  refine SJ.q (YldS.yld (y_assign rfl)) rfl ?_
  refine SJ.nil ?_
  refine PJ.next ?_
  refine WJ.seq ?_
  refine WJ.seq ?_
  refine WJ.quiet ?_
  obtain ⟨r6, h7, hm⟩ := bindS hm
  refine QJ.step (y_call Try.call111 rfl (RetG.quiet fun w hw => ok_s_l06Ok h7 w _ _ (hw.box_at (k := 0) rfl) (hr3.st hw))) rfl ?_
  refine QJ.step (YldS.yld (y_not rfl)) rfl ?_
  refine QJ.done ?_
  refine PJ.next ?_
  refine WJ.cond (t := !r6) rfl (fun hb8 => ?_) (fun hb8 => ?_)
  · replace hm := ifT hm hb8
    refine WJ.seq ?_
    refine WJ.quiet ?_
    refine QJ.step (YldS.yld (y_assign rfl)) rfl ?_
    refine QJ.step (YldS.yld (y_assign rfl)) rfl ?_
    refine QJ.step (YldS.yld (y_assign rfl)) rfl ?_
    refine QJ.done ?_
    refine PJ.next ?_
    refine WJ.ret ?_
    refine PJ.then_ret ?_
    obtain rfl := Option.some.inj hm
    refine PJ.sel (L' := []) [] ⟨List.nodup_nil, rfl⟩ ?_
    exact PJ.retn (vs := [.int .i64 0, .int .i64 0, .int .i64 1]) Try.results52 ⟨rfl, rfl, rfl, trivial⟩ ⟨rfl, rfl⟩
  · replace hm := ifF hm hb8
    refine WJ.skip ?_
    refine PJ.next ?_
    refine WJ.seq ?_
    refine WJ.seq ?_
    refine WJ.quiet ?_
    refine QJ.step (YldS.yld (y_move rfl)) rfl ?_
    obtain ⟨r9, h10, hm⟩ := bindS hm
    refine QJ.step (y_call Try.call112 rfl (RetG.quiet fun w hw => ok_s_l02Letter h10 w )) rfl ?_
    refine QJ.step (YldS.yld (y_not rfl)) rfl ?_
    refine QJ.done ?_
    refine PJ.next ?_
    refine WJ.cond (t := !r9) rfl (fun hb11 => ?_) (fun hb11 => ?_)
    · replace hm := ifT hm hb11
      refine WJ.seq ?_
      refine WJ.quiet ?_
      refine QJ.step (YldS.yld (y_assign rfl)) rfl ?_
      refine QJ.step (YldS.yld (y_assign rfl)) rfl ?_
      refine QJ.step (YldS.yld (y_assign rfl)) rfl ?_
      refine QJ.done ?_
      refine PJ.next ?_
      refine WJ.ret ?_
      refine PJ.then_ret ?_
      obtain rfl := Option.some.inj hm
      refine PJ.sel (L' := []) [] ⟨List.nodup_nil, rfl⟩ ?_
      exact PJ.retn (vs := [.int .i64 0, .int .i64 0, .int .i64 2]) Try.results52 ⟨rfl, rfl, rfl, trivial⟩ ⟨rfl, rfl⟩
    · replace hm := ifF hm hb11
      refine WJ.skip ?_
      refine PJ.next ?_
      refine WJ.seq ?_
      refine WJ.quiet_draw follows (by kernel_rfl) ?_
      refine QJ.step (YldS.yld (y_fldB (o := 0) fld60_0 rfl)) rfl ?_
      refine QJ.step (YldS.yld (y_loadB (k := 0) (off := 0) (v := v2) rfl Try.isAgg24 rfl rfl)) rfl ?_
      refine QJ.step (YldS.yld (y_move rfl)) rfl ?_
      obtain ⟨c12, h13, hm⟩ := bindS hm
      refine QJ.step (YldS.yld (y_idxStr Try.runUnderlying9 rfl rfl h13)) rfl ?_
      obtain ⟨r14, h15, hm⟩ := bindS hm
      refine QJ.step (y_call Try.call113 rfl (RetG.quiet fun w hw => ok_s_l06At h15 w _ (hr3.st hw))) rfl ?_
      refine QJ.step (YldS.yld (y_move rfl)) rfl ?_
      refine QJ.step (YldS.yld (y_extract rfl rfl)) rfl ?_
      refine QJ.step (YldS.yld (y_extract rfl rfl)) rfl ?_
      refine QJ.step (YldS.yld (y_assign rfl)) rfl ?_
      refine QJ.step (YldS.yld (y_assign rfl)) rfl ?_
      refine QJ.done ?_
      refine PJ.next ?_
      refine WJ.seq ?_
      refine WJ.seq ?_
      refine WJ.quiet ?_
      refine QJ.step (YldS.yld (y_move rfl)) rfl ?_
      refine QJ.step (YldS.yld (y_bin rfl rfl rfl)) rfl ?_
      refine QJ.done ?_
      refine PJ.next ?_
      refine WJ.cond (t := decide (r14.1 < 0)) rfl (fun hb16 => ?_) (fun hb16 => ?_)
      · replace hm := ifT hm hb16
        refine WJ.seq ?_
        refine WJ.quiet ?_
        refine QJ.step (YldS.yld (y_assign rfl)) rfl ?_
        refine QJ.step (YldS.yld (y_assign rfl)) rfl ?_
        refine QJ.step (YldS.yld (y_assign rfl)) rfl ?_
        refine QJ.done ?_
        refine PJ.next ?_
        refine WJ.ret ?_
        refine PJ.then_ret ?_
        obtain rfl := Option.some.inj hm
        refine PJ.sel (L' := []) [] ⟨List.nodup_nil, rfl⟩ ?_
        exact PJ.retn (vs := [.int .i64 0, .int .i64 0, .int .i64 3]) Try.results52 ⟨rfl, rfl, rfl, trivial⟩ ⟨rfl, rfl⟩
      · replace hm := ifF hm hb16
        refine WJ.skip ?_
        refine PJ.next ?_
        refine WJ.seq ?_
        refine WJ.quiet ?_
        refine QJ.step (YldS.yld (y_move rfl)) rfl ?_
        refine QJ.step (YldS.yld (y_move rfl)) rfl ?_
        refine QJ.step (YldS.yld (y_assign rfl)) rfl ?_
        refine QJ.step (YldS.yld (y_assign rfl)) rfl ?_
        refine QJ.step (YldS.yld (y_assign rfl)) rfl ?_
        refine QJ.done ?_
        refine PJ.next ?_
        refine WJ.ret ?_
        obtain rfl := Option.some.inj hm
        refine PJ.sel (L' := []) [] ⟨List.nodup_nil, rfl⟩ ?_
        exact PJ.retn (vs := [.int .i64 r14.1, .int .i64 r14.2, .int .i64 0]) Try.results52 ⟨rfl, rfl, rfl, trivial⟩ ⟨rfl, rfl⟩

set_option maxRecDepth 100000 in
set_option maxHeartbeats 1000000 in
theorem ok_i_MirrorLayout {N : Nat} {x1 : Layout} {r : Layout × Int} (hm : i_MirrorLayout N x1 = some r) (w : World) (v2 : Value) (hr3 : RdS w (cx w).Fz v2 fStr.rp x1.rows) :
    Calls Try.prog 53 #[.agg #[v2]] w (RetG (cx w) fun u L => ∃ (u1 : Value), (u = tup [.agg #[u1], .int .i64 r.2] ∧ L = [row u1 9 fStr r.1.rows])) := by
  unfold i_MirrorLayout at hm
  refine Calls.enter [.agg #[v2]] Try.func53 rfl Try.ntmps53 rfl ?_
  refine WJ.seq ?_
  refine WJ.reg ?_
  refine SJ.box (cs := [v2]) rfl rfl rfl fun g4 => ?_
  refine SJ.alloc (cs := [.slice none 0 0]) Try.zeroValue60 rfl rfl fun g5 => ?_
  refine SJ.nil_row 9 fStr ?_
  refine SJ.q (YldS.yld (y_assign rfl)) rfl ?_
  refine SJ.nil ?_
  refine PJ.next ?_
  refine WJ.seq ?_
  refine WJ.seq ?_
  refine WJ.quiet ?_
  refine QJ.step (YldS.yld (y_loadBN (k := 2) (off := 0) (us := [v2]) rfl Try.isAgg60 Try.sizeOf60 rfl rfl)) rfl ?_
  obtain ⟨r6, h7, hm⟩ := bindS hm
  refine QJ.step (y_call Try.call61 rfl (RetG.quiet fun w hw => ok_i_ValidLayout h7 w _ (hr3.st hw))) rfl ?_
  refine QJ.step (YldS.yld (y_not rfl)) rfl ?_
  refine QJ.done ?_
  refine PJ.next ?_
  refine WJ.cond (t := !r6) rfl (fun hb8 => ?_) (fun hb8 => ?_)
  · replace hm := ifT hm hb8
    refine WJ.seq ?_
    refine WJ.reg ?_
    refine SJ.q (YldS.yld (y_build (parts := []) (places := [(0, 1)]) (r := [.slice none 0 0]) pl60 Try.zeroValue60 rfl rfl rfl rfl)) rfl ?_
    refine SJ.storeL (k := 1) (off := 0) (us := [.slice none 0 0]) rfl rfl rfl rfl Try.sizeOf60 rfl rfl ?_
    refine SJ.nil_row 9 fStr ?_
    refine SJ.erase 1 ?_
    refine SJ.q (YldS.yld (y_assign rfl)) rfl ?_
    refine SJ.nil ?_
    refine PJ.next ?_
    refine WJ.ret ?_
    refine PJ.then_ret ?_
    obtain rfl := Option.some.inj hm
    exact PJ.retn_sel (vs := [.agg #[(.slice none 0 0)], .int .i64 1]) Try.results53 ⟨⟨1, g5, 60, [(.slice none 0 0)], rfl, rfl, .inl ⟨Try.isAgg60, Try.sizeOf60, rfl⟩⟩, rfl, trivial⟩ [0] ⟨by decide, rfl⟩ ⟨_, rfl, rfl⟩
  · replace hm := ifF hm hb8
    refine WJ.skip ?_
    refine PJ.next ?_
    refine WJ.seq ?_
    refine WJ.reg ?_
    refine SJ.q (YldS.yld (y_build (parts := []) (places := [(0, 1)]) (r := [.slice none 0 0]) pl60 Try.zeroValue60 rfl rfl rfl rfl)) rfl ?_
    refine SJ.alloc (cs := [.slice none 0 0]) Try.zeroValue60 rfl rfl fun g9 => ?_
    refine SJ.nil_row 9 fStr ?_
    refine SJ.storeL (k := 1) (off := 0) (us := [.slice none 0 0]) rfl rfl rfl rfl Try.sizeOf60 rfl rfl ?_
    refine SJ.nil_row 9 fStr ?_
    refine SJ.erase 1 ?_
    refine SJ.nil ?_
    refine PJ.next ?_
    obtain ⟨kj12, hk13, hm⟩ := withK_open hm
    refine WJ.join (X := (List Str) × Value) (fun (x : (List Str) × Value) => kj12 x.1 = some r) (fun (x : (List Str) × Value) => [(2, pt g5 0), (4, pt g9 0)]) (fun (x : (List Str) × Value) => [row x.2 9 fStr x.1, box g9 60 [x.2], row (.slice none 0 0) 9 fStr [], box g5 60 [(.slice none 0 0)]]) ?_ ?_
    · clear hk13
      refine WJ.seq ?_
      refine WJ.quiet ?_
      refine QJ.step (YldS.yld (y_fldB (o := 0) fld60_0 rfl)) rfl ?_
      refine QJ.step (YldS.yld (y_loadB (k := 4) (off := 0) (v := v2) rfl Try.isAgg24 rfl rfl)) rfl ?_
      refine QJ.step (YldS.yld (y_lenS Try.runUnderlying24 hr3 rfl)) rfl ?_
      refine QJ.step (YldS.yld (y_move rfl)) rfl ?_
      refine QJ.done ?_
      refine PJ.next ?_
      refine WJ.block ?_
      refine WJ.sel (L' := (fun (x : (List Str) × Value × Int) => [row x.2.1 9 fStr x.1, box g9 60 [x.2.1], row (.slice none 0 0) 9 fStr [], box g5 60 [(.slice none 0 0)]]) ([], (.slice none 0 0), 0)) [0, 1, 2, 3] ⟨by decide, rfl⟩ ?_
      refine WJ.sub (m' := (fun (x : (List Str) × Value × Int) => [(2, pt g5 0), (4, pt g9 0), (15, v2), (16, .int .i64 (List.length x1.rows : Int)), (17, .int .i64 x.2.2)]) ([], (.slice none 0 0), 0)) ⟨rfl, rfl, rfl, rfl, rfl, trivial⟩ ?_
      refine WJ.loop (X := (List Str) × Value × Int) (fun N (x : (List Str) × Value × Int) => i_MirrorLayout_l1 kj12 x1 N x.1 x.2.2 = some r) (fun (x : (List Str) × Value × Int) => [(2, pt g5 0), (4, pt g9 0), (15, v2), (16, .int .i64 (List.length x1.rows : Int)), (17, .int .i64 x.2.2)]) (fun (x : (List Str) × Value × Int) => [row x.2.1 9 fStr x.1, box g9 60 [x.2.1], row (.slice none 0 0) 9 fStr [], box g5 60 [(.slice none 0 0)]]) ?_ N ([], (.slice none 0 0), 0) hm
      · rintro N ⟨l14, v15, x16⟩ hI
        have hm := hI; clear hI
        cases N with
        | zero => cases hm
        | succ N =>
        unfold i_MirrorLayout_l1 at hm
        refine WJ.seq ?_
        refine WJ.quiet ?_
        refine QJ.step (YldS.yld (y_bin rfl rfl rfl)) rfl ?_
        refine QJ.done ?_
        refine PJ.next ?_
        refine WJ.seq ?_
        refine WJ.cond (t := decide (x16 < (List.length x1.rows : Int))) rfl (fun hb17 => ?_) (fun hb17 => ?_)
        · replace hm := ifT hm hb17
          refine WJ.skip ?_
          refine PJ.next ?_
          obtain ⟨kj20, hk21, hm⟩ := withK_open hm
          refine WJ.join (X := (List Str) × Value) (fun (x : (List Str) × Value) => kj20 x.1 = some r) (fun (x : (List Str) × Value) => [(2, pt g5 0), (4, pt g9 0), (15, v2), (16, .int .i64 (List.length x1.rows : Int)), (17, .int .i64 x16)]) (fun (x : (List Str) × Value) => [row x.2 9 fStr x.1, box g9 60 [x.2], row (.slice none 0 0) 9 fStr [], box g5 60 [(.slice none 0 0)]]) ?_ ?_
          · clear hk21
            refine WJ.block ?_
            refine WJ.seq ?_
            refine WJ.quiet ?_
            obtain ⟨e22, h23, hm⟩ := bindS hm
            obtain ⟨ad24, _, rfl, ha25, hy26⟩ := hr3.elem h23
            refine QJ.step (YldS.yld (hy26 Try.runUnderlying24 Try.sizeOf9 rfl rfl)) rfl ?_
            refine QJ.step (YldS.yld (y_load1 (v := str e22) Try.isAgg9 ha25 St.frozenC rfl)) rfl ?_
            refine QJ.step (YldS.yld (y_assign rfl)) rfl ?_
            refine QJ.done ?_
            refine PJ.next ?_
            refine WJ.seq ?_
            refine WJ.reg ?_
            refine SJ.buildSlice (R := fByte) (os := []) [] Try.runUnderlying22 Try.sizeOf5 Try.zeroValue5 rfl rfl rfl rfl rfl rfl fun v27 => ?_
            refine SJ.q (YldS.yld (y_assign rfl)) rfl ?_
            refine SJ.nil ?_
            refine PJ.next ?_
            obtain ⟨kj30, hk31, hm⟩ := withK_open hm
            refine WJ.join (X := (List UInt8) × Value) (fun (x : (List UInt8) × Value) => kj30 x.1 = some r) (fun (x : (List UInt8) × Value) => [(2, pt g5 0), (4, pt g9 0), (7, x.2), (15, v2), (16, .int .i64 (List.length x1.rows : Int)), (17, .int .i64 x16)]) (fun (x : (List UInt8) × Value) => [row x.2 5 fByte x.1, row v15 9 fStr l14, box g9 60 [v15], row (.slice none 0 0) 9 fStr [], box g5 60 [(.slice none 0 0)]]) ?_ ?_
            · clear hk31
              refine WJ.seq ?_
              refine WJ.quiet ?_
              refine QJ.step (YldS.yld (y_move rfl)) rfl ?_
              refine QJ.step (YldS.yld (y_lenStr Try.runUnderlying9 rfl)) rfl ?_
              refine QJ.step (YldS.yld (y_bin rfl rfl rfl)) rfl ?_
              refine QJ.step (YldS.yld (y_assign rfl)) rfl ?_
              refine QJ.done ?_
              refine PJ.next ?_
              refine WJ.block ?_
              refine WJ.sel (L' := (fun (x : (List UInt8) × Value × Int) => [row x.2.1 5 fByte x.1, row v15 9 fStr l14, box g9 60 [v15], row (.slice none 0 0) 9 fStr [], box g5 60 [(.slice none 0 0)]]) ([], v27, w64 ((List.length e22 : Int) - 1))) [0, 1, 2, 3, 4] ⟨by decide, rfl⟩ ?_
              refine WJ.sub (m' := (fun (x : (List UInt8) × Value × Int) => [(2, pt g5 0), (4, pt g9 0), (6, str e22), (7, x.2.1), (8, .int .i64 x.2.2), (15, v2), (16, .int .i64 (List.length x1.rows : Int)), (17, .int .i64 x16)]) ([], v27, w64 ((List.length e22 : Int) - 1))) ⟨rfl, rfl, rfl, rfl, rfl, rfl, rfl, rfl, trivial⟩ ?_
              refine WJ.loop (X := (List UInt8) × Value × Int) (fun N (x : (List UInt8) × Value × Int) => i_MirrorLayout_l2 kj30 e22 N x.1 x.2.2 = some r) (fun (x : (List UInt8) × Value × Int) => [(2, pt g5 0), (4, pt g9 0), (6, str e22), (7, x.2.1), (8, .int .i64 x.2.2), (15, v2), (16, .int .i64 (List.length x1.rows : Int)), (17, .int .i64 x16)]) (fun (x : (List UInt8) × Value × Int) => [row x.2.1 5 fByte x.1, row v15 9 fStr l14, box g9 60 [v15], row (.slice none 0 0) 9 fStr [], box g5 60 [(.slice none 0 0)]]) ?_ N ([], v27, w64 ((List.length e22 : Int) - 1)) hm
              · rintro N ⟨l32, v33, i34⟩ hI
                have hm := hI; clear hI
                cases N with
                | zero => cases hm
                | succ N =>
                unfold i_MirrorLayout_l2 at hm
                refine WJ.seq ?_
                refine WJ.seq ?_
                refine WJ.quiet ?_
                refine QJ.step (YldS.yld (y_move rfl)) rfl ?_
                refine QJ.step (YldS.yld (y_bin rfl rfl rfl)) rfl ?_
                refine QJ.done ?_
                refine PJ.next ?_
                refine WJ.cond (t := decide (i34 ≥ 0)) rfl (fun hb35 => ?_) (fun hb35 => ?_)
                · replace hm := ifT hm hb35
                  refine WJ.skip ?_
                  refine PJ.next ?_
                  refine WJ.seq ?_
                  refine WJ.block ?_
                  refine WJ.reg ?_
                  refine SJ.q (YldS.yld (y_move rfl)) rfl ?_
                  refine SJ.q (YldS.yld (y_move rfl)) rfl ?_
                  refine SJ.q (YldS.yld (y_move rfl)) rfl ?_
                  obtain ⟨c36, h37, hm⟩ := bindS hm
                  refine SJ.q (YldS.yld (y_idxStr Try.runUnderlying9 rfl rfl h37)) rfl ?_
                  refine SJ.buildSlice (R := fByte) (os := [.tmp 32]) [c36] Try.runUnderlying22 Try.sizeOf5 Try.zeroValue5 rfl rfl rfl rfl rfl rfl fun v38 => ?_
                  obtain ⟨l39, h40, hm⟩ := bindS hm
                  refine SJ.append (k := 1) (R := fByte) h40 rfl Try.underlying22 el5 rfl rfl rfl (fun w hw => (hw.row_rd (k := 0) rfl)) rfl fun v41 => ?_
                  refine SJ.q (YldS.yld (y_assign rfl)) rfl ?_
                  refine SJ.nil ?_
                  refine PJ.block_normal (PJ.next ?_)
                  refine WJ.quiet ?_
                  refine QJ.step (YldS.yld (y_move rfl)) rfl ?_
                  refine QJ.step (YldS.yld (y_bin rfl rfl rfl)) rfl ?_
                  refine QJ.step (YldS.yld (y_assign rfl)) rfl ?_
                  refine QJ.done ?_
                  exact PJ.round (l39, v41, w64 (i34 - 1)) [1, 2, 3, 4, 5] hm ⟨rfl, rfl, rfl, rfl, rfl, rfl, rfl, rfl, trivial⟩ ⟨by decide, rfl⟩
                · replace hm := ifF hm hb35
                  refine WJ.exit ?_
                  refine PJ.then_exit (PJ.then_exit (PJ.block_exit ?_))
                  exact PJ.joined (l32, v33) [0, 1, 2, 3, 4] hm ⟨rfl, rfl, rfl, rfl, rfl, rfl, trivial⟩ ⟨by decide, rfl⟩
            · rintro ⟨l28, v29⟩ hm
              subst hk31
              refine WJ.reg ?_
              refine SJ.q (YldS.yld (y_fldB (o := 0) fld60_0 rfl)) rfl ?_
              refine SJ.q (YldS.yld (y_loadB (k := 2) (off := 0) (v := v15) rfl Try.isAgg24 rfl rfl)) rfl ?_
              refine SJ.q (YldS.yld (y_move rfl)) rfl ?_
              refine SJ.q (YldS.yld (y_b2s Try.underlying22 Try.underlying9 Try.underlying5 (fun w hw => ⟨_, (hw.row_rd (k := 0) rfl)⟩) rfl)) rfl ?_
              refine SJ.buildSlice (R := fStr) (os := [.tmp 38]) [l28] Try.runUnderlying24 Try.sizeOf9 Try.zeroValue9 rfl rfl rfl rfl rfl rfl fun v42 => ?_
              obtain ⟨l43, h44, hm⟩ := bindS hm
              refine SJ.append (k := 2) (R := fStr) h44 rfl Try.underlying24 el9 rfl rfl rfl (fun w hw => (hw.row_rd (k := 0) rfl)) rfl fun v45 => ?_
              refine SJ.q (YldS.yld (y_fldB (o := 0) fld60_0 rfl)) rfl ?_
              refine SJ.rowCells (k := 2) rfl fun hc46 => ?_
              refine SJ.storeL (k := 3) (off := 0) (us := [v45]) rfl rfl rfl hc46.1 Try.sizeOf24 rfl (by simp [hc46.2]) ?_
              refine SJ.nil ?_
              refine PJ.block_normal ?_
              exact PJ.joined (l43, v45) [2, 3, 4, 5] hm ⟨rfl, rfl, rfl, rfl, rfl, trivial⟩ ⟨by decide, rfl⟩
          · rintro ⟨l18, v19⟩ hm
            subst hk21
            refine WJ.quiet ?_
            refine QJ.step (YldS.yld (y_bin rfl rfl rfl)) rfl ?_
            refine QJ.step (YldS.yld (y_move rfl)) rfl ?_
            refine QJ.done ?_
            exact PJ.round (l18, v19, w64 (x16 + 1)) [0, 1, 2, 3] hm ⟨rfl, rfl, rfl, rfl, rfl, trivial⟩ ⟨by decide, rfl⟩
        · replace hm := ifF hm hb17
          refine WJ.exit ?_
          refine PJ.then_exit (PJ.then_exit (PJ.block_exit ?_))
          exact PJ.joined (l14, v15) [0, 1, 2, 3] hm ⟨rfl, rfl, trivial⟩ ⟨by decide, rfl⟩
    · rintro ⟨l10, v11⟩ hm
      subst hk13
      refine WJ.seq ?_
      refine WJ.reg ?_
      refine SJ.q (YldS.yld (y_loadBN (k := 1) (off := 0) (us := [v11]) rfl Try.isAgg60 Try.sizeOf60 rfl rfl)) rfl ?_
      refine SJ.rowCells (k := 0) rfl fun hc47 => ?_
      refine SJ.storeL (k := 3) (off := 0) (us := [v11]) rfl rfl rfl rfl Try.sizeOf60 rfl (by simp only [List.all_cons, hc47.2]; rfl) ?_
      refine SJ.erase 2 ?_
      refine SJ.q (YldS.yld (y_assign rfl)) rfl ?_
      refine SJ.nil ?_
      refine PJ.next ?_
      refine WJ.ret ?_
      obtain rfl := Option.some.inj hm
      exact PJ.retn_sel (vs := [.agg #[v11], .int .i64 0]) Try.results53 ⟨⟨2, g5, 60, [v11], rfl, rfl, .inl ⟨Try.isAgg60, Try.sizeOf60, rfl⟩⟩, rfl, trivial⟩ [0] ⟨by decide, rfl⟩ ⟨_, rfl, rfl⟩

set_option maxRecDepth 100000 in
set_option maxHeartbeats 1000000 in
theorem ok_s_MirrorLayout {N : Nat} {x1 : Layout} {r : Layout × Int} (hm : s_MirrorLayout N x1 = some r) (w : World) (v2 : Value) (hr3 : RdS w (cx w).Fz v2 fStr.rp x1.rows) :
    Calls Try.prog 54 #[.agg #[v2]] w (RetG (cx w) fun u L => ∃ (u1 : Value), (u = tup [.agg #[u1], .int .i64 r.2] ∧ L = [row u1 9 fStr r.1.rows])) := by
  unfold s_MirrorLayout at hm
  refine Calls.enter [.agg #[v2]] Try.func54 rfl Try.ntmps54 rfl ?_
  refine WJ.seq ?_
  refine WJ.reg ?_
  refine SJ.box (cs := [v2]) rfl rfl rfl fun g4 => ?_
  refine SJ.alloc (cs := [.slice none 0 0]) Try.zeroValue60 rfl rfl fun g5 => ?_
  refine SJ.nil_row 9 fStr ?_
  refine SJ.q (YldS.yld (y_assign rfl)) rfl ?_
  refine SJ.nil ?_
  refine PJ.next ?_
  refine WJ.seq ?_
  refine WJ.seq ?_
  refine WJ.quiet ?_
  obtain ⟨r6, h7, hm⟩ := bindS hm
  refine QJ.step (y_call Try.call111 rfl (RetG.quiet fun w hw => ok_s_l06Ok h7 w _ _ (hw.box_at (k := 2) rfl) (hr3.st hw))) rfl ?_
  refine QJ.step (YldS.yld (y_not rfl)) rfl ?_
  refine QJ.done ?_
  refine PJ.next ?_
  refine WJ.cond (t := !r6) rfl (fun hb8 => ?_) (fun hb8 => ?_)
  · replace hm := ifT hm hb8
    refine WJ.seq ?_
    refine WJ.reg ?_
    refine SJ.q (YldS.yld (y_build (parts := []) (places := [(0, 1)]) (r := [.slice none 0 0]) pl60 Try.zeroValue60 rfl rfl rfl rfl)) rfl ?_
    refine SJ.storeL (k := 1) (off := 0) (us := [.slice none 0 0]) rfl rfl rfl rfl Try.sizeOf60 rfl rfl ?_
    refine SJ.nil_row 9 fStr ?_
    refine SJ.erase 1 ?_
    refine SJ.q (YldS.yld (y_assign rfl)) rfl ?_
    refine SJ.nil ?_
    refine PJ.next ?_
    refine WJ.ret ?_
    refine PJ.then_ret ?_
    obtain rfl := Option.some.inj hm
    exact PJ.retn_sel (vs := [.agg #[(.slice none 0 0)], .int .i64 1]) Try.results54 ⟨⟨1, g5, 60, [(.slice none 0 0)], rfl, rfl, .inl ⟨Try.isAgg60, Try.sizeOf60, rfl⟩⟩, rfl, trivial⟩ [0] ⟨by decide, rfl⟩ ⟨_, rfl, rfl⟩
  · replace hm := ifF hm hb8
    refine WJ.skip ?_
    refine PJ.next ?_
    refine WJ.seq ?_
    refine WJ.reg ?_
    refine SJ.buildSlice (R := fStr) (os := []) [] Try.runUnderlying24 Try.sizeOf9 Try.zeroValue9 rfl rfl rfl rfl rfl rfl fun v9 => ?_
    refine SJ.rowCells (k := 0) rfl fun hc10 => ?_
    refine SJ.q (YldS.yld (y_build (parts := [(0, .tmp 11)]) (places := [(0, 1)]) (r := [v9]) pl60 Try.zeroValue60 rfl rfl (show _ = [(0, [v9])] from by simp only [List.map, hc10.1]; try rfl) rfl)) rfl ?_
    refine SJ.alloc (cs := [.slice none 0 0]) Try.zeroValue60 rfl rfl fun g11 => ?_
    refine SJ.nil_row 9 fStr ?_
    refine SJ.rowCells (k := 2) rfl fun hc12 => ?_
    refine SJ.storeL (k := 1) (off := 0) (us := [v9]) rfl rfl rfl rfl Try.sizeOf60 rfl (by simp only [List.all_cons, hc12.2]; rfl) ?_
    refine SJ.erase 0 ?_
    refine SJ.nil ?_
    refine PJ.next ?_
    obtain ⟨kj15, hk16, hm⟩ := withK_open hm
    refine WJ.join (X := (List Str) × Value) (fun (x : (List Str) × Value) => kj15 x.1 = some r) (fun (x : (List Str) × Value) => [(2, pt g5 0), (4, pt g11 0)]) (fun (x : (List Str) × Value) => [box g11 60 [x.2], row x.2 9 fStr x.1, row (.slice none 0 0) 9 fStr [], box g5 60 [(.slice none 0 0)]]) ?_ ?_
    · clear hk16
      refine WJ.seq ?_
      refine WJ.quiet ?_
      refine QJ.step (YldS.yld (y_assign rfl)) rfl ?_
      refine QJ.done ?_
      refine PJ.next ?_
      refine WJ.block ?_
      refine WJ.sel (L' := (fun (x : (List Str) × Value × Int) => [box g11 60 [x.2.1], row x.2.1 9 fStr x.1, row (.slice none 0 0) 9 fStr [], box g5 60 [(.slice none 0 0)], box g4 60 [v2]]) ([], v9, 0)) [0, 1, 2, 3, 4] ⟨by decide, rfl⟩ ?_
      refine WJ.sub (m' := (fun (x : (List Str) × Value × Int) => [(1, pt g4 0), (2, pt g5 0), (4, pt g11 0), (5, .int .i64 x.2.2)]) ([], v9, 0)) ⟨rfl, rfl, rfl, rfl, trivial⟩ ?_
      refine WJ.loop (X := (List Str) × Value × Int) (fun N (x : (List Str) × Value × Int) => s_MirrorLayout_l1 kj15 x1 N x.1 x.2.2 = some r) (fun (x : (List Str) × Value × Int) => [(1, pt g4 0), (2, pt g5 0), (4, pt g11 0), (5, .int .i64 x.2.2)]) (fun (x : (List Str) × Value × Int) => [box g11 60 [x.2.1], row x.2.1 9 fStr x.1, row (.slice none 0 0) 9 fStr [], box g5 60 [(.slice none 0 0)], box g4 60 [v2]]) ?_ N ([], v9, 0) hm
      · rintro N ⟨l17, v18, r19⟩ hI
        have hm := hI; clear hI
        cases N with
        | zero => cases hm
        | succ N =>
        unfold s_MirrorLayout_l1 at hm
        refine WJ.seq ?_
        refine WJ.seq ?_
        refine WJ.quiet ?_
        refine QJ.step (YldS.yld (y_move rfl)) rfl ?_
        refine QJ.step (YldS.yld (y_fldB (o := 0) fld60_0 rfl)) rfl ?_
        refine QJ.step (YldS.yld (y_loadB (k := 4) (off := 0) (v := v2) rfl Try.isAgg24 rfl rfl)) rfl ?_
        refine QJ.step (YldS.yld (y_lenS Try.runUnderlying24 hr3 rfl)) rfl ?_
        refine QJ.step (YldS.yld (y_bin rfl rfl rfl)) rfl ?_
        refine QJ.done ?_
        refine PJ.next ?_
        refine WJ.cond (t := decide (r19 < (List.length x1.rows : Int))) rfl (fun hb20 => ?_) (fun hb20 => ?_)
        · replace hm := ifT hm hb20
          refine WJ.skip ?_
          refine PJ.next ?_
          obtain ⟨kj23, hk24, hm⟩ := withK_open hm
          refine WJ.join (X := (List Str) × Value) (fun (x : (List Str) × Value) => kj23 x.1 = some r) (fun (x : (List Str) × Value) => [(1, pt g4 0), (2, pt g5 0), (4, pt g11 0), (5, .int .i64 r19)]) (fun (x : (List Str) × Value) => [box g11 60 [x.2], row x.2 9 fStr x.1, row (.slice none 0 0) 9 fStr [], box g5 60 [(.slice none 0 0)], box g4 60 [v2]]) ?_ ?_
          · clear hk24
            refine WJ.block ?_
            refine WJ.seq ?_
            refine WJ.reg ?_
            refine SJ.buildSlice (R := fByte) (os := []) [] Try.runUnderlying22 Try.sizeOf5 Try.zeroValue5 rfl rfl rfl rfl rfl rfl fun v25 => ?_
            refine SJ.q (YldS.yld (y_assign rfl)) rfl ?_
            refine SJ.nil ?_
            refine PJ.next ?_
            obtain ⟨kj28, hk29, hm⟩ := withK_open hm
            refine WJ.join (X := (List UInt8) × Value) (fun (x : (List UInt8) × Value) => kj28 x.1 = some r) (fun (x : (List UInt8) × Value) => [(1, pt g4 0), (2, pt g5 0), (4, pt g11 0), (5, .int .i64 r19), (6, x.2)]) (fun (x : (List UInt8) × Value) => [row x.2 5 fByte x.1, box g11 60 [v18], row v18 9 fStr l17, row (.slice none 0 0) 9 fStr [], box g5 60 [(.slice none 0 0)], box g4 60 [v2]]) ?_ ?_
            · clear hk29
              refine WJ.seq ?_
              refine WJ.quiet ?_
              refine QJ.step (YldS.yld (y_fldB (o := 0) fld60_0 rfl)) rfl ?_
              refine QJ.step (YldS.yld (y_loadB (k := 5) (off := 0) (v := v2) rfl Try.isAgg24 rfl rfl)) rfl ?_
              refine QJ.step (YldS.yld (y_move rfl)) rfl ?_
              obtain ⟨e30, h31, hm⟩ := bindS hm
              obtain ⟨ad32, _, rfl, ha33, hy34⟩ := hr3.elem h31
              refine QJ.step (YldS.yld (hy34 Try.runUnderlying24 Try.sizeOf9 rfl rfl)) rfl ?_
              refine QJ.step (YldS.yld (y_load1 (v := str e30) Try.isAgg9 ha33 St.frozenC rfl)) rfl ?_
              refine QJ.step (YldS.yld (y_lenStr Try.runUnderlying9 rfl)) rfl ?_
              refine QJ.step (YldS.yld (y_bin rfl rfl rfl)) rfl ?_
              refine QJ.step (YldS.yld (y_assign rfl)) rfl ?_
              refine QJ.done ?_
              refine PJ.next ?_
              refine WJ.block ?_
              refine WJ.sel (L' := (fun (x : (List UInt8) × Value × Int) => [row x.2.1 5 fByte x.1, box g11 60 [v18], row v18 9 fStr l17, row (.slice none 0 0) 9 fStr [], box g5 60 [(.slice none 0 0)], box g4 60 [v2]]) ([], v25, w64 ((List.length e30 : Int) - 1))) [0, 1, 2, 3, 4, 5] ⟨by decide, rfl⟩ ?_
              refine WJ.sub (m' := (fun (x : (List UInt8) × Value × Int) => [(1, pt g4 0), (2, pt g5 0), (4, pt g11 0), (5, .int .i64 r19), (6, x.2.1), (7, .int .i64 x.2.2)]) ([], v25, w64 ((List.length e30 : Int) - 1))) ⟨rfl, rfl, rfl, rfl, rfl, rfl, trivial⟩ ?_
              refine WJ.loop (X := (List UInt8) × Value × Int) (fun N (x : (List UInt8) × Value × Int) => s_MirrorLayout_l2 kj28 x1 r19 N x.1 x.2.2 = some r) (fun (x : (List UInt8) × Value × Int) => [(1, pt g4 0), (2, pt g5 0), (4, pt g11 0), (5, .int .i64 r19), (6, x.2.1), (7, .int .i64 x.2.2)]) (fun (x : (List UInt8) × Value × Int) => [row x.2.1 5 fByte x.1, box g11 60 [v18], row v18 9 fStr l17, row (.slice none 0 0) 9 fStr [], box g5 60 [(.slice none 0 0)], box g4 60 [v2]]) ?_ N ([], v25, w64 ((List.length e30 : Int) - 1)) hm
              · rintro N ⟨l35, v36, c37⟩ hI
                have hm := hI; clear hI
                cases N with
                | zero => cases hm
                | succ N =>
                unfold s_MirrorLayout_l2 at hm
                refine WJ.seq ?_
                refine WJ.seq ?_
                refine WJ.quiet ?_
                refine QJ.step (YldS.yld (y_move rfl)) rfl ?_
                refine QJ.step (YldS.yld (y_bin rfl rfl rfl)) rfl ?_
                refine QJ.done ?_
                refine PJ.next ?_
                refine WJ.cond (t := decide (c37 ≥ 0)) rfl (fun hb38 => ?_) (fun hb38 => ?_)
                · replace hm := ifT hm hb38
                  refine WJ.skip ?_
                  refine PJ.next ?_
                  refine WJ.seq ?_
                  refine WJ.block ?_
                  refine WJ.reg ?_
                  refine SJ.q (YldS.yld (y_move rfl)) rfl ?_
                  refine SJ.q (YldS.yld (y_fldB (o := 0) fld60_0 rfl)) rfl ?_
                  refine SJ.q (YldS.yld (y_loadB (k := 5) (off := 0) (v := v2) rfl Try.isAgg24 rfl rfl)) rfl ?_
                  refine SJ.q (YldS.yld (y_move rfl)) rfl ?_
                  obtain ⟨e39, h40, hm⟩ := bindS hm
                  obtain ⟨ad41, _, rfl, ha42, hy43⟩ := hr3.elem h40
                  refine SJ.q (YldS.yld (hy43 Try.runUnderlying24 Try.sizeOf9 rfl rfl)) rfl ?_
                  refine SJ.q (YldS.yld (y_load1 (v := str e39) Try.isAgg9 ha42 St.frozenC rfl)) rfl ?_
                  refine SJ.q (YldS.yld (y_move rfl)) rfl ?_
                  obtain ⟨c44, h45, hm⟩ := bindS hm
                  refine SJ.q (YldS.yld (y_idxStr Try.runUnderlying9 rfl rfl h45)) rfl ?_
                  refine SJ.buildSlice (R := fByte) (os := [.tmp 39]) [c44] Try.runUnderlying22 Try.sizeOf5 Try.zeroValue5 rfl rfl rfl rfl rfl rfl fun v46 => ?_
                  obtain ⟨l47, h48, hm⟩ := bindS hm
                  refine SJ.append (k := 1) (R := fByte) h48 rfl Try.underlying22 el5 rfl rfl rfl (fun w hw => (hw.row_rd (k := 0) rfl)) rfl fun v49 => ?_
                  refine SJ.q (YldS.yld (y_assign rfl)) rfl ?_
                  refine SJ.nil ?_
                  refine PJ.block_normal (PJ.next ?_)
                  refine WJ.quiet ?_
                  refine QJ.step (YldS.yld (y_move rfl)) rfl ?_
                  refine QJ.step (YldS.yld (y_bin rfl rfl rfl)) rfl ?_
                  refine QJ.step (YldS.yld (y_assign rfl)) rfl ?_
                  refine QJ.done ?_
                  exact PJ.round (l47, v49, w64 (c37 - 1)) [1, 2, 3, 4, 5, 6] hm ⟨rfl, rfl, rfl, rfl, rfl, rfl, trivial⟩ ⟨by decide, rfl⟩
                · replace hm := ifF hm hb38
                  refine WJ.exit ?_
                  refine PJ.then_exit (PJ.then_exit (PJ.block_exit ?_))
                  exact PJ.joined (l35, v36) [0, 1, 2, 3, 4, 5] hm ⟨rfl, rfl, rfl, rfl, rfl, trivial⟩ ⟨by decide, rfl⟩
            · rintro ⟨l26, v27⟩ hm
              subst hk29
              refine WJ.reg ?_
              refine SJ.q (YldS.yld (y_fldB (o := 0) fld60_0 rfl)) rfl ?_
              refine SJ.q (YldS.yld (y_loadB (k := 1) (off := 0) (v := v18) rfl Try.isAgg24 rfl rfl)) rfl ?_
              refine SJ.q (YldS.yld (y_move rfl)) rfl ?_
              refine SJ.q (YldS.yld (y_b2s Try.underlying22 Try.underlying9 Try.underlying5 (fun w hw => ⟨_, (hw.row_rd (k := 0) rfl)⟩) rfl)) rfl ?_
              refine SJ.buildSlice (R := fStr) (os := [.tmp 45]) [l26] Try.runUnderlying24 Try.sizeOf9 Try.zeroValue9 rfl rfl rfl rfl rfl rfl fun v50 => ?_
              obtain ⟨l51, h52, hm⟩ := bindS hm
              refine SJ.append (k := 3) (R := fStr) h52 rfl Try.underlying24 el9 rfl rfl rfl (fun w hw => (hw.row_rd (k := 0) rfl)) rfl fun v53 => ?_
              refine SJ.q (YldS.yld (y_fldB (o := 0) fld60_0 rfl)) rfl ?_
              refine SJ.rowCells (k := 3) rfl fun hc54 => ?_
              refine SJ.storeL (k := 2) (off := 0) (us := [v53]) rfl rfl rfl hc54.1 Try.sizeOf24 rfl (by simp [hc54.2]) ?_
              refine SJ.nil ?_
              refine PJ.block_normal ?_
              exact PJ.joined (l51, v53) [2, 3, 4, 5, 6] hm ⟨rfl, rfl, rfl, rfl, trivial⟩ ⟨by decide, rfl⟩
          · rintro ⟨l21, v22⟩ hm
            subst hk24
            refine WJ.quiet ?_
            refine QJ.step (YldS.yld (y_move rfl)) rfl ?_
            refine QJ.step (YldS.yld (y_bin rfl rfl rfl)) rfl ?_
            refine QJ.step (YldS.yld (y_assign rfl)) rfl ?_
            refine QJ.done ?_
            exact PJ.round (l21, v22, w64 (r19 + 1)) [0, 1, 2, 3, 4] hm ⟨rfl, rfl, rfl, rfl, trivial⟩ ⟨by decide, rfl⟩
        · replace hm := ifF hm hb20
          refine WJ.exit ?_
          refine PJ.then_exit (PJ.then_exit (PJ.block_exit ?_))
          exact PJ.joined (l17, v18) [0, 1, 2, 3] hm ⟨rfl, rfl, trivial⟩ ⟨by decide, rfl⟩
    · rintro ⟨l13, v14⟩ hm
      subst hk16
      refine WJ.seq ?_
      refine WJ.reg ?_
      refine SJ.q (YldS.yld (y_loadBN (k := 0) (off := 0) (us := [v14]) rfl Try.isAgg60 Try.sizeOf60 rfl rfl)) rfl ?_
      refine SJ.rowCells (k := 1) rfl fun hc55 => ?_
      refine SJ.storeL (k := 3) (off := 0) (us := [v14]) rfl rfl rfl rfl Try.sizeOf60 rfl (by simp only [List.all_cons, hc55.2]; rfl) ?_
      refine SJ.erase 2 ?_
      refine SJ.q (YldS.yld (y_assign rfl)) rfl ?_
      refine SJ.nil ?_
      refine PJ.next ?_
      refine WJ.ret ?_
      obtain rfl := Option.some.inj hm
      exact PJ.retn_sel (vs := [.agg #[v14], .int .i64 0]) Try.results54 ⟨⟨2, g5, 60, [v14], rfl, rfl, .inl ⟨Try.isAgg60, Try.sizeOf60, rfl⟩⟩, rfl, trivial⟩ [1] ⟨by decide, rfl⟩ ⟨_, rfl, rfl⟩

set_option maxRecDepth 100000 in
set_option maxHeartbeats 1000000 in
theorem ok_s_DrawRowShares {N : Nat} {code1 : List UInt8} {r : Layout × Str} (hm : s_DrawRowShares N code1 = some r) (w : World) (v2 : Value) (hr3 : RdS w (cx w).Fz v2 fByte.rp code1) :
    Calls Try.prog 55 #[v2] w (RetG (cx w) fun u L => ∃ (u1 : Value), (u = tup [.agg #[u1], str r.2] ∧ L = [row u1 9 fStr r.1.rows])) := by
  unfold s_DrawRowShares at hm
  refine Calls.enter [v2] Try.func55 rfl Try.ntmps55 rfl ?_
  refine WJ.seq ?_
  refine WJ.reg ?_
  refine SJ.alloc (cs := [.slice none 0 0]) Try.zeroValue60 rfl rfl fun g4 => ?_
  refine SJ.nil_row 9 fStr ?_
  refine SJ.q (YldS.yld (y_assign rfl)) rfl ?_
  refine SJ.nil ?_
  refine PJ.next ?_
  refine WJ.seq ?_
  refine WJ.reg ?_
  refine SJ.q (YldS.yld (y_move rfl)) rfl ?_
  obtain ⟨r5, h6, hm⟩ := bindS hm
  refine SJ.call Try.call64 rfl (fun w hw => ok_s_l00From h6 w _ (hr3.st hw)) rfl ?_
  rintro _ _ ⟨g7, rfl, rfl⟩
  refine SJ.q (YldS.yld (y_assign rfl)) rfl ?_
  refine SJ.nil ?_
  refine PJ.next ?_
  refine WJ.seq ?_
  refine WJ.reg ?_
  refine SJ.q (YldS.yld (y_move rfl)) rfl ?_
  obtain ⟨r8, h9, hm⟩ := bindS hm
  refine SJ.call1 (k := 0) rfl Try.call103 rfl (fun w S hw hA hO => ok_s_l06Bent h9 w S _ (hr3.st1 hw hO) hA) rfl ?_
  rintro _ _ ⟨v10, rfl, rfl⟩
  refine SJ.alloc (cs := [.slice none 0 0]) Try.zeroValue60 rfl rfl fun g11 => ?_
  refine SJ.nil_row 9 fStr ?_
  refine SJ.rowCells (k := 3) rfl fun hc12 => ?_
  refine SJ.storeL (k := 1) (off := 0) (us := [v10]) rfl rfl rfl rfl Try.sizeOf60 rfl (by simp only [List.all_cons, hc12.2]; rfl) ?_
  refine SJ.erase 0 ?_
  refine SJ.nil ?_
  refine PJ.next ?_
  refine WJ.seq ?_
  refine WJ.quiet ?_
  obtain ⟨r13, h14, hm⟩ := bindS hm
  refine QJ.step (y_call Try.call104 rfl (RetG.quiet fun w hw => ok_s_l06Text h14 w _ _ (hw.box_at (k := 0) rfl) (hw.row_rd (k := 2) rfl))) rfl ?_
  refine QJ.step (YldS.yld (y_assign rfl)) rfl ?_
  refine QJ.done ?_
  refine PJ.next ?_
  refine WJ.seq ?_
  refine WJ.quiet ?_
  refine QJ.step (YldS.yld (y_assign rfl)) rfl ?_
  refine QJ.done ?_
  refine PJ.next ?_
  obtain ⟨kj18, hk19, hm⟩ := withK_open hm
  refine WJ.join (X := Int × Int × Str) (fun (x : Int × Int × Str) => kj18 x.1 x.2.1 x.2.2 = some r) (fun (x : Int × Int × Str) => [(2, pt g4 0), (4, pt g7 0), (5, pt g11 0), (7, str x.2.2)]) (fun (x : Int × Int × Str) => [box g7 121 [v2, .int .i64 x.1, .int .u64 x.2.1], box g11 60 [v10], row v10 9 fStr r8.1.rows, row (.slice none 0 0) 9 fStr [], box g4 60 [(.slice none 0 0)]]) ?_ ?_
  · clear hk19
    refine WJ.seq ?_
    refine WJ.reg ?_
    refine SJ.q (YldS.yld (y_move rfl)) rfl ?_
    obtain ⟨r20, h21, hm⟩ := bindS hm
    refine SJ.call1 (k := 1) rfl Try.call82 rfl (fun w S hw hA hO => ok_s_l00Src_pick h21 w S _ (hr3.st1 hw hO) hA) rfl ?_
    rintro _ _ ⟨rfl, rfl⟩
    refine SJ.q (YldS.yld (y_assign rfl)) rfl ?_
    refine SJ.nil ?_
    refine PJ.next ?_
    refine WJ.block ?_
    refine WJ.sel (L' := (fun (x : Int × Int × Str × Int) => [box g7 121 [v2, .int .i64 x.1, .int .u64 x.2.1], box g11 60 [v10], row v10 9 fStr r8.1.rows, row (.slice none 0 0) 9 fStr [], box g4 60 [(.slice none 0 0)]]) (r20.2.at_, r20.2.seed, [], r20.1)) [0, 1, 2, 3, 4] ⟨by decide, rfl⟩ ?_
    refine WJ.sub (m' := (fun (x : Int × Int × Str × Int) => [(2, pt g4 0), (4, pt g7 0), (5, pt g11 0), (6, str r13), (7, str x.2.2.1), (8, .int .i64 x.2.2.2)]) (r20.2.at_, r20.2.seed, [], r20.1)) ⟨rfl, rfl, rfl, rfl, rfl, rfl, trivial⟩ ?_
    refine WJ.loop (X := Int × Int × Str × Int) (fun N (x : Int × Int × Str × Int) => s_DrawRowShares_l1 kj18 code1 r13 N x.1 x.2.1 x.2.2.1 x.2.2.2 = some r) (fun (x : Int × Int × Str × Int) => [(2, pt g4 0), (4, pt g7 0), (5, pt g11 0), (6, str r13), (7, str x.2.2.1), (8, .int .i64 x.2.2.2)]) (fun (x : Int × Int × Str × Int) => [box g7 121 [v2, .int .i64 x.1, .int .u64 x.2.1], box g11 60 [v10], row v10 9 fStr r8.1.rows, row (.slice none 0 0) 9 fStr [], box g4 60 [(.slice none 0 0)]]) ?_ N (r20.2.at_, r20.2.seed, [], r20.1) hm
    · rintro N ⟨x22, x23, text24, k25⟩ hI
      have hm := hI; clear hI
      cases N with
      | zero => cases hm
      | succ N =>
      unfold s_DrawRowShares_l1 at hm
      refine WJ.seq ?_
      refine WJ.seq ?_
      refine WJ.quiet ?_
      refine QJ.step (YldS.yld (y_move rfl)) rfl ?_
      refine QJ.step (YldS.yld (y_bin rfl rfl rfl)) rfl ?_
      refine QJ.step (YldS.yld (y_move rfl)) rfl ?_
      obtain ⟨t26, h27, hm⟩ := bindS hm
      refine QJ.cut 3 [(2, pt g4 0), (4, pt g7 0), (5, pt g11 0), (6, str r13), (7, str text24), (8, .int .i64 k25), (23, .bool t26)] ?_ ?_
      · rcases Bool.eq_false_or_eq_true (decide (k25 > 0)) with hb28 | hb28
        · replace h27 := andT h27 hb28
          refine QJ.on rfl rfl (cB hb28) (YldS.yld (y_move rfl)) rfl ?_
          refine QJ.on rfl rfl (cB hb28) (YldS.yld (y_binS rfl rfl rfl)) rfl ?_
          refine QJ.step (YldS.yld (y_pick_t (cB hb28) rfl)) rfl ?_
          obtain rfl := Option.some.inj h27
          exact QJ.cut_end ⟨rfl, rfl, rfl, rfl, rfl, rfl, rfl, trivial⟩
        · obtain rfl := andF h27 hb28
          refine QJ.off rfl rfl (cB hb28) rfl rfl ?_
          refine QJ.off rfl rfl (cB hb28) rfl rfl ?_
          refine QJ.step (YldS.yld (y_pick_f (cB hb28) rfl)) rfl ?_
          exact QJ.cut_end ⟨rfl, rfl, rfl, rfl, rfl, rfl, rfl, trivial⟩
      refine QJ.done ?_
      refine PJ.next ?_
      refine WJ.cond (t := t26) rfl (fun hb29 => ?_) (fun hb29 => ?_)
      · replace hm := ifT hm hb29
        refine WJ.skip ?_
        refine PJ.next ?_
        obtain ⟨kj33, hk34, hm⟩ := withK_open hm
        refine WJ.join (X := Int × Int × Str) (fun (x : Int × Int × Str) => kj33 x.1 x.2.1 x.2.2 = some r) (fun (x : Int × Int × Str) => [(2, pt g4 0), (4, pt g7 0), (5, pt g11 0), (6, str r13), (7, str x.2.2), (8, .int .i64 k25)]) (fun (x : Int × Int × Str) => [box g7 121 [v2, .int .i64 x.1, .int .u64 x.2.1], box g11 60 [v10], row v10 9 fStr r8.1.rows, row (.slice none 0 0) 9 fStr [], box g4 60 [(.slice none 0 0)]]) ?_ ?_
        · clear hk34
          refine WJ.block ?_
          refine WJ.seq ?_
          refine WJ.reg ?_
          refine SJ.q (YldS.yld (y_move rfl)) rfl ?_
          refine SJ.q (YldS.yld (y_move rfl)) rfl ?_
          refine SJ.q (YldS.yld (y_lenStr Try.runUnderlying9 rfl)) rfl ?_
          obtain ⟨r35, h36, hm⟩ := bindS hm
          refine SJ.call1 (k := 0) rfl Try.call82 rfl (fun w S hw hA hO => ok_s_l00Src_pick h36 w S _ (hr3.st1 hw hO) hA) rfl ?_
          rintro _ _ ⟨rfl, rfl⟩
          refine SJ.q (YldS.yld (y_assign rfl)) rfl ?_
          refine SJ.nil ?_
          refine PJ.next ?_
          refine WJ.seq ?_
          refine WJ.quiet ?_
          refine QJ.step (YldS.yld (y_move rfl)) rfl ?_
          refine QJ.step (YldS.yld (y_move rfl)) rfl ?_
          obtain ⟨c37, h38, hm⟩ := bindS hm
          refine QJ.step (YldS.yld (y_idxStr Try.runUnderlying9 rfl rfl h38)) rfl ?_
          refine QJ.step (YldS.yld (y_bin8 c37 (47 : UInt8) rfl rfl rfl)) rfl ?_
          refine QJ.done ?_
          refine PJ.next ?_
          refine WJ.cond (t := (c37 != (47 : UInt8))) rfl (fun hb39 => ?_) (fun hb39 => ?_)
          · replace hm := ifT hm hb39
            refine WJ.quiet ?_
            refine QJ.step (YldS.yld (y_move rfl)) rfl ?_
            refine QJ.step (YldS.yld (y_move rfl)) rfl ?_
            refine QJ.step (YldS.yld (y_move rfl)) rfl ?_
            refine QJ.step (YldS.yld (y_move rfl)) rfl ?_
            refine QJ.step (YldS.yld (y_bin rfl rfl rfl)) rfl ?_
            obtain ⟨s40, h41, hm⟩ := bindS hm
            refine QJ.step (YldS.yld (y_subStr (i := some r35.1) (j := some (w64 (r35.1 + 1))) h41 Try.runUnderlying9 rfl ⟨_, rfl⟩ ⟨_, rfl⟩)) rfl ?_
            obtain ⟨s42, h43, hm⟩ := bindS hm
            refine QJ.step (YldS.yld (y_cat h43 rfl rfl)) rfl ?_
            refine QJ.step (YldS.yld (y_assign rfl)) rfl ?_
            refine QJ.done ?_
            refine PJ.block_normal ?_
            exact PJ.joined (r35.2.at_, r35.2.seed, s42) [0, 1, 2, 3, 4] hm ⟨rfl, rfl, rfl, rfl, rfl, rfl, trivial⟩ ⟨by decide, rfl⟩
          · replace hm := ifF hm hb39
            refine WJ.skip ?_
            refine PJ.block_normal ?_
            exact PJ.joined (r35.2.at_, r35.2.seed, text24) [0, 1, 2, 3, 4] hm ⟨rfl, rfl, rfl, rfl, rfl, rfl, trivial⟩ ⟨by decide, rfl⟩
        · rintro ⟨x30, x31, text32⟩ hm
          subst hk34
          refine WJ.quiet ?_
          refine QJ.step (YldS.yld (y_move rfl)) rfl ?_
          refine QJ.step (YldS.yld (y_bin rfl rfl rfl)) rfl ?_
          refine QJ.step (YldS.yld (y_assign rfl)) rfl ?_
          refine QJ.done ?_
          exact PJ.round (x30, x31, text32, w64 (k25 - 1)) [0, 1, 2, 3, 4] hm ⟨rfl, rfl, rfl, rfl, rfl, rfl, trivial⟩ ⟨by decide, rfl⟩
      · replace hm := ifF hm hb29
        refine WJ.exit ?_
        refine PJ.then_exit (PJ.then_exit (PJ.block_exit ?_))
        exact PJ.joined (x22, x23, text24) [0, 1, 2, 3, 4] hm ⟨rfl, rfl, rfl, rfl, trivial⟩ ⟨by decide, rfl⟩
  · rintro ⟨x15, x16, text17⟩ hm
    subst hk19
    obtain ⟨kj45, hk46, hm⟩ := withK_open hm
    refine WJ.join (X := Str) (fun (x : Str) => kj45 x = some r) (fun (x : Str) => [(2, pt g4 0), (5, pt g11 0), (7, str x)]) (fun (x : Str) => [box g11 60 [v10], row v10 9 fStr r8.1.rows, row (.slice none 0 0) 9 fStr [], box g4 60 [(.slice none 0 0)]]) ?_ ?_
    · clear hk46
      refine WJ.seq ?_
      refine WJ.reg ?_
      refine SJ.q (YldS.yld (y_move rfl)) rfl ?_
      obtain ⟨r47, h48, hm⟩ := bindS hm
      refine SJ.call1 (k := 0) rfl Try.call82 rfl (fun w S hw hA hO => ok_s_l00Src_pick h48 w S _ (hr3.st1 hw hO) hA) rfl ?_
      rintro _ _ ⟨rfl, rfl⟩
      refine SJ.nil ?_
      refine PJ.next ?_
      refine WJ.block ?_
      refine WJ.seq ?_
      refine WJ.quiet ?_
      refine QJ.step (YldS.yld (y_bin rfl rfl rfl)) rfl ?_
      refine QJ.step (YldS.yld (y_assign rfl)) rfl ?_
      refine QJ.done ?_
      refine PJ.next ?_
      refine WJ.cond (t := (r47.1 == 0)) rfl (fun hb49 => ?_) (fun hb49 => ?_)
      · replace hm := ifT hm hb49
        refine WJ.reg ?_
        refine SJ.q (YldS.yld (y_move rfl)) rfl ?_
        refine SJ.q (YldS.yld (y_move rfl)) rfl ?_
        refine SJ.buildSlice (R := fStr) (os := [.const (str [126]), .const (str [32]), .const (str [127])]) ([[126], [32], [127]] : List Str) Try.runUnderlying24 Try.sizeOf9 Try.zeroValue9 rfl rfl rfl rfl rfl rfl fun v50 => ?_
        obtain ⟨r51, h52, hm⟩ := bindS hm
        refine SJ.call2 (k := 1) rfl Try.call81 rfl (fun w S hw hA hO hB => ok_s_l00Src_text h52 w S _ (hr3.st1 hw hO) _ (hB.row_rd (j := 0) (k := 1) rfl rfl) hA) rfl ?_
        rintro _ _ ⟨rfl, rfl⟩
        obtain ⟨s53, h54, hm⟩ := bindS hm
        refine SJ.q (YldS.yld (y_cat h54 rfl rfl)) rfl ?_
        refine SJ.q (YldS.yld (y_assign rfl)) rfl ?_
        refine SJ.nil ?_
        refine PJ.block_normal ?_
        exact PJ.joined s53 [2, 3, 4, 5] hm ⟨rfl, rfl, rfl, trivial⟩ ⟨by decide, rfl⟩
      · replace hm := ifF hm hb49
        refine WJ.seq ?_
        refine WJ.quiet ?_
        refine QJ.step (YldS.yld (y_bin rfl rfl rfl)) rfl ?_
        refine QJ.step (YldS.yld (y_assign rfl)) rfl ?_
        refine QJ.done ?_
        refine PJ.next ?_
        refine WJ.cond (t := (r47.1 == 1)) rfl (fun hb55 => ?_) (fun hb55 => ?_)
        · replace hm := ifT hm hb55
          refine WJ.seq ?_
          refine WJ.reg ?_
          refine SJ.q (YldS.yld (y_move rfl)) rfl ?_
          obtain ⟨r56, h57, hm⟩ := bindS hm
          refine SJ.call1 (k := 0) rfl Try.call82 rfl (fun w S hw hA hO => ok_s_l00Src_pick h57 w S _ (hr3.st1 hw hO) hA) rfl ?_
          rintro _ _ ⟨rfl, rfl⟩
          refine SJ.q (YldS.yld (y_bin rfl rfl rfl)) rfl ?_
          refine SJ.q (YldS.yld (y_assign rfl)) rfl ?_
          refine SJ.nil ?_
          refine PJ.next ?_
          refine WJ.block ?_
          refine WJ.sel (L' := (fun (x : Str) => [box g11 60 [v10], row v10 9 fStr r8.1.rows, row (.slice none 0 0) 9 fStr [], box g4 60 [(.slice none 0 0)]]) text17) [1, 2, 3, 4] ⟨by decide, rfl⟩ ?_
          refine WJ.sub (m' := (fun (x : Str) => [(2, pt g4 0), (5, pt g11 0), (7, str x), (10, .int .i64 (w64 (100 + r56.1)))]) text17) ⟨rfl, rfl, rfl, rfl, trivial⟩ ?_
          refine WJ.loop (X := Str) (fun N (x : Str) => s_DrawRowShares_l2 kj45 r56 N x = some r) (fun (x : Str) => [(2, pt g4 0), (5, pt g11 0), (7, str x), (10, .int .i64 (w64 (100 + r56.1)))]) (fun (x : Str) => [box g11 60 [v10], row v10 9 fStr r8.1.rows, row (.slice none 0 0) 9 fStr [], box g4 60 [(.slice none 0 0)]]) ?_ N text17 hm
          · rintro N text58 hI
            have hm := hI; clear hI
            cases N with
            | zero => cases hm
            | succ N =>
            unfold s_DrawRowShares_l2 at hm
            refine WJ.seq ?_
            refine WJ.seq ?_
            refine WJ.quiet ?_
            refine QJ.step (YldS.yld (y_move rfl)) rfl ?_
            refine QJ.step (YldS.yld (y_lenStr Try.runUnderlying9 rfl)) rfl ?_
            refine QJ.step (YldS.yld (y_move rfl)) rfl ?_
            refine QJ.step (YldS.yld (y_bin rfl rfl rfl)) rfl ?_
            refine QJ.done ?_
            refine PJ.next ?_
            refine WJ.cond (t := decide ((List.length text58 : Int) < (w64 (100 + r56.1)))) rfl (fun hb59 => ?_) (fun hb59 => ?_)
            · replace hm := ifT hm hb59
              refine WJ.skip ?_
              refine PJ.next ?_
              refine WJ.block ?_
              refine WJ.quiet ?_
              refine QJ.step (YldS.yld (y_move rfl)) rfl ?_
              obtain ⟨s60, h61, hm⟩ := bindS hm
              refine QJ.step (YldS.yld (y_cat h61 rfl rfl)) rfl ?_
              refine QJ.step (YldS.yld (y_assign rfl)) rfl ?_
              refine QJ.done ?_
              refine PJ.block_normal ?_
              exact PJ.round s60 [0, 1, 2, 3] hm ⟨rfl, rfl, rfl, rfl, trivial⟩ ⟨by decide, rfl⟩
            · replace hm := ifF hm hb59
              refine WJ.exit ?_
              refine PJ.then_exit (PJ.then_exit (PJ.block_exit (PJ.block_normal ?_)))
              exact PJ.joined text58 [0, 1, 2, 3] hm ⟨rfl, rfl, rfl, trivial⟩ ⟨by decide, rfl⟩
        · replace hm := ifF hm hb55
          refine WJ.skip ?_
          refine PJ.block_normal ?_
          exact PJ.joined text17 [1, 2, 3, 4] hm ⟨rfl, rfl, rfl, trivial⟩ ⟨by decide, rfl⟩
    · rintro text44 hm
      subst hk46
      refine WJ.seq ?_
      refine WJ.reg ?_
      refine SJ.q (YldS.yld (y_loadBN (k := 0) (off := 0) (us := [v10]) rfl Try.isAgg60 Try.sizeOf60 rfl rfl)) rfl ?_
      refine SJ.q (YldS.yld (y_move rfl)) rfl ?_
      refine SJ.rowCells (k := 1) rfl fun hc62 => ?_
      refine SJ.storeL (k := 3) (off := 0) (us := [v10]) rfl rfl rfl rfl Try.sizeOf60 rfl (by simp only [List.all_cons, hc62.2]; rfl) ?_
      refine SJ.erase 2 ?_
      refine SJ.q (YldS.yld (y_assign rfl)) rfl ?_
      refine SJ.nil ?_
      refine PJ.next ?_
      refine WJ.ret ?_
      obtain rfl := Option.some.inj hm
      exact PJ.retn_sel (vs := [.agg #[v10], str text44]) Try.results55 ⟨⟨2, g4, 60, [v10], rfl, rfl, .inl ⟨Try.isAgg60, Try.sizeOf60, rfl⟩⟩, rfl, trivial⟩ [1] ⟨by decide, rfl⟩ ⟨_, rfl, rfl⟩

set_option maxRecDepth 100000 in
set_option maxHeartbeats 1000000 in
theorem ok_i_RowShares {N : Nat} {x1 : Layout} {text4 : Str} {r : (List Int) × Int} (hm : i_RowShares N x1 text4 = some r) (w : World) (v2 : Value) (hr3 : RdS w (cx w).Fz v2 fStr.rp x1.rows) :
    Calls Try.prog 56 #[.agg #[v2], str text4] w (RetG (cx w) fun u L => ∃ (u1 : Value), (u = tup [u1, .int .i64 r.2] ∧ L = [row u1 2 fI64 r.1])) := by
  unfold i_RowShares at hm
  refine Calls.enter [.agg #[v2], str text4] Try.func56 rfl Try.ntmps56 rfl ?_
  refine WJ.seq ?_
  refine WJ.reg ?_
  refine SJ.box (cs := [v2]) rfl rfl rfl fun g5 => ?_
  refine SJ.q (YldS.yld (y_assign rfl)) rfl ?_
  refine SJ.q (YldS.yld (y_assign rfl)) rfl ?_
  refine SJ.nil ?_
  refine PJ.next ?_
  refine WJ.seq ?_
  refine WJ.seq ?_
  refine WJ.quiet ?_
  refine QJ.step (YldS.yld (y_loadBN (k := 0) (off := 0) (us := [v2]) rfl Try.isAgg60 Try.sizeOf60 rfl rfl)) rfl ?_
  obtain ⟨r6, h7, hm⟩ := bindS hm
  refine QJ.step (y_call Try.call61 rfl (RetG.quiet fun w hw => ok_i_ValidLayout h7 w _ (hr3.st hw))) rfl ?_
  refine QJ.step (YldS.yld (y_not rfl)) rfl ?_
  refine QJ.done ?_
  refine PJ.next ?_
  refine WJ.cond (t := !r6) rfl (fun hb8 => ?_) (fun hb8 => ?_)
  · replace hm := ifT hm hb8
    refine WJ.seq ?_
    refine WJ.quiet ?_
    refine QJ.step (YldS.yld (y_assign rfl)) rfl ?_
    refine QJ.step (YldS.yld (y_assign rfl)) rfl ?_
    refine QJ.done ?_
    refine PJ.next ?_
    refine WJ.ret ?_
    refine PJ.then_ret ?_
    refine PJ.nil_row 2 fI64 ?_
    obtain rfl := Option.some.inj hm
    refine PJ.sel (L' := [row (.slice none 0 0) 2 fI64 []]) [0] ⟨by decide, rfl⟩ ?_
    exact PJ.retn (vs := [(.slice none 0 0), .int .i64 1]) Try.results56 ⟨rfl, rfl, trivial⟩ ⟨_, rfl, rfl⟩
  · replace hm := ifF hm hb8
    refine WJ.skip ?_
    refine PJ.next ?_
    refine WJ.seq ?_
    refine WJ.seq ?_
    refine WJ.quiet ?_
    refine QJ.step (YldS.yld (y_move rfl)) rfl ?_
    obtain ⟨r9, h10, hm⟩ := bindS hm
    refine QJ.step (y_call Try.call72 rfl (RetG.quiet fun w hw => ok_i_isText h10 w )) rfl ?_
    refine QJ.step (YldS.yld (y_not rfl)) rfl ?_
    refine QJ.done ?_
    refine PJ.next ?_
    refine WJ.cond (t := !r9) rfl (fun hb11 => ?_) (fun hb11 => ?_)
    · replace hm := ifT hm hb11
      refine WJ.seq ?_
      refine WJ.quiet ?_
      refine QJ.step (YldS.yld (y_assign rfl)) rfl ?_
      refine QJ.step (YldS.yld (y_assign rfl)) rfl ?_
      refine QJ.done ?_
      refine PJ.next ?_
      refine WJ.ret ?_
      refine PJ.then_ret ?_
      refine PJ.nil_row 2 fI64 ?_
      obtain rfl := Option.some.inj hm
      refine PJ.sel (L' := [row (.slice none 0 0) 2 fI64 []]) [0] ⟨by decide, rfl⟩ ?_
      exact PJ.retn (vs := [(.slice none 0 0), .int .i64 2]) Try.results56 ⟨rfl, rfl, trivial⟩ ⟨_, rfl, rfl⟩
    · replace hm := ifF hm hb11
      refine WJ.skip ?_
      refine PJ.next ?_
      refine WJ.seq ?_
      refine WJ.reg ?_
      refine SJ.q (YldS.yld (y_fldB (o := 0) fld60_0 rfl)) rfl ?_
      refine SJ.q (YldS.yld (y_loadB (k := 0) (off := 0) (v := v2) rfl Try.isAgg24 rfl rfl)) rfl ?_
      refine SJ.q (YldS.yld (y_lenS Try.runUnderlying24 hr3 rfl)) rfl ?_
      obtain ⟨l12, h13, hm⟩ := bindS hm
      refine SJ.makeSlice (R := fI64) (z := 0) h13 Try.underlying27 el2 rfl rfl rfl fun v14 => ?_
      refine SJ.q (YldS.yld (y_assign rfl)) rfl ?_
      refine SJ.nil ?_
      refine PJ.next ?_
      obtain ⟨kj16, hk17, hm⟩ := withK_open hm
      refine WJ.join (X := (List Int)) (fun (x : (List Int)) => kj16 x = some r) (fun (x : (List Int)) => [(6, v14)]) (fun (x : (List Int)) => [row v14 2 fI64 x]) ?_ ?_
      · clear hk17
        refine WJ.seq ?_
        refine WJ.quiet ?_
        refine QJ.step (YldS.yld (y_move rfl)) rfl ?_
        refine QJ.step (YldS.yld (y_lenStr Try.runUnderlying9 rfl)) rfl ?_
        refine QJ.step (YldS.yld (y_move rfl)) rfl ?_
        refine QJ.done ?_
        refine PJ.next ?_
        refine WJ.block ?_
        refine WJ.sel (L' := (fun (x : (List Int) × Int) => [row v14 2 fI64 x.1, box g5 60 [v2]]) (l12, 0)) [0, 1] ⟨by decide, rfl⟩ ?_
        refine WJ.sub (m' := (fun (x : (List Int) × Int) => [(1, str text4), (2, pt g5 0), (6, v14), (22, .int .i64 (List.length text4 : Int)), (23, .int .i64 x.2)]) (l12, 0)) ⟨rfl, rfl, rfl, rfl, rfl, trivial⟩ ?_
        refine WJ.loop (X := (List Int) × Int) (fun N (x : (List Int) × Int) => i_RowShares_l1 kj16 x1 text4 N x.1 x.2 = some r) (fun (x : (List Int) × Int) => [(1, str text4), (2, pt g5 0), (6, v14), (22, .int .i64 (List.length text4 : Int)), (23, .int .i64 x.2)]) (fun (x : (List Int) × Int) => [row v14 2 fI64 x.1, box g5 60 [v2]]) ?_ N (l12, 0) hm
        · rintro N ⟨l18, x19⟩ hI
          have hm := hI; clear hI
          cases N with
          | zero => cases hm
          | succ N =>
          unfold i_RowShares_l1 at hm
          refine WJ.seq ?_
          refine WJ.quiet ?_
          refine QJ.step (YldS.yld (y_bin rfl rfl rfl)) rfl ?_
          refine QJ.done ?_
          refine PJ.next ?_
          refine WJ.seq ?_
          refine WJ.cond (t := decide (x19 < (List.length text4 : Int))) rfl (fun hb20 => ?_) (fun hb20 => ?_)
          · replace hm := ifT hm hb20
            refine WJ.skip ?_
            refine PJ.next ?_
            refine WJ.seq ?_
            refine WJ.block ?_
            refine WJ.seq ?_
            refine WJ.quiet ?_
            refine QJ.step (YldS.yld (y_move rfl)) rfl ?_
            refine QJ.step (YldS.yld (y_assign rfl)) rfl ?_
            refine QJ.done ?_
            refine PJ.next ?_
            refine WJ.seq ?_
            refine WJ.quiet_draw follows (by kernel_rfl) ?_
            refine QJ.step (YldS.yld (y_loadBN (k := 1) (off := 0) (us := [v2]) rfl Try.isAgg60 Try.sizeOf60 rfl rfl)) rfl ?_
            refine QJ.step (YldS.yld (y_move rfl)) rfl ?_
            refine QJ.step (YldS.yld (y_move rfl)) rfl ?_
            obtain ⟨c21, h22, hm⟩ := bindS hm
            refine QJ.step (YldS.yld (y_idxStr Try.runUnderlying9 rfl rfl h22)) rfl ?_
            obtain ⟨r23, h24, hm⟩ := bindS hm
            refine QJ.step (y_call Try.call109 rfl (RetG.quiet fun w hw => ok_i_Layout_spot h24 w _ (hr3.st hw))) rfl ?_
            refine QJ.step (YldS.yld (y_move rfl)) rfl ?_
            refine QJ.step (YldS.yld (y_extract rfl rfl)) rfl ?_
            refine QJ.step (YldS.yld (y_extract rfl rfl)) rfl ?_
            refine QJ.step (YldS.yld (y_extract rfl rfl)) rfl ?_
            refine QJ.step (YldS.yld (y_assign rfl)) rfl ?_
            refine QJ.step (YldS.yld (y_assign rfl)) rfl ?_
            refine QJ.step (YldS.yld (y_assign rfl)) rfl ?_
            refine QJ.done ?_
            refine PJ.next ?_
            refine WJ.seq ?_
            refine WJ.seq ?_
            refine WJ.quiet ?_
            refine QJ.step (YldS.yld (y_move rfl)) rfl ?_
            refine QJ.step (YldS.yld (y_not rfl)) rfl ?_
            refine QJ.done ?_
            refine PJ.next ?_
            refine WJ.cond (t := !r23.2.2) rfl (fun hb25 => ?_) (fun hb25 => ?_)
            · replace hm := ifT hm hb25
              refine WJ.seq ?_
              refine WJ.quiet ?_
              refine QJ.step (YldS.yld (y_assign rfl)) rfl ?_
              refine QJ.step (YldS.yld (y_assign rfl)) rfl ?_
              refine QJ.done ?_
              refine PJ.next ?_
              refine WJ.ret ?_
              refine PJ.then_ret (PJ.block_ret (PJ.then_ret (PJ.then_ret (PJ.block_ret (PJ.then_ret ?_)))))
              refine PJ.nil_row 2 fI64 ?_
              obtain rfl := Option.some.inj hm
              refine PJ.sel (L' := [row (.slice none 0 0) 2 fI64 []]) [0] ⟨by decide, rfl⟩ ?_
              exact PJ.retn (vs := [(.slice none 0 0), .int .i64 3]) Try.results56 ⟨rfl, rfl, trivial⟩ ⟨_, rfl, rfl⟩
            · replace hm := ifF hm hb25
              refine WJ.skip ?_
              refine PJ.next ?_
              refine WJ.reg ?_
              refine SJ.q (YldS.yld (y_move rfl)) rfl ?_
              refine SJ.q (YldS.yld (y_move rfl)) rfl ?_
              obtain ⟨e26, h27, hm⟩ := bindS hm
              refine SJ.q (YldS.yld (y_ixRow (k := 0) (R := fI64) rfl Try.runUnderlying27 Try.sizeOf2 rfl rfl h27)) rfl ?_
              refine SJ.q (YldS.yld (y_loadR (k := 0) (i := (Int.toNat r23.1)) (off := 0) (u := .int .i64 e26) rfl Try.isAgg2 rfl (idx_get h27) rfl)) rfl ?_
              refine SJ.q (YldS.yld (y_bin rfl rfl rfl)) rfl ?_
              obtain ⟨e28, h29, hm⟩ := bindS hm
              refine SJ.q (YldS.yld (y_ixRow (k := 0) (R := fI64) rfl Try.runUnderlying27 Try.sizeOf2 rfl rfl h29)) rfl ?_
              refine SJ.storeRL (k := 0) (i := (Int.toNat r23.1)) (off := 0) (us := [.int .i64 (w64 (e26 + 1))]) (b := w64 (e26 + 1)) rfl rfl (idx_get h29) rfl rfl Try.sizeOf2 rfl rfl rfl ?_
              refine SJ.nil ?_
              refine PJ.block_normal (PJ.next ?_)
              refine WJ.quiet ?_
              refine QJ.step (YldS.yld (y_bin rfl rfl rfl)) rfl ?_
              refine QJ.step (YldS.yld (y_move rfl)) rfl ?_
              refine QJ.done ?_
              exact PJ.round ((List.set l18 (Int.toNat r23.1) (w64 (e26 + 1))), w64 (x19 + 1)) [0, 1] hm ⟨rfl, rfl, rfl, rfl, rfl, trivial⟩ ⟨by decide, rfl⟩
          · replace hm := ifF hm hb20
            refine WJ.exit ?_
            refine PJ.then_exit (PJ.then_exit (PJ.block_exit ?_))
            exact PJ.joined l18 [0] hm ⟨rfl, trivial⟩ ⟨by decide, rfl⟩
      · rintro l15 hm
        subst hk17
        refine WJ.seq ?_
        refine WJ.quiet ?_
        refine QJ.step (YldS.yld (y_move rfl)) rfl ?_
        refine QJ.step (YldS.yld (y_assign rfl)) rfl ?_
        refine QJ.step (YldS.yld (y_assign rfl)) rfl ?_
        refine QJ.done ?_
        refine PJ.next ?_
        refine WJ.ret ?_
        obtain rfl := Option.some.inj hm
        refine PJ.sel (L' := [row v14 2 fI64 l15]) [0] ⟨by decide, rfl⟩ ?_
        exact PJ.retn (vs := [v14, .int .i64 0]) Try.results56 ⟨rfl, rfl, trivial⟩ ⟨_, rfl, rfl⟩

set_option maxRecDepth 100000 in
set_option maxHeartbeats 1000000 in
theorem ok_s_l02Text {N : Nat} {s1 : Str} {r : Bool} (hm : s_l02Text N s1 = some r) (w : World)  :
    Calls Try.prog 115 #[str s1] w (Ret (cx w) (.bool r)) := by
  unfold s_l02Text at hm
  refine Calls.enter [str s1] Try.func115 rfl Try.ntmps115 rfl ?_
  refine WJ.seq ?_
  refine WJ.quiet ?_
  refine QJ.step (YldS.yld (y_assign rfl)) rfl ?_
  refine QJ.done ?_
  refine PJ.next ?_
  obtain ⟨kj2, hk3, hm⟩ := withK_open hm
  refine WJ.join (X := Unit) (fun (_ : Unit) => kj2  = some r) (fun (_ : Unit) => [(0, str s1)]) (fun (_ : Unit) => []) ?_ ?_
  · clear hk3
    refine WJ.seq ?_
    refine WJ.quiet ?_
    refine QJ.step (YldS.yld (y_assign rfl)) rfl ?_
    refine QJ.done ?_
    refine PJ.next ?_
    refine WJ.block ?_
    refine WJ.sel (L' := (fun (x : Int) => []) 0) [] ⟨List.nodup_nil, rfl⟩ ?_
    refine WJ.sub (m' := (fun (x : Int) => [(0, str s1), (3, .int .i64 x)]) 0) ⟨rfl, rfl, trivial⟩ ?_
    refine WJ.loop (X := Int) (fun N (x : Int) => s_l02Text_l1 kj2 s1 N x = some r) (fun (x : Int) => [(0, str s1), (3, .int .i64 x)]) (fun (x : Int) => []) ?_ N 0 hm
    · rintro N i4 hI
      have hm := hI; clear hI
      cases N with
      | zero => cases hm
      | succ N =>
      unfold s_l02Text_l1 at hm
      refine WJ.seq ?_
      refine WJ.seq ?_
      refine WJ.quiet ?_
      refine QJ.step (YldS.yld (y_move rfl)) rfl ?_
      refine QJ.step (YldS.yld (y_move rfl)) rfl ?_
      refine QJ.step (YldS.yld (y_lenStr Try.runUnderlying9 rfl)) rfl ?_
      refine QJ.step (YldS.yld (y_bin rfl rfl rfl)) rfl ?_
      refine QJ.done ?_
      refine PJ.next ?_
      refine WJ.cond (t := decide (i4 < (List.length s1 : Int))) rfl (fun hb5 => ?_) (fun hb5 => ?_)
      · replace hm := ifT hm hb5
        refine WJ.skip ?_
        refine PJ.next ?_
        refine WJ.seq ?_
        refine WJ.block ?_
        refine WJ.seq ?_
        refine WJ.quiet ?_
        refine QJ.step (YldS.yld (y_move rfl)) rfl ?_
        refine QJ.step (YldS.yld (y_move rfl)) rfl ?_
        obtain ⟨c6, h7, hm⟩ := bindS hm
        refine QJ.step (YldS.yld (y_idxStr Try.runUnderlying9 rfl rfl h7)) rfl ?_
        refine QJ.step (YldS.yld (y_bin8 c6 (33 : UInt8) rfl rfl rfl)) rfl ?_
        refine QJ.step (YldS.yld (y_move rfl)) rfl ?_
        obtain ⟨t8, h9, hm⟩ := bindS hm
        refine QJ.cut 5 [(0, str s1), (3, .int .i64 i4), (19, .bool t8)] ?_ ?_
        · rcases Bool.eq_false_or_eq_true (decide (c6 < (33 : UInt8))) with hb10 | hb10
          · obtain rfl := orT h9 hb10
            refine QJ.off rfl rfl (cB hb10) rfl rfl ?_
            refine QJ.off rfl rfl (cB hb10) rfl rfl ?_
            refine QJ.off rfl rfl (cB hb10) rfl rfl ?_
            refine QJ.off rfl rfl (cB hb10) rfl rfl ?_
            refine QJ.step (YldS.yld (y_pick_t (cB hb10) rfl)) rfl ?_
            exact QJ.cut_end ⟨rfl, rfl, rfl, trivial⟩
          · replace h9 := orF h9 hb10
            refine QJ.on rfl rfl (cB hb10) (YldS.yld (y_move rfl)) rfl ?_
            refine QJ.on rfl rfl (cB hb10) (YldS.yld (y_move rfl)) rfl ?_
            obtain ⟨c11, h12, h9⟩ := bindS h9
            refine QJ.on rfl rfl (cB hb10) (YldS.yld (y_idxStr Try.runUnderlying9 rfl rfl h12)) rfl ?_
            refine QJ.on rfl rfl (cB hb10) (YldS.yld (y_bin8 c11 (126 : UInt8) rfl rfl rfl)) rfl ?_
            refine QJ.step (YldS.yld (y_pick_f (cB hb10) rfl)) rfl ?_
            obtain rfl := Option.some.inj h9
            exact QJ.cut_end ⟨rfl, rfl, rfl, trivial⟩
        refine QJ.done ?_
        refine PJ.next ?_
        refine WJ.cond (t := t8) rfl (fun hb13 => ?_) (fun hb13 => ?_)
        · replace hm := ifT hm hb13
          refine WJ.seq ?_
          refine WJ.quiet ?_
          refine QJ.step (YldS.yld (y_assign rfl)) rfl ?_
          refine QJ.done ?_
          refine PJ.next ?_
          refine WJ.ret ?_
          refine PJ.block_ret (PJ.then_ret (PJ.then_ret (PJ.block_ret (PJ.then_ret ?_))))
          obtain rfl := Option.some.inj hm
          refine PJ.sel (L' := []) [] ⟨List.nodup_nil, rfl⟩ ?_
          exact PJ.retn (vs := [.bool false]) Try.results115 ⟨rfl, trivial⟩ ⟨rfl, rfl⟩
        · replace hm := ifF hm hb13
          refine WJ.skip ?_
          refine PJ.block_normal (PJ.next ?_)
          refine WJ.quiet ?_
          refine QJ.step (YldS.yld (y_move rfl)) rfl ?_
          refine QJ.step (YldS.yld (y_bin rfl rfl rfl)) rfl ?_
          refine QJ.step (YldS.yld (y_assign rfl)) rfl ?_
          refine QJ.done ?_
          exact PJ.round (w64 (i4 + 1)) [] hm ⟨rfl, rfl, trivial⟩ ⟨List.nodup_nil, rfl⟩
      · replace hm := ifF hm hb5
        refine WJ.exit ?_
        refine PJ.then_exit (PJ.then_exit (PJ.block_exit ?_))
        exact PJ.joined () [] hm ⟨rfl, trivial⟩ ⟨List.nodup_nil, rfl⟩
  · rintro _ hm
    subst hk3
    refine WJ.seq ?_
    refine WJ.quiet ?_
    refine QJ.step (YldS.yld (y_move rfl)) rfl ?_
    refine QJ.step (YldS.yld (y_lenStr Try.runUnderlying9 rfl)) rfl ?_
    refine QJ.step (YldS.yld (y_bin rfl rfl rfl)) rfl ?_
    refine QJ.step (YldS.yld (y_assign rfl)) rfl ?_
    refine QJ.done ?_
    refine PJ.next ?_
    refine WJ.ret ?_
    obtain rfl := Option.some.inj hm
    refine PJ.sel (L' := []) [] ⟨List.nodup_nil, rfl⟩ ?_
    exact PJ.retn (vs := [.bool (decide ((List.length s1 : Int) ≤ 100))]) Try.results115 ⟨rfl, trivial⟩ ⟨rfl, rfl⟩

set_option maxRecDepth 100000 in
set_option maxHeartbeats 1000000 in
theorem ok_s_RowShares {N : Nat} {x1 : Layout} {text4 : Str} {r : (List Int) × Int} (hm : s_RowShares N x1 text4 = some r) (w : World) (v2 : Value) (hr3 : RdS w (cx w).Fz v2 fStr.rp x1.rows) :
    Calls Try.prog 57 #[.agg #[v2], str text4] w (RetG (cx w) fun u L => ∃ (u1 : Value), (u = tup [u1, .int .i64 r.2] ∧ L = [row u1 2 fI64 r.1])) := by
  unfold s_RowShares at hm
  refine Calls.enter [.agg #[v2], str text4] Try.func57 rfl Try.ntmps57 rfl ?_
  refine WJ.seq ?_
  refine WJ.reg ?_
  refine SJ.box (cs := [v2]) rfl rfl rfl fun g5 => ?_
  refine SJ.q (YldS.yld (y_assign rfl)) rfl ?_
  refine SJ.q (YldS.yld (y_assign rfl)) rfl ?_
  refine SJ.nil ?_
  refine PJ.next ?_
  refine WJ.seq ?_
  refine WJ.seq ?_
  refine WJ.quiet ?_
  obtain ⟨r6, h7, hm⟩ := bindS hm
  refine QJ.step (y_call Try.call111 rfl (RetG.quiet fun w hw => ok_s_l06Ok h7 w _ _ (hw.box_at (k := 0) rfl) (hr3.st hw))) rfl ?_
  refine QJ.step (YldS.yld (y_not rfl)) rfl ?_
  refine QJ.done ?_
  refine PJ.next ?_
  refine WJ.cond (t := !r6) rfl (fun hb8 => ?_) (fun hb8 => ?_)
  · replace hm := ifT hm hb8
    refine WJ.seq ?_
    refine WJ.quiet ?_
    refine QJ.step (YldS.yld (y_assign rfl)) rfl ?_
    refine QJ.step (YldS.yld (y_assign rfl)) rfl ?_
    refine QJ.done ?_
    refine PJ.next ?_
    refine WJ.ret ?_
    refine PJ.then_ret ?_
    refine PJ.nil_row 2 fI64 ?_
    obtain rfl := Option.some.inj hm
    refine PJ.sel (L' := [row (.slice none 0 0) 2 fI64 []]) [0] ⟨by decide, rfl⟩ ?_
    exact PJ.retn (vs := [(.slice none 0 0), .int .i64 1]) Try.results57 ⟨rfl, rfl, trivial⟩ ⟨_, rfl, rfl⟩
  · replace hm := ifF hm hb8
    refine WJ.skip ?_
    refine PJ.next ?_
    refine WJ.seq ?_
    refine WJ.seq ?_
    refine WJ.quiet ?_
    refine QJ.step (YldS.yld (y_move rfl)) rfl ?_
    obtain ⟨r9, h10, hm⟩ := bindS hm
    refine QJ.step (y_call Try.call115 rfl (RetG.quiet fun w hw => ok_s_l02Text h10 w )) rfl ?_
    refine QJ.step (YldS.yld (y_not rfl)) rfl ?_
    refine QJ.done ?_
    refine PJ.next ?_
    refine WJ.cond (t := !r9) rfl (fun hb11 => ?_) (fun hb11 => ?_)
    · replace hm := ifT hm hb11
      refine WJ.seq ?_
      refine WJ.quiet ?_
      refine QJ.step (YldS.yld (y_assign rfl)) rfl ?_
      refine QJ.step (YldS.yld (y_assign rfl)) rfl ?_
      refine QJ.done ?_
      refine PJ.next ?_
      refine WJ.ret ?_
      refine PJ.then_ret ?_
      refine PJ.nil_row 2 fI64 ?_
      obtain rfl := Option.some.inj hm
      refine PJ.sel (L' := [row (.slice none 0 0) 2 fI64 []]) [0] ⟨by decide, rfl⟩ ?_
      exact PJ.retn (vs := [(.slice none 0 0), .int .i64 2]) Try.results57 ⟨rfl, rfl, trivial⟩ ⟨_, rfl, rfl⟩
    · replace hm := ifF hm hb11
      refine WJ.skip ?_
      refine PJ.next ?_
      refine WJ.seq ?_
      refine WJ.reg ?_
      refine SJ.q (YldS.yld (y_fldB (o := 0) fld60_0 rfl)) rfl ?_
      refine SJ.q (YldS.yld (y_loadB (k := 0) (off := 0) (v := v2) rfl Try.isAgg24 rfl rfl)) rfl ?_
      refine SJ.q (YldS.yld (y_lenS Try.runUnderlying24 hr3 rfl)) rfl ?_
      obtain ⟨l12, h13, hm⟩ := bindS hm
      refine SJ.makeSlice (R := fI64) (z := 0) h13 Try.underlying27 el2 rfl rfl rfl fun v14 => ?_
      refine SJ.q (YldS.yld (y_assign rfl)) rfl ?_
      refine SJ.nil ?_
      refine PJ.next ?_
      obtain ⟨kj16, hk17, hm⟩ := withK_open hm
      refine WJ.join (X := (List Int)) (fun (x : (List Int)) => kj16 x = some r) (fun (x : (List Int)) => [(6, v14)]) (fun (x : (List Int)) => [row v14 2 fI64 x]) ?_ ?_
      · clear hk17
        refine WJ.seq ?_
        refine WJ.quiet ?_
        refine QJ.step (YldS.yld (y_assign rfl)) rfl ?_
        refine QJ.done ?_
        refine PJ.next ?_
        refine WJ.block ?_
        refine WJ.sel (L' := (fun (x : (List Int) × Int) => [row v14 2 fI64 x.1, box g5 60 [v2]]) (l12, 0)) [0, 1] ⟨by decide, rfl⟩ ?_
        refine WJ.sub (m' := (fun (x : (List Int) × Int) => [(1, str text4), (2, pt g5 0), (6, v14), (7, .int .i64 x.2)]) (l12, 0)) ⟨rfl, rfl, rfl, rfl, trivial⟩ ?_
        refine WJ.loop (X := (List Int) × Int) (fun N (x : (List Int) × Int) => s_RowShares_l1 kj16 x1 text4 N x.1 x.2 = some r) (fun (x : (List Int) × Int) => [(1, str text4), (2, pt g5 0), (6, v14), (7, .int .i64 x.2)]) (fun (x : (List Int) × Int) => [row v14 2 fI64 x.1, box g5 60 [v2]]) ?_ N (l12, 0) hm
        · rintro N ⟨l18, i19⟩ hI
          have hm := hI; clear hI
          cases N with
          | zero => cases hm
          | succ N =>
          unfold s_RowShares_l1 at hm
          refine WJ.seq ?_
          refine WJ.seq ?_
          refine WJ.quiet ?_
          refine QJ.step (YldS.yld (y_move rfl)) rfl ?_
          refine QJ.step (YldS.yld (y_move rfl)) rfl ?_
          refine QJ.step (YldS.yld (y_lenStr Try.runUnderlying9 rfl)) rfl ?_
          refine QJ.step (YldS.yld (y_bin rfl rfl rfl)) rfl ?_
          refine QJ.done ?_
          refine PJ.next ?_
          refine WJ.cond (t := decide (i19 < (List.length text4 : Int))) rfl (fun hb20 => ?_) (fun hb20 => ?_)
          · replace hm := ifT hm hb20
            refine WJ.skip ?_
            refine PJ.next ?_
            refine WJ.seq ?_
            refine WJ.block ?_
            refine WJ.seq ?_
            refine WJ.quiet_draw follows (by kernel_rfl) ?_
            refine QJ.step (YldS.yld (y_fldB (o := 0) fld60_0 rfl)) rfl ?_
            refine QJ.step (YldS.yld (y_loadB (k := 1) (off := 0) (v := v2) rfl Try.isAgg24 rfl rfl)) rfl ?_
            refine QJ.step (YldS.yld (y_move rfl)) rfl ?_
            refine QJ.step (YldS.yld (y_move rfl)) rfl ?_
            obtain ⟨c21, h22, hm⟩ := bindS hm
            refine QJ.step (YldS.yld (y_idxStr Try.runUnderlying9 rfl rfl h22)) rfl ?_
            obtain ⟨r23, h24, hm⟩ := bindS hm
            refine QJ.step (y_call Try.call113 rfl (RetG.quiet fun w hw => ok_s_l06At h24 w _ (hr3.st hw))) rfl ?_
            refine QJ.step (YldS.yld (y_move rfl)) rfl ?_
            refine QJ.step (YldS.yld (y_extract rfl rfl)) rfl ?_
            refine QJ.step (YldS.yld (y_extract rfl rfl)) rfl ?_
            refine QJ.step (YldS.yld (y_assign rfl)) rfl ?_
            refine QJ.step (YldS.yld (y_assign rfl)) rfl ?_
            refine QJ.done ?_
            refine PJ.next ?_
            refine WJ.seq ?_
            refine WJ.seq ?_
            refine WJ.quiet ?_
            refine QJ.step (YldS.yld (y_move rfl)) rfl ?_
            refine QJ.step (YldS.yld (y_bin rfl rfl rfl)) rfl ?_
            refine QJ.done ?_
            refine PJ.next ?_
            refine WJ.cond (t := decide (r23.1 < 0)) rfl (fun hb25 => ?_) (fun hb25 => ?_)
            · replace hm := ifT hm hb25
              refine WJ.seq ?_
              refine WJ.quiet ?_
              refine QJ.step (YldS.yld (y_assign rfl)) rfl ?_
              refine QJ.step (YldS.yld (y_assign rfl)) rfl ?_
              refine QJ.done ?_
              refine PJ.next ?_
              refine WJ.ret ?_
              refine PJ.then_ret (PJ.block_ret (PJ.then_ret (PJ.then_ret (PJ.block_ret (PJ.then_ret ?_)))))
              refine PJ.nil_row 2 fI64 ?_
              obtain rfl := Option.some.inj hm
              refine PJ.sel (L' := [row (.slice none 0 0) 2 fI64 []]) [0] ⟨by decide, rfl⟩ ?_
              exact PJ.retn (vs := [(.slice none 0 0), .int .i64 3]) Try.results57 ⟨rfl, rfl, trivial⟩ ⟨_, rfl, rfl⟩
            · replace hm := ifF hm hb25
              refine WJ.skip ?_
              refine PJ.next ?_
              refine WJ.reg ?_
              refine SJ.q (YldS.yld (y_move rfl)) rfl ?_
              refine SJ.q (YldS.yld (y_move rfl)) rfl ?_
              obtain ⟨e26, h27, hm⟩ := bindS hm
              refine SJ.q (YldS.yld (y_ixRow (k := 0) (R := fI64) rfl Try.runUnderlying27 Try.sizeOf2 rfl rfl h27)) rfl ?_
              refine SJ.q (YldS.yld (y_loadR (k := 0) (i := (Int.toNat r23.1)) (off := 0) (u := .int .i64 e26) rfl Try.isAgg2 rfl (idx_get h27) rfl)) rfl ?_
              refine SJ.q (YldS.yld (y_bin rfl rfl rfl)) rfl ?_
              obtain ⟨e28, h29, hm⟩ := bindS hm
              refine SJ.q (YldS.yld (y_ixRow (k := 0) (R := fI64) rfl Try.runUnderlying27 Try.sizeOf2 rfl rfl h29)) rfl ?_
              refine SJ.storeRL (k := 0) (i := (Int.toNat r23.1)) (off := 0) (us := [.int .i64 (w64 (e26 + 1))]) (b := w64 (e26 + 1)) rfl rfl (idx_get h29) rfl rfl Try.sizeOf2 rfl rfl rfl ?_
              refine SJ.nil ?_
              refine PJ.block_normal (PJ.next ?_)
              refine WJ.quiet ?_
              refine QJ.step (YldS.yld (y_move rfl)) rfl ?_
              refine QJ.step (YldS.yld (y_bin rfl rfl rfl)) rfl ?_
              refine QJ.step (YldS.yld (y_assign rfl)) rfl ?_
              refine QJ.done ?_
              exact PJ.round ((List.set l18 (Int.toNat r23.1) (w64 (e26 + 1))), w64 (i19 + 1)) [0, 1] hm ⟨rfl, rfl, rfl, rfl, trivial⟩ ⟨by decide, rfl⟩
          · replace hm := ifF hm hb20
            refine WJ.exit ?_
            refine PJ.then_exit (PJ.then_exit (PJ.block_exit ?_))
            exact PJ.joined l18 [0] hm ⟨rfl, trivial⟩ ⟨by decide, rfl⟩
      · rintro l15 hm
        subst hk17
        refine WJ.seq ?_
        refine WJ.quiet ?_
        refine QJ.step (YldS.yld (y_move rfl)) rfl ?_
        refine QJ.step (YldS.yld (y_assign rfl)) rfl ?_
        refine QJ.step (YldS.yld (y_assign rfl)) rfl ?_
        refine QJ.done ?_
        refine PJ.next ?_
        refine WJ.ret ?_
        obtain rfl := Option.some.inj hm
        refine PJ.sel (L' := [row v14 2 fI64 l15]) [0] ⟨by decide, rfl⟩ ?_
        exact PJ.retn (vs := [v14, .int .i64 0]) Try.results57 ⟨rfl, rfl, trivial⟩ ⟨_, rfl, rfl⟩

set_option maxRecDepth 100000 in
set_option maxHeartbeats 1000000 in
theorem ok_s_SameLayout {N : Nat} {a1 : Layout} {b4 : Layout} {r : Bool} (hm : s_SameLayout N a1 b4 = some r) (w : World) (v2 : Value) (hr3 : RdS w (cx w).Fz v2 fStr.rp a1.rows) (v5 : Value) (hr6 : RdS w (cx w).Fz v5 fStr.rp b4.rows) :
    Calls Try.prog 58 #[.agg #[v2], .agg #[v5]] w (Ret (cx w) (.bool r)) := by
  unfold s_SameLayout at hm
  refine Calls.enter [.agg #[v2], .agg #[v5]] Try.func58 rfl Try.ntmps58 rfl ?_
  refine WJ.seq ?_
  refine WJ.reg ?_
  refine SJ.box (cs := [v2]) rfl rfl rfl fun g7 => ?_
  refine SJ.box (cs := [v5]) rfl rfl rfl fun g8 => ?_
  refine SJ.q (YldS.yld (y_assign rfl)) rfl ?_
  refine SJ.nil ?_
  refine PJ.next ?_
  refine WJ.seq ?_
  refine WJ.seq ?_
  refine WJ.quiet ?_
  refine QJ.step (YldS.yld (y_fldB (o := 0) fld60_0 rfl)) rfl ?_
  refine QJ.step (YldS.yld (y_loadB (k := 1) (off := 0) (v := v2) rfl Try.isAgg24 rfl rfl)) rfl ?_
  refine QJ.step (YldS.yld (y_lenS Try.runUnderlying24 hr3 rfl)) rfl ?_
  refine QJ.step (YldS.yld (y_fldB (o := 0) fld60_0 rfl)) rfl ?_
  refine QJ.step (YldS.yld (y_loadB (k := 0) (off := 0) (v := v5) rfl Try.isAgg24 rfl rfl)) rfl ?_
  refine QJ.step (YldS.yld (y_lenS Try.runUnderlying24 hr6 rfl)) rfl ?_
  refine QJ.step (YldS.yld (y_bin rfl rfl rfl)) rfl ?_
  refine QJ.done ?_
  refine PJ.next ?_
  refine WJ.cond (t := ((List.length a1.rows : Int) != (List.length b4.rows : Int))) rfl (fun hb9 => ?_) (fun hb9 => ?_)
  · replace hm := ifT hm hb9
    refine WJ.seq ?_
    refine WJ.quiet ?_
    refine QJ.step (YldS.yld (y_assign rfl)) rfl ?_
    refine QJ.done ?_
    refine PJ.next ?_
    refine WJ.ret ?_
    refine PJ.then_ret ?_
    obtain rfl := Option.some.inj hm
    refine PJ.sel (L' := []) [] ⟨List.nodup_nil, rfl⟩ ?_
    exact PJ.retn (vs := [.bool false]) Try.results58 ⟨rfl, trivial⟩ ⟨rfl, rfl⟩
  · replace hm := ifF hm hb9
    refine WJ.skip ?_
    refine PJ.next ?_
    obtain ⟨kj10, hk11, hm⟩ := withK_open hm
    refine WJ.join (X := Unit) (fun (_ : Unit) => kj10  = some r) (fun (_ : Unit) => []) (fun (_ : Unit) => []) ?_ ?_
    · clear hk11
      refine WJ.seq ?_
      refine WJ.quiet ?_
      refine QJ.step (YldS.yld (y_assign rfl)) rfl ?_
      refine QJ.done ?_
      refine PJ.next ?_
      refine WJ.block ?_
      refine WJ.sel (L' := (fun (x : Int) => [box g8 60 [v5], box g7 60 [v2]]) 0) [0, 1] ⟨by decide, rfl⟩ ?_
      refine WJ.sub (m' := (fun (x : Int) => [(2, pt g7 0), (3, pt g8 0), (5, .int .i64 x)]) 0) ⟨rfl, rfl, rfl, trivial⟩ ?_
      refine WJ.loop (X := Int) (fun N (x : Int) => s_SameLayout_l1 kj10 a1 b4 N x = some r) (fun (x : Int) => [(2, pt g7 0), (3, pt g8 0), (5, .int .i64 x)]) (fun (x : Int) => [box g8 60 [v5], box g7 60 [v2]]) ?_ N 0 hm
      · rintro N i12 hI
        have hm := hI; clear hI
        cases N with
        | zero => cases hm
        | succ N =>
        unfold s_SameLayout_l1 at hm
        refine WJ.seq ?_
        refine WJ.seq ?_
        refine WJ.quiet ?_
        refine QJ.step (YldS.yld (y_move rfl)) rfl ?_
        refine QJ.step (YldS.yld (y_fldB (o := 0) fld60_0 rfl)) rfl ?_
        refine QJ.step (YldS.yld (y_loadB (k := 1) (off := 0) (v := v2) rfl Try.isAgg24 rfl rfl)) rfl ?_
        refine QJ.step (YldS.yld (y_lenS Try.runUnderlying24 hr3 rfl)) rfl ?_
        refine QJ.step (YldS.yld (y_bin rfl rfl rfl)) rfl ?_
        refine QJ.done ?_
        refine PJ.next ?_
        refine WJ.cond (t := decide (i12 < (List.length a1.rows : Int))) rfl (fun hb13 => ?_) (fun hb13 => ?_)
        · replace hm := ifT hm hb13
          refine WJ.skip ?_
          refine PJ.next ?_
          refine WJ.seq ?_
          refine WJ.block ?_
          refine WJ.seq ?_
          refine WJ.quiet_draw follows (by kernel_rfl) ?_
          refine QJ.step (YldS.yld (y_fldB (o := 0) fld60_0 rfl)) rfl ?_
          refine QJ.step (YldS.yld (y_loadB (k := 1) (off := 0) (v := v2) rfl Try.isAgg24 rfl rfl)) rfl ?_
          refine QJ.step (YldS.yld (y_move rfl)) rfl ?_
          obtain ⟨e14, h15, hm⟩ := bindS hm
          obtain ⟨ad16, _, rfl, ha17, hy18⟩ := hr3.elem h15
          refine QJ.step (YldS.yld (hy18 Try.runUnderlying24 Try.sizeOf9 rfl rfl)) rfl ?_
          refine QJ.step (YldS.yld (y_load1 (v := str e14) Try.isAgg9 ha17 St.frozenC rfl)) rfl ?_
          refine QJ.step (YldS.yld (y_fldB (o := 0) fld60_0 rfl)) rfl ?_
          refine QJ.step (YldS.yld (y_loadB (k := 0) (off := 0) (v := v5) rfl Try.isAgg24 rfl rfl)) rfl ?_
          refine QJ.step (YldS.yld (y_move rfl)) rfl ?_
          obtain ⟨e19, h20, hm⟩ := bindS hm
          obtain ⟨ad21, _, rfl, ha22, hy23⟩ := hr6.elem h20
          refine QJ.step (YldS.yld (hy23 Try.runUnderlying24 Try.sizeOf9 rfl rfl)) rfl ?_
          refine QJ.step (YldS.yld (y_load1 (v := str e19) Try.isAgg9 ha22 St.frozenC rfl)) rfl ?_
          refine QJ.step (YldS.yld (y_binS rfl rfl rfl)) rfl ?_
          refine QJ.done ?_
          refine PJ.next ?_
          refine WJ.cond (t := (e14 != e19)) rfl (fun hb24 => ?_) (fun hb24 => ?_)
          · replace hm := ifT hm hb24
            refine WJ.seq ?_
            refine WJ.quiet ?_
            refine QJ.step (YldS.yld (y_assign rfl)) rfl ?_
            refine QJ.done ?_
            refine PJ.next ?_
            refine WJ.ret ?_
            refine PJ.block_ret (PJ.then_ret (PJ.then_ret (PJ.block_ret (PJ.then_ret ?_))))
            obtain rfl := Option.some.inj hm
            refine PJ.sel (L' := []) [] ⟨List.nodup_nil, rfl⟩ ?_
            exact PJ.retn (vs := [.bool false]) Try.results58 ⟨rfl, trivial⟩ ⟨rfl, rfl⟩
          · replace hm := ifF hm hb24
            refine WJ.skip ?_
            refine PJ.block_normal (PJ.next ?_)
            refine WJ.quiet ?_
            refine QJ.step (YldS.yld (y_move rfl)) rfl ?_
            refine QJ.step (YldS.yld (y_bin rfl rfl rfl)) rfl ?_
            refine QJ.step (YldS.yld (y_assign rfl)) rfl ?_
            refine QJ.done ?_
            exact PJ.round (w64 (i12 + 1)) [0, 1] hm ⟨rfl, rfl, rfl, trivial⟩ ⟨by decide, rfl⟩
        · replace hm := ifF hm hb13
          refine WJ.exit ?_
          refine PJ.then_exit (PJ.then_exit (PJ.block_exit ?_))
          exact PJ.joined () [] hm trivial ⟨List.nodup_nil, rfl⟩
    · rintro _ hm
      subst hk11
      refine WJ.seq ?_
      refine WJ.quiet ?_
      refine QJ.step (YldS.yld (y_assign rfl)) rfl ?_
      refine QJ.done ?_
      refine PJ.next ?_
      refine WJ.ret ?_
      obtain rfl := Option.some.inj hm
      refine PJ.sel (L' := []) [] ⟨List.nodup_nil, rfl⟩ ?_
      exact PJ.retn (vs := [.bool true]) Try.results58 ⟨rfl, trivial⟩ ⟨rfl, rfl⟩

set_option maxRecDepth 100000 in
set_option maxHeartbeats 1000000 in
theorem ok_w_f6ints {N : Nat} {a1 : List Int} {b4 : List Int} {r : Bool} (hm : w_f6ints N a1 b4 = some r) (w : World) (v2 : Value) (hr3 : RdS w (cx w).Fz v2 fI64.rp a1) (v5 : Value) (hr6 : RdS w (cx w).Fz v5 fI64.rp b4) :
    Calls Try.prog 39 #[v2, v5] w (Ret (cx w) (.bool r)) := by
  unfold w_f6ints at hm
  refine Calls.enter [v2, v5] Try.func39 rfl Try.ntmps39 rfl ?_
  refine WJ.seq ?_
  refine WJ.quiet ?_
  refine QJ.step (YldS.yld (y_assign rfl)) rfl ?_
  refine QJ.done ?_
  refine PJ.next ?_
  refine WJ.seq ?_
  refine WJ.seq ?_
  refine WJ.quiet ?_
  refine QJ.step (YldS.yld (y_move rfl)) rfl ?_
  refine QJ.step (YldS.yld (y_lenS Try.runUnderlying27 hr3 rfl)) rfl ?_
  refine QJ.step (YldS.yld (y_move rfl)) rfl ?_
  refine QJ.step (YldS.yld (y_lenS Try.runUnderlying27 hr6 rfl)) rfl ?_
  refine QJ.step (YldS.yld (y_bin rfl rfl rfl)) rfl ?_
  refine QJ.done ?_
  refine PJ.next ?_
  refine WJ.cond (t := ((List.length a1 : Int) != (List.length b4 : Int))) rfl (fun hb7 => ?_) (fun hb7 => ?_)
  · replace hm := ifT hm hb7
    refine WJ.seq ?_
    refine WJ.quiet ?_
    refine QJ.step (YldS.yld (y_assign rfl)) rfl ?_
    refine QJ.done ?_
    refine PJ.next ?_
    refine WJ.ret ?_
    refine PJ.then_ret ?_
    obtain rfl := Option.some.inj hm
    refine PJ.sel (L' := []) [] ⟨List.nodup_nil, rfl⟩ ?_
    exact PJ.retn (vs := [.bool false]) Try.results39 ⟨rfl, trivial⟩ ⟨rfl, rfl⟩
  · replace hm := ifF hm hb7
    refine WJ.skip ?_
    refine PJ.next ?_
    obtain ⟨kj8, hk9, hm⟩ := withK_open hm
    refine WJ.join (X := Unit) (fun (_ : Unit) => kj8  = some r) (fun (_ : Unit) => []) (fun (_ : Unit) => []) ?_ ?_
    · clear hk9
      refine WJ.seq ?_
      refine WJ.quiet ?_
      refine QJ.step (YldS.yld (y_assign rfl)) rfl ?_
      refine QJ.done ?_
      refine PJ.next ?_
      refine WJ.block ?_
      refine WJ.sel (L' := (fun (x : Int) => []) 0) [] ⟨List.nodup_nil, rfl⟩ ?_
      refine WJ.sub (m' := (fun (x : Int) => [(0, v2), (1, v5), (5, .int .i64 x)]) 0) ⟨rfl, rfl, rfl, trivial⟩ ?_
      refine WJ.loop (X := Int) (fun N (x : Int) => w_f6ints_l1 kj8 a1 b4 N x = some r) (fun (x : Int) => [(0, v2), (1, v5), (5, .int .i64 x)]) (fun (x : Int) => []) ?_ N 0 hm
      · rintro N i10 hI
        have hm := hI; clear hI
        cases N with
        | zero => cases hm
        | succ N =>
        unfold w_f6ints_l1 at hm
        refine WJ.seq ?_
        refine WJ.seq ?_
        refine WJ.quiet ?_
        refine QJ.step (YldS.yld (y_move rfl)) rfl ?_
        refine QJ.step (YldS.yld (y_move rfl)) rfl ?_
        refine QJ.step (YldS.yld (y_lenS Try.runUnderlying27 hr3 rfl)) rfl ?_
        refine QJ.step (YldS.yld (y_bin rfl rfl rfl)) rfl ?_
        refine QJ.done ?_
        refine PJ.next ?_
        refine WJ.cond (t := decide (i10 < (List.length a1 : Int))) rfl (fun hb11 => ?_) (fun hb11 => ?_)
        · replace hm := ifT hm hb11
          refine WJ.skip ?_
          refine PJ.next ?_
          refine WJ.seq ?_
          refine WJ.block ?_
          refine WJ.seq ?_
          refine WJ.quiet_draw follows (by kernel_rfl) ?_
          refine QJ.step (YldS.yld (y_move rfl)) rfl ?_
          refine QJ.step (YldS.yld (y_move rfl)) rfl ?_
          obtain ⟨e12, h13, hm⟩ := bindS hm
          obtain ⟨ad14, _, rfl, ha15, hy16⟩ := hr3.elem h13
          refine QJ.step (YldS.yld (hy16 Try.runUnderlying27 Try.sizeOf2 rfl rfl)) rfl ?_
          refine QJ.step (YldS.yld (y_load1 (v := .int .i64 e12) Try.isAgg2 ha15 St.frozenC rfl)) rfl ?_
          refine QJ.step (YldS.yld (y_move rfl)) rfl ?_
          refine QJ.step (YldS.yld (y_move rfl)) rfl ?_
          obtain ⟨e17, h18, hm⟩ := bindS hm
          obtain ⟨ad19, _, rfl, ha20, hy21⟩ := hr6.elem h18
          refine QJ.step (YldS.yld (hy21 Try.runUnderlying27 Try.sizeOf2 rfl rfl)) rfl ?_
          refine QJ.step (YldS.yld (y_load1 (v := .int .i64 e17) Try.isAgg2 ha20 St.frozenC rfl)) rfl ?_
          refine QJ.step (YldS.yld (y_bin rfl rfl rfl)) rfl ?_
          refine QJ.done ?_
          refine PJ.next ?_
          refine WJ.cond (t := (e12 != e17)) rfl (fun hb22 => ?_) (fun hb22 => ?_)
          · replace hm := ifT hm hb22
            refine WJ.seq ?_
            refine WJ.quiet ?_
            refine QJ.step (YldS.yld (y_assign rfl)) rfl ?_
            refine QJ.done ?_
            refine PJ.next ?_
            refine WJ.ret ?_
            refine PJ.block_ret (PJ.then_ret (PJ.then_ret (PJ.block_ret (PJ.then_ret ?_))))
            obtain rfl := Option.some.inj hm
            refine PJ.sel (L' := []) [] ⟨List.nodup_nil, rfl⟩ ?_
            exact PJ.retn (vs := [.bool false]) Try.results39 ⟨rfl, trivial⟩ ⟨rfl, rfl⟩
          · replace hm := ifF hm hb22
            refine WJ.skip ?_
            refine PJ.block_normal (PJ.next ?_)
            refine WJ.quiet ?_
            refine QJ.step (YldS.yld (y_move rfl)) rfl ?_
            refine QJ.step (YldS.yld (y_bin rfl rfl rfl)) rfl ?_
            refine QJ.step (YldS.yld (y_assign rfl)) rfl ?_
            refine QJ.done ?_
            exact PJ.round (w64 (i10 + 1)) [] hm ⟨rfl, rfl, rfl, trivial⟩ ⟨List.nodup_nil, rfl⟩
        · replace hm := ifF hm hb11
          refine WJ.exit ?_
          refine PJ.then_exit (PJ.then_exit (PJ.block_exit ?_))
          exact PJ.joined () [] hm trivial ⟨List.nodup_nil, rfl⟩
    · rintro _ hm
      subst hk9
      refine WJ.seq ?_
      refine WJ.quiet ?_
      refine QJ.step (YldS.yld (y_assign rfl)) rfl ?_
      refine QJ.done ?_
      refine PJ.next ?_
      refine WJ.ret ?_
      obtain rfl := Option.some.inj hm
      refine PJ.sel (L' := []) [] ⟨List.nodup_nil, rfl⟩ ?_
      exact PJ.retn (vs := [.bool true]) Try.results39 ⟨rfl, trivial⟩ ⟨rfl, rfl⟩

theorem ok_joinO {xs : List Str} {sep r : Str} (hm : joinO xs sep = some r) (w : World) (v : Value) (hr : RdS w (cx w).Fz v fStr.rp xs) (hsp : SpN v) :
    Calls Try.prog 70 #[v, str sep] w (Ret (cx w) (str r)) :=
  joinO_ok Try.strings_Join Try.strings_Join_none hm w hr hsp

set_option maxRecDepth 100000 in
set_option maxHeartbeats 1000000 in
theorem ok_i_LayoutText {N : Nat} {x1 : Layout} {r : Str} (hm : i_LayoutText N x1 = some r) (w : World) (v2 : Value) (hr3 : RdS w (cx w).Fz v2 fStr.rp x1.rows) (hsp_v2 : SpN v2) :
    Calls Try.prog 59 #[.agg #[v2]] w (Ret (cx w) (str r)) := by
  unfold i_LayoutText at hm
  refine Calls.enter [.agg #[v2]] Try.func59 rfl Try.ntmps59 rfl ?_
  refine WJ.seq ?_
  refine WJ.reg ?_
  refine SJ.box (cs := [v2]) rfl rfl rfl fun g4 => ?_
  refine SJ.q (YldS.yld (y_assign rfl)) rfl ?_
  refine SJ.nil ?_
  refine PJ.next ?_
  refine WJ.seq ?_
  refine WJ.seq ?_
  refine WJ.quiet ?_
  refine QJ.step (YldS.yld (y_loadBN (k := 0) (off := 0) (us := [v2]) rfl Try.isAgg60 Try.sizeOf60 rfl rfl)) rfl ?_
  obtain ⟨r5, h6, hm⟩ := bindS hm
  refine QJ.step (y_call Try.call61 rfl (RetG.quiet fun w hw => ok_i_ValidLayout h6 w _ (hr3.st hw))) rfl ?_
  refine QJ.step (YldS.yld (y_not rfl)) rfl ?_
  refine QJ.done ?_
  refine PJ.next ?_
  refine WJ.cond (t := !r5) rfl (fun hb7 => ?_) (fun hb7 => ?_)
  · replace hm := ifT hm hb7
    refine WJ.seq ?_
    refine WJ.quiet ?_
    refine QJ.step (YldS.yld (y_assign rfl)) rfl ?_
    refine QJ.done ?_
    refine PJ.next ?_
    refine WJ.ret ?_
    refine PJ.then_ret ?_
    obtain rfl := Option.some.inj hm
    refine PJ.sel (L' := []) [] ⟨List.nodup_nil, rfl⟩ ?_
    exact PJ.retn (vs := [str []]) Try.results59 ⟨rfl, trivial⟩ ⟨rfl, rfl⟩
  · replace hm := ifF hm hb7
    refine WJ.skip ?_
    refine PJ.next ?_
    refine WJ.seq ?_
    refine WJ.quiet ?_
    refine QJ.step (YldS.yld (y_fldB (o := 0) fld60_0 rfl)) rfl ?_
    refine QJ.step (YldS.yld (y_loadB (k := 0) (off := 0) (v := v2) rfl Try.isAgg24 rfl rfl)) rfl ?_
    obtain ⟨r8, h9, hm⟩ := bindS hm
    refine QJ.step (y_call Try.call70 rfl (RetG.quiet fun w hw => ok_joinO h9 w _ (hr3.st hw) hsp_v2)) rfl ?_
    refine QJ.step (YldS.yld (y_assign rfl)) rfl ?_
    refine QJ.done ?_
    refine PJ.next ?_
    refine WJ.ret ?_
    obtain rfl := Option.some.inj hm
    refine PJ.sel (L' := []) [] ⟨List.nodup_nil, rfl⟩ ?_
    exact PJ.retn (vs := [str r8]) Try.results59 ⟨rfl, trivial⟩ ⟨rfl, rfl⟩

set_option maxRecDepth 100000 in
set_option maxHeartbeats 1000000 in
theorem ok_s_LayoutText {N : Nat} {x1 : Layout} {r : Str} (hm : s_LayoutText N x1 = some r) (w : World) (v2 : Value) (hr3 : RdS w (cx w).Fz v2 fStr.rp x1.rows) :
    Calls Try.prog 60 #[.agg #[v2]] w (Ret (cx w) (str r)) := by
  unfold s_LayoutText at hm
  refine Calls.enter [.agg #[v2]] Try.func60 rfl Try.ntmps60 rfl ?_
  refine WJ.seq ?_
  refine WJ.reg ?_
  refine SJ.box (cs := [v2]) rfl rfl rfl fun g4 => ?_
  refine SJ.q (YldS.yld (y_assign rfl)) rfl ?_
  refine SJ.nil ?_
  refine PJ.next ?_
  refine WJ.seq ?_
  refine WJ.seq ?_
  refine WJ.quiet ?_
  obtain ⟨r5, h6, hm⟩ := bindS hm
  refine QJ.step (y_call Try.call111 rfl (RetG.quiet fun w hw => ok_s_l06Ok h6 w _ _ (hw.box_at (k := 0) rfl) (hr3.st hw))) rfl ?_
  refine QJ.step (YldS.yld (y_not rfl)) rfl ?_
  refine QJ.done ?_
  refine PJ.next ?_
  refine WJ.cond (t := !r5) rfl (fun hb7 => ?_) (fun hb7 => ?_)
  · replace hm := ifT hm hb7
    refine WJ.seq ?_
    refine WJ.quiet ?_
    refine QJ.step (YldS.yld (y_assign rfl)) rfl ?_
    refine QJ.done ?_
    refine PJ.next ?_
    refine WJ.ret ?_
    refine PJ.then_ret ?_
    obtain rfl := Option.some.inj hm
    refine PJ.sel (L' := []) [] ⟨List.nodup_nil, rfl⟩ ?_
    exact PJ.retn (vs := [str []]) Try.results60 ⟨rfl, trivial⟩ ⟨rfl, rfl⟩
  · replace hm := ifF hm hb7
    refine WJ.skip ?_
    refine PJ.next ?_
    refine WJ.seq ?_
    refine WJ.quiet ?_
    obtain ⟨r8, h9, hm⟩ := bindS hm
    refine QJ.step (y_call Try.call104 rfl (RetG.quiet fun w hw => ok_s_l06Text h9 w _ _ (hw.box_at (k := 0) rfl) (hr3.st hw))) rfl ?_
    refine QJ.step (YldS.yld (y_assign rfl)) rfl ?_
    refine QJ.done ?_
    refine PJ.next ?_
    refine WJ.ret ?_
    obtain rfl := Option.some.inj hm
    refine PJ.sel (L' := []) [] ⟨List.nodup_nil, rfl⟩ ?_
    exact PJ.retn (vs := [str r8]) Try.results60 ⟨rfl, trivial⟩ ⟨rfl, rfl⟩

set_option maxRecDepth 100000 in
set_option maxHeartbeats 1000000 in
theorem ok_s_ValidLayout {N : Nat} {x1 : Layout} {r : Bool} (hm : s_ValidLayout N x1 = some r) (w : World) (v2 : Value) (hr3 : RdS w (cx w).Fz v2 fStr.rp x1.rows) :
    Calls Try.prog 62 #[.agg #[v2]] w (Ret (cx w) (.bool r)) := by
  unfold s_ValidLayout at hm
  refine Calls.enter [.agg #[v2]] Try.func62 rfl Try.ntmps62 rfl ?_
  refine WJ.seq ?_
  refine WJ.reg ?_
  refine SJ.box (cs := [v2]) rfl rfl rfl fun g4 => ?_
  refine SJ.q (YldS.yld (y_assign rfl)) rfl ?_
  refine SJ.nil ?_
  refine PJ.next ?_
  refine WJ.seq ?_
  refine WJ.quiet ?_
  obtain ⟨r5, h6, hm⟩ := bindS hm
  refine QJ.step (y_call Try.call111 rfl (RetG.quiet fun w hw => ok_s_l06Ok h6 w _ _ (hw.box_at (k := 0) rfl) (hr3.st hw))) rfl ?_
  refine QJ.step (YldS.yld (y_assign rfl)) rfl ?_
  refine QJ.done ?_
  refine PJ.next ?_
  refine WJ.ret ?_
  obtain rfl := Option.some.inj hm
  refine PJ.sel (L' := []) [] ⟨List.nodup_nil, rfl⟩ ?_
  exact PJ.retn (vs := [.bool r5]) Try.results62 ⟨rfl, trivial⟩ ⟨rfl, rfl⟩

set_option maxRecDepth 100000 in
set_option maxHeartbeats 1000000 in
theorem ok_w_f6sum {N : Nat} {list1 : List Int} {r : Int} (hm : w_f6sum N list1 = some r) (w : World) (v2 : Value) (hr3 : RdS w (cx w).Fz v2 fI64.rp list1) :
    Calls Try.prog 40 #[v2] w (Ret (cx w) (.int .i64 r)) := by
  unfold w_f6sum at hm
  refine Calls.enter [v2] Try.func40 rfl Try.ntmps40 rfl ?_
  refine WJ.seq ?_
  refine WJ.quiet ?_
  refine QJ.step (YldS.yld (y_assign rfl)) rfl ?_
  refine QJ.done ?_
  refine PJ.next ?_
  refine WJ.seq ?_
  refine WJ.quiet ?_
  refine QJ.step (YldS.yld (y_assign rfl)) rfl ?_
  refine QJ.done ?_
  refine PJ.next ?_
  obtain ⟨kj5, hk6, hm⟩ := withK_open hm
  refine WJ.join (X := Int) (fun (x : Int) => kj5 x = some r) (fun (x : Int) => [(3, .int .i64 x)]) (fun (x : Int) => []) ?_ ?_
  · clear hk6
    refine WJ.seq ?_
    refine WJ.quiet ?_
    refine QJ.step (YldS.yld (y_assign rfl)) rfl ?_
    refine QJ.done ?_
    refine PJ.next ?_
    refine WJ.block ?_
    refine WJ.sel (L' := (fun (x : Int × Int) => []) (0, 0)) [] ⟨List.nodup_nil, rfl⟩ ?_
    refine WJ.sub (m' := (fun (x : Int × Int) => [(0, v2), (3, .int .i64 x.1), (4, .int .i64 x.2)]) (0, 0)) ⟨rfl, rfl, rfl, trivial⟩ ?_
    refine WJ.loop (X := Int × Int) (fun N (x : Int × Int) => w_f6sum_l1 kj5 list1 N x.1 x.2 = some r) (fun (x : Int × Int) => [(0, v2), (3, .int .i64 x.1), (4, .int .i64 x.2)]) (fun (x : Int × Int) => []) ?_ N (0, 0) hm
    · rintro N ⟨sum7, i8⟩ hI
      have hm := hI; clear hI
      cases N with
      | zero => cases hm
      | succ N =>
      unfold w_f6sum_l1 at hm
      refine WJ.seq ?_
      refine WJ.seq ?_
      refine WJ.quiet ?_
      refine QJ.step (YldS.yld (y_move rfl)) rfl ?_
      refine QJ.step (YldS.yld (y_move rfl)) rfl ?_
      refine QJ.step (YldS.yld (y_lenS Try.runUnderlying27 hr3 rfl)) rfl ?_
      refine QJ.step (YldS.yld (y_bin rfl rfl rfl)) rfl ?_
      refine QJ.done ?_
      refine PJ.next ?_
      refine WJ.cond (t := decide (i8 < (List.length list1 : Int))) rfl (fun hb9 => ?_) (fun hb9 => ?_)
      · replace hm := ifT hm hb9
        refine WJ.skip ?_
        refine PJ.next ?_
        refine WJ.seq ?_
        refine WJ.block ?_
        refine WJ.quiet ?_
        refine QJ.step (YldS.yld (y_move rfl)) rfl ?_
        refine QJ.step (YldS.yld (y_move rfl)) rfl ?_
        refine QJ.step (YldS.yld (y_move rfl)) rfl ?_
        obtain ⟨e10, h11, hm⟩ := bindS hm
        obtain ⟨ad12, _, rfl, ha13, hy14⟩ := hr3.elem h11
        refine QJ.step (YldS.yld (hy14 Try.runUnderlying27 Try.sizeOf2 rfl rfl)) rfl ?_
        refine QJ.step (YldS.yld (y_load1 (v := .int .i64 e10) Try.isAgg2 ha13 St.frozenC rfl)) rfl ?_
        refine QJ.step (YldS.yld (y_bin rfl rfl rfl)) rfl ?_
        refine QJ.step (YldS.yld (y_assign rfl)) rfl ?_
        refine QJ.done ?_
        refine PJ.block_normal (PJ.next ?_)
        refine WJ.quiet ?_
        refine QJ.step (YldS.yld (y_move rfl)) rfl ?_
        refine QJ.step (YldS.yld (y_bin rfl rfl rfl)) rfl ?_
        refine QJ.step (YldS.yld (y_assign rfl)) rfl ?_
        refine QJ.done ?_
        exact PJ.round (w64 (sum7 + e10), w64 (i8 + 1)) [] hm ⟨rfl, rfl, rfl, trivial⟩ ⟨List.nodup_nil, rfl⟩
      · replace hm := ifF hm hb9
        refine WJ.exit ?_
        refine PJ.then_exit (PJ.then_exit (PJ.block_exit ?_))
        exact PJ.joined sum7 [] hm ⟨rfl, trivial⟩ ⟨List.nodup_nil, rfl⟩
  · rintro sum4 hm
    subst hk6
    refine WJ.seq ?_
    refine WJ.quiet ?_
    refine QJ.step (YldS.yld (y_move rfl)) rfl ?_
    refine QJ.step (YldS.yld (y_assign rfl)) rfl ?_
    refine QJ.done ?_
    refine PJ.next ?_
    refine WJ.ret ?_
    obtain rfl := Option.some.inj hm
    refine PJ.sel (L' := []) [] ⟨List.nodup_nil, rfl⟩ ?_
    exact PJ.retn (vs := [.int .i64 sum4]) Try.results40 ⟨rfl, trivial⟩ ⟨rfl, rfl⟩

set_option maxRecDepth 100000 in
set_option maxHeartbeats 1000000 in
theorem ok_w_FnLayouts {N : Nat} {code1 : List UInt8} {r : Bool} (hm : w_FnLayouts N code1 = some r) (w : World) (v2 : Value) (hr3 : RdS w (cx w).Fz v2 fByte.rp code1) :
    Calls Try.prog 6 #[v2] w (Ret (cx w) (.bool r)) := by
  unfold w_FnLayouts at hm
  refine Calls.enter [v2] Try.func6 rfl Try.ntmps6 rfl ?_
  refine WJ.seq ?_
  refine WJ.quiet ?_
  refine QJ.step (YldS.yld (y_assign rfl)) rfl ?_
  refine QJ.done ?_
  refine PJ.next ?_
  refine WJ.seq ?_
  refine WJ.seq ?_
  refine WJ.quiet ?_
  refine QJ.step (YldS.yld (y_move rfl)) rfl ?_
  obtain ⟨r4, h5, hm⟩ := bindS hm
  refine QJ.step (y_call Try.call20 rfl (RetG.quiet fun w hw => ok_w_f6big h5 w _ (hr3.st hw))) rfl ?_
  refine QJ.done ?_
  refine PJ.next ?_
  refine WJ.cond (t := r4) rfl (fun hb6 => ?_) (fun hb6 => ?_)
  · replace hm := ifT hm hb6
    refine WJ.seq ?_
    refine WJ.quiet ?_
    refine QJ.step (YldS.yld (y_assign rfl)) rfl ?_
    refine QJ.done ?_
    refine PJ.next ?_
    refine WJ.ret ?_
    refine PJ.then_ret ?_
    obtain rfl := Option.some.inj hm
    refine PJ.sel (L' := []) [] ⟨List.nodup_nil, rfl⟩ ?_
    exact PJ.retn (vs := [.bool true]) Try.results6 ⟨rfl, trivial⟩ ⟨rfl, rfl⟩
  · replace hm := ifF hm hb6
    refine WJ.skip ?_
    refine PJ.next ?_
    refine WJ.seq ?_
    refine WJ.quiet ?_
    refine QJ.step (YldS.yld (y_move rfl)) rfl ?_
    obtain ⟨r7, h8, hm⟩ := bindS hm
    refine QJ.step (y_call Try.call42 rfl (RetG.quiet fun w hw => ok_s_DrawLayoutFault h8 w _ (hr3.st hw))) rfl ?_
    refine QJ.step (YldS.yld (y_assign rfl)) rfl ?_
    refine QJ.done ?_
    refine PJ.next ?_
    refine WJ.seq ?_
    refine WJ.quiet ?_
    refine QJ.step (YldS.yld (y_move rfl)) rfl ?_
    obtain ⟨r9, h10, hm⟩ := bindS hm
    refine QJ.step (y_call Try.call43 rfl (RetG.quiet fun w hw => ok_i_LayoutFault h10 w )) rfl ?_
    refine QJ.step (YldS.yld (y_move rfl)) rfl ?_
    refine QJ.step (YldS.yld (y_extract rfl rfl)) rfl ?_
    refine QJ.step (YldS.yld (y_extract rfl rfl)) rfl ?_
    refine QJ.step (YldS.yld (y_assign rfl)) rfl ?_
    refine QJ.step (YldS.yld (y_assign rfl)) rfl ?_
    refine QJ.done ?_
    refine PJ.next ?_
    refine WJ.seq ?_
    refine WJ.quiet ?_
    refine QJ.step (YldS.yld (y_move rfl)) rfl ?_
    obtain ⟨r11, h12, hm⟩ := bindS hm
    refine QJ.step (y_call Try.call44 rfl (RetG.quiet fun w hw => ok_s_LayoutFault h12 w )) rfl ?_
    refine QJ.step (YldS.yld (y_move rfl)) rfl ?_
    refine QJ.step (YldS.yld (y_extract rfl rfl)) rfl ?_
    refine QJ.step (YldS.yld (y_extract rfl rfl)) rfl ?_
    refine QJ.step (YldS.yld (y_assign rfl)) rfl ?_
    refine QJ.step (YldS.yld (y_assign rfl)) rfl ?_
    refine QJ.done ?_
    refine PJ.next ?_
    refine WJ.seq ?_
    refine WJ.reg ?_
    refine SJ.q (YldS.yld (y_move rfl)) rfl ?_
    obtain ⟨r13, h14, hm⟩ := bindS hm
    refine SJ.call Try.call45 rfl (fun w hw => ok_i_ReadLayout h14 w ) rfl ?_
    rintro _ _ ⟨v15, rfl, rfl⟩
    refine SJ.q (YldS.yld (y_move rfl)) rfl ?_
    refine SJ.q (YldS.yld (y_extract rfl rfl)) rfl ?_
    refine SJ.q (YldS.yld (y_extract rfl rfl)) rfl ?_
    refine SJ.alloc (cs := [.slice none 0 0]) Try.zeroValue60 rfl rfl fun g16 => ?_
    refine SJ.nil_row 9 fStr ?_
    refine SJ.rowCells (k := 2) rfl fun hc17 => ?_
    refine SJ.storeL (k := 1) (off := 0) (us := [v15]) rfl rfl rfl rfl Try.sizeOf60 rfl (by simp only [List.all_cons, hc17.2]; rfl) ?_
    refine SJ.erase 0 ?_
    refine SJ.q (YldS.yld (y_assign rfl)) rfl ?_
    refine SJ.nil ?_
    refine PJ.next ?_
    refine WJ.seq ?_
    refine WJ.reg ?_
    refine SJ.q (YldS.yld (y_move rfl)) rfl ?_
    obtain ⟨r18, h19, hm⟩ := bindS hm
    refine SJ.call Try.call46 rfl (fun w hw => ok_s_ReadLayout h19 w ) rfl ?_
    rintro _ _ ⟨v20, rfl, rfl⟩
    refine SJ.q (YldS.yld (y_move rfl)) rfl ?_
    refine SJ.q (YldS.yld (y_extract rfl rfl)) rfl ?_
    refine SJ.q (YldS.yld (y_extract rfl rfl)) rfl ?_
    refine SJ.alloc (cs := [.slice none 0 0]) Try.zeroValue60 rfl rfl fun g21 => ?_
    refine SJ.nil_row 9 fStr ?_
    refine SJ.rowCells (k := 2) rfl fun hc22 => ?_
    refine SJ.storeL (k := 1) (off := 0) (us := [v20]) rfl rfl rfl rfl Try.sizeOf60 rfl (by simp only [List.all_cons, hc22.2]; rfl) ?_
    refine SJ.erase 0 ?_
    refine SJ.q (YldS.yld (y_assign rfl)) rfl ?_
    refine SJ.nil ?_
    refine PJ.next ?_
    refine WJ.seq ?_
    refine WJ.reg ?_
    refine SJ.q (YldS.yld (y_move rfl)) rfl ?_
    obtain ⟨r23, h24, hm⟩ := bindS hm
    refine SJ.call Try.call47 rfl (fun w hw => ok_s_DrawExchangeLetters h24 w _ (hr3.st hw)) rfl ?_
    rintro _ _ ⟨v25, rfl, rfl⟩
    refine SJ.q (YldS.yld (y_move rfl)) rfl ?_
    refine SJ.q (YldS.yld (y_extract rfl rfl)) rfl ?_
    refine SJ.q (YldS.yld (y_extract rfl rfl)) rfl ?_
    refine SJ.q (YldS.yld (y_extract rfl rfl)) rfl ?_
    refine SJ.alloc (cs := [.slice none 0 0]) Try.zeroValue60 rfl rfl fun g26 => ?_
    refine SJ.nil_row 9 fStr ?_
    refine SJ.rowCells (k := 2) rfl fun hc27 => ?_
    refine SJ.storeL (k := 1) (off := 0) (us := [v25]) rfl rfl rfl rfl Try.sizeOf60 rfl (by simp only [List.all_cons, hc27.2]; rfl) ?_
    refine SJ.erase 0 ?_
    refine SJ.q (YldS.yld (y_assign rfl)) rfl ?_
    refine SJ.q (YldS.yld (y_assign rfl)) rfl ?_
    refine SJ.nil ?_
    refine PJ.next ?_
    refine WJ.seq ?_
    refine WJ.reg ?_
    refine SJ.q (YldS.yld (y_loadBN (k := 0) (off := 0) (us := [v25]) rfl Try.isAgg60 Try.sizeOf60 rfl rfl)) rfl ?_
    refine SJ.q (YldS.yld (y_move rfl)) rfl ?_
    refine SJ.q (YldS.yld (y_move rfl)) rfl ?_
    obtain ⟨r28, h29, hm⟩ := bindS hm
    refine SJ.call Try.call48 rfl (fun w hw => ok_i_ExchangeLetters h29 w _ (hw.row_rd (k := 1) rfl)) rfl ?_
    rintro _ _ ⟨v30, rfl, rfl⟩
    refine SJ.q (YldS.yld (y_move rfl)) rfl ?_
    refine SJ.q (YldS.yld (y_extract rfl rfl)) rfl ?_
    refine SJ.q (YldS.yld (y_extract rfl rfl)) rfl ?_
    refine SJ.alloc (cs := [.slice none 0 0]) Try.zeroValue60 rfl rfl fun g31 => ?_
    refine SJ.nil_row 9 fStr ?_
    refine SJ.rowCells (k := 2) rfl fun hc32 => ?_
    refine SJ.storeL (k := 1) (off := 0) (us := [v30]) rfl rfl rfl rfl Try.sizeOf60 rfl (by simp only [List.all_cons, hc32.2]; rfl) ?_
    refine SJ.erase 0 ?_
    refine SJ.q (YldS.yld (y_assign rfl)) rfl ?_
    refine SJ.nil ?_
    refine PJ.next ?_
    refine WJ.seq ?_
    refine WJ.reg ?_
    refine SJ.q (YldS.yld (y_loadBN (k := 2) (off := 0) (us := [v25]) rfl Try.isAgg60 Try.sizeOf60 rfl rfl)) rfl ?_
    refine SJ.q (YldS.yld (y_move rfl)) rfl ?_
    refine SJ.q (YldS.yld (y_move rfl)) rfl ?_
    obtain ⟨r33, h34, hm⟩ := bindS hm
    refine SJ.call Try.call49 rfl (fun w hw => ok_s_ExchangeLetters h34 w _ (hw.row_rd (k := 3) rfl)) rfl ?_
    rintro _ _ ⟨v35, rfl, rfl⟩
    refine SJ.q (YldS.yld (y_move rfl)) rfl ?_
    refine SJ.q (YldS.yld (y_extract rfl rfl)) rfl ?_
    refine SJ.q (YldS.yld (y_extract rfl rfl)) rfl ?_
    refine SJ.alloc (cs := [.slice none 0 0]) Try.zeroValue60 rfl rfl fun g36 => ?_
    refine SJ.nil_row 9 fStr ?_
    refine SJ.rowCells (k := 2) rfl fun hc37 => ?_
    refine SJ.storeL (k := 1) (off := 0) (us := [v35]) rfl rfl rfl rfl Try.sizeOf60 rfl (by simp only [List.all_cons, hc37.2]; rfl) ?_
    refine SJ.erase 0 ?_
    refine SJ.q (YldS.yld (y_assign rfl)) rfl ?_
    refine SJ.nil ?_
    refine PJ.next ?_
    refine WJ.seq ?_
    refine WJ.reg ?_
    refine SJ.q (YldS.yld (y_move rfl)) rfl ?_
    obtain ⟨r38, h39, hm⟩ := bindS hm
    refine SJ.call Try.call50 rfl (fun w hw => ok_s_DrawSpotOfLetter h39 w _ (hr3.st hw)) rfl ?_
    rintro _ _ ⟨v40, rfl, rfl⟩
    refine SJ.q (YldS.yld (y_move rfl)) rfl ?_
    refine SJ.q (YldS.yld (y_extract rfl rfl)) rfl ?_
    refine SJ.q (YldS.yld (y_extract rfl rfl)) rfl ?_
    refine SJ.alloc (cs := [.slice none 0 0]) Try.zeroValue60 rfl rfl fun g41 => ?_
    refine SJ.nil_row 9 fStr ?_
    refine SJ.rowCells (k := 2) rfl fun hc42 => ?_
    refine SJ.storeL (k := 1) (off := 0) (us := [v40]) rfl rfl rfl rfl Try.sizeOf60 rfl (by simp only [List.all_cons, hc42.2]; rfl) ?_
    refine SJ.erase 0 ?_
    refine SJ.q (YldS.yld (y_assign rfl)) rfl ?_
    refine SJ.nil ?_
    refine PJ.next ?_
    refine WJ.seq ?_
    refine WJ.quiet ?_
    refine QJ.step (YldS.yld (y_loadBN (k := 0) (off := 0) (us := [v40]) rfl Try.isAgg60 Try.sizeOf60 rfl rfl)) rfl ?_
    refine QJ.step (YldS.yld (y_move rfl)) rfl ?_
    obtain ⟨r43, h44, hm⟩ := bindS hm
    refine QJ.step (y_call Try.call51 rfl (RetG.quiet fun w hw => ok_i_SpotOfLetter h44 w _ (hw.row_rd (k := 1) rfl))) rfl ?_
    refine QJ.step (YldS.yld (y_move rfl)) rfl ?_
    refine QJ.step (YldS.yld (y_extract rfl rfl)) rfl ?_
    refine QJ.step (YldS.yld (y_extract rfl rfl)) rfl ?_
    refine QJ.step (YldS.yld (y_extract rfl rfl)) rfl ?_
    refine QJ.step (YldS.yld (y_assign rfl)) rfl ?_
    refine QJ.step (YldS.yld (y_assign rfl)) rfl ?_
    refine QJ.step (YldS.yld (y_assign rfl)) rfl ?_
    refine QJ.done ?_
    refine PJ.next ?_
    refine WJ.seq ?_
    refine WJ.quiet ?_
    refine QJ.step (YldS.yld (y_loadBN (k := 0) (off := 0) (us := [v40]) rfl Try.isAgg60 Try.sizeOf60 rfl rfl)) rfl ?_
    refine QJ.step (YldS.yld (y_move rfl)) rfl ?_
    obtain ⟨r45, h46, hm⟩ := bindS hm
    refine QJ.step (y_call Try.call52 rfl (RetG.quiet fun w hw => ok_s_SpotOfLetter h46 w _ (hw.row_rd (k := 1) rfl))) rfl ?_
    refine QJ.step (YldS.yld (y_move rfl)) rfl ?_
    refine QJ.step (YldS.yld (y_extract rfl rfl)) rfl ?_
    refine QJ.step (YldS.yld (y_extract rfl rfl)) rfl ?_
    refine QJ.step (YldS.yld (y_extract rfl rfl)) rfl ?_
    refine QJ.step (YldS.yld (y_assign rfl)) rfl ?_
    refine QJ.step (YldS.yld (y_assign rfl)) rfl ?_
    refine QJ.step (YldS.yld (y_assign rfl)) rfl ?_
    refine QJ.done ?_
    refine PJ.next ?_
    refine WJ.seq ?_
    refine WJ.reg ?_
    refine SJ.q (YldS.yld (y_loadBN (k := 0) (off := 0) (us := [v40]) rfl Try.isAgg60 Try.sizeOf60 rfl rfl)) rfl ?_
    obtain ⟨r47, h48, hm⟩ := bindS hm
    refine SJ.call Try.call53 rfl (fun w hw => ok_i_MirrorLayout h48 w _ (hw.row_rd (k := 1) rfl)) rfl ?_
    rintro _ _ ⟨v49, rfl, rfl⟩
    refine SJ.q (YldS.yld (y_move rfl)) rfl ?_
    refine SJ.q (YldS.yld (y_extract rfl rfl)) rfl ?_
    refine SJ.q (YldS.yld (y_extract rfl rfl)) rfl ?_
    refine SJ.alloc (cs := [.slice none 0 0]) Try.zeroValue60 rfl rfl fun g50 => ?_
    refine SJ.nil_row 9 fStr ?_
    refine SJ.rowCells (k := 2) rfl fun hc51 => ?_
    refine SJ.storeL (k := 1) (off := 0) (us := [v49]) rfl rfl rfl rfl Try.sizeOf60 rfl (by simp only [List.all_cons, hc51.2]; rfl) ?_
    refine SJ.erase 0 ?_
    refine SJ.q (YldS.yld (y_assign rfl)) rfl ?_
    refine SJ.nil ?_
    refine PJ.next ?_
    refine WJ.seq ?_
    refine WJ.reg ?_
    refine SJ.q (YldS.yld (y_loadBN (k := 2) (off := 0) (us := [v40]) rfl Try.isAgg60 Try.sizeOf60 rfl rfl)) rfl ?_
    obtain ⟨r52, h53, hm⟩ := bindS hm
    refine SJ.call Try.call54 rfl (fun w hw => ok_s_MirrorLayout h53 w _ (hw.row_rd (k := 3) rfl)) rfl ?_
    rintro _ _ ⟨v54, rfl, rfl⟩
    refine SJ.q (YldS.yld (y_move rfl)) rfl ?_
    refine SJ.q (YldS.yld (y_extract rfl rfl)) rfl ?_
    refine SJ.q (YldS.yld (y_extract rfl rfl)) rfl ?_
    refine SJ.alloc (cs := [.slice none 0 0]) Try.zeroValue60 rfl rfl fun g55 => ?_
    refine SJ.nil_row 9 fStr ?_
    refine SJ.rowCells (k := 2) rfl fun hc56 => ?_
    refine SJ.storeL (k := 1) (off := 0) (us := [v54]) rfl rfl rfl rfl Try.sizeOf60 rfl (by simp only [List.all_cons, hc56.2]; rfl) ?_
    refine SJ.erase 0 ?_
    refine SJ.q (YldS.yld (y_assign rfl)) rfl ?_
    refine SJ.nil ?_
    refine PJ.next ?_
    refine WJ.seq ?_
    refine WJ.reg ?_
    refine SJ.q (YldS.yld (y_move rfl)) rfl ?_
    obtain ⟨r57, h58, hm⟩ := bindS hm
    refine SJ.call Try.call55 rfl (fun w hw => ok_s_DrawRowShares h58 w _ (hr3.st hw)) rfl ?_
    rintro _ _ ⟨v59, rfl, rfl⟩
    refine SJ.q (YldS.yld (y_move rfl)) rfl ?_
    refine SJ.q (YldS.yld (y_extract rfl rfl)) rfl ?_
    refine SJ.q (YldS.yld (y_extract rfl rfl)) rfl ?_
    refine SJ.alloc (cs := [.slice none 0 0]) Try.zeroValue60 rfl rfl fun g60 => ?_
    refine SJ.nil_row 9 fStr ?_
    refine SJ.rowCells (k := 2) rfl fun hc61 => ?_
    refine SJ.storeL (k := 1) (off := 0) (us := [v59]) rfl rfl rfl rfl Try.sizeOf60 rfl (by simp only [List.all_cons, hc61.2]; rfl) ?_
    refine SJ.erase 0 ?_
    refine SJ.q (YldS.yld (y_assign rfl)) rfl ?_
    refine SJ.nil ?_
    refine PJ.next ?_
    refine WJ.seq ?_
    refine WJ.reg ?_
    refine SJ.q (YldS.yld (y_loadBN (k := 0) (off := 0) (us := [v59]) rfl Try.isAgg60 Try.sizeOf60 rfl rfl)) rfl ?_
    refine SJ.q (YldS.yld (y_move rfl)) rfl ?_
    obtain ⟨r62, h63, hm⟩ := bindS hm
    refine SJ.call Try.call56 rfl (fun w hw => ok_i_RowShares h63 w _ (hw.row_rd (k := 1) rfl)) rfl ?_
    rintro _ _ ⟨v64, rfl, rfl⟩
    refine SJ.q (YldS.yld (y_move rfl)) rfl ?_
    refine SJ.q (YldS.yld (y_extract rfl rfl)) rfl ?_
    refine SJ.q (YldS.yld (y_extract rfl rfl)) rfl ?_
    refine SJ.q (YldS.yld (y_assign rfl)) rfl ?_
    refine SJ.q (YldS.yld (y_assign rfl)) rfl ?_
    refine SJ.nil ?_
    refine PJ.next ?_
    refine WJ.seq ?_
    refine WJ.reg ?_
    refine SJ.q (YldS.yld (y_loadBN (k := 1) (off := 0) (us := [v59]) rfl Try.isAgg60 Try.sizeOf60 rfl rfl)) rfl ?_
    refine SJ.q (YldS.yld (y_move rfl)) rfl ?_
    obtain ⟨r65, h66, hm⟩ := bindS hm
    refine SJ.call Try.call57 rfl (fun w hw => ok_s_RowShares h66 w _ (hw.row_rd (k := 2) rfl)) rfl ?_
    rintro _ _ ⟨v67, rfl, rfl⟩
    refine SJ.q (YldS.yld (y_move rfl)) rfl ?_
    refine SJ.q (YldS.yld (y_extract rfl rfl)) rfl ?_
    refine SJ.q (YldS.yld (y_extract rfl rfl)) rfl ?_
    refine SJ.q (YldS.yld (y_assign rfl)) rfl ?_
    refine SJ.q (YldS.yld (y_assign rfl)) rfl ?_
    refine SJ.nil ?_
    refine PJ.next ?_
    refine WJ.seq ?_
    refine WJ.seq ?_
    refine WJ.quiet_draw follows (by kernel_rfl) ?_
    refine QJ.step (YldS.yld (y_move rfl)) rfl ?_
    refine QJ.step (YldS.yld (y_move rfl)) rfl ?_
    refine QJ.step (YldS.yld (y_bin rfl rfl rfl)) rfl ?_
    refine QJ.step (YldS.yld (y_move rfl)) rfl ?_
    obtain ⟨t68, h69, hm⟩ := bindS hm
    refine QJ.cut 4 [(3, str r7), (4, .int .i64 r9.1), (5, .int .i64 r9.2), (8, pt g16 0), (9, .bool r13.2), (10, pt g21 0), (11, .bool r18.2), (12, pt g26 0), (13, str r23.2.1), (14, str r23.2.2), (15, pt g31 0), (16, .int .i64 r28.2), (17, pt g36 0), (18, .int .i64 r33.2), (19, pt g41 0), (20, str r38.2), (21, .int .i64 r43.1), (22, .int .i64 r43.2.1), (23, .int .i64 r43.2.2), (24, .int .i64 r45.1), (25, .int .i64 r45.2.1), (26, .int .i64 r45.2.2), (27, pt g50 0), (28, .int .i64 r47.2), (29, pt g55 0), (30, .int .i64 r52.2), (32, str r57.2), (33, v64), (34, .int .i64 r62.2), (35, v67), (36, .int .i64 r65.2), (138, .bool t68)] ?_ ?_
    · rcases Bool.eq_false_or_eq_true (r9.1 != r11.1) with hb70 | hb70
      · obtain rfl := orT h69 hb70
        refine QJ.off rfl rfl (cB hb70) rfl rfl ?_
        refine QJ.off rfl rfl (cB hb70) rfl rfl ?_
        refine QJ.off rfl rfl (cB hb70) rfl rfl ?_
        refine QJ.step (YldS.yld (y_pick_t (cB hb70) rfl)) rfl ?_
        exact QJ.cut_end ⟨rfl, rfl, rfl, rfl, rfl, rfl, rfl, rfl, rfl, rfl, rfl, rfl, rfl, rfl, rfl, rfl, rfl, rfl, rfl, rfl, rfl, rfl, rfl, rfl, rfl, rfl, rfl, rfl, rfl, rfl, rfl, rfl, trivial⟩
      · replace h69 := orF h69 hb70
        refine QJ.on rfl rfl (cB hb70) (YldS.yld (y_move rfl)) rfl ?_
        refine QJ.on rfl rfl (cB hb70) (YldS.yld (y_move rfl)) rfl ?_
        refine QJ.on rfl rfl (cB hb70) (YldS.yld (y_bin rfl rfl rfl)) rfl ?_
        refine QJ.step (YldS.yld (y_pick_f (cB hb70) rfl)) rfl ?_
        obtain rfl := Option.some.inj h69
        exact QJ.cut_end ⟨rfl, rfl, rfl, rfl, rfl, rfl, rfl, rfl, rfl, rfl, rfl, rfl, rfl, rfl, rfl, rfl, rfl, rfl, rfl, rfl, rfl, rfl, rfl, rfl, rfl, rfl, rfl, rfl, rfl, rfl, rfl, rfl, trivial⟩
    refine QJ.step (YldS.yld (y_move rfl)) rfl ?_
    obtain ⟨t71, h72, hm⟩ := bindS hm
    refine QJ.cut 4 [(3, str r7), (4, .int .i64 r9.1), (5, .int .i64 r9.2), (8, pt g16 0), (9, .bool r13.2), (10, pt g21 0), (12, pt g26 0), (13, str r23.2.1), (14, str r23.2.2), (15, pt g31 0), (16, .int .i64 r28.2), (17, pt g36 0), (18, .int .i64 r33.2), (19, pt g41 0), (20, str r38.2), (21, .int .i64 r43.1), (22, .int .i64 r43.2.1), (23, .int .i64 r43.2.2), (24, .int .i64 r45.1), (25, .int .i64 r45.2.1), (26, .int .i64 r45.2.2), (27, pt g50 0), (28, .int .i64 r47.2), (29, pt g55 0), (30, .int .i64 r52.2), (32, str r57.2), (33, v64), (34, .int .i64 r62.2), (35, v67), (36, .int .i64 r65.2), (143, .bool t71)] ?_ ?_
    · rcases Bool.eq_false_or_eq_true t68 with hb73 | hb73
      · obtain rfl := orT h72 hb73
        refine QJ.off rfl rfl (cB hb73) rfl rfl ?_
        refine QJ.off rfl rfl (cB hb73) rfl rfl ?_
        refine QJ.off rfl rfl (cB hb73) rfl rfl ?_
        refine QJ.step (YldS.yld (y_pick_t (cB hb73) rfl)) rfl ?_
        exact QJ.cut_end ⟨rfl, rfl, rfl, rfl, rfl, rfl, rfl, rfl, rfl, rfl, rfl, rfl, rfl, rfl, rfl, rfl, rfl, rfl, rfl, rfl, rfl, rfl, rfl, rfl, rfl, rfl, rfl, rfl, rfl, rfl, rfl, trivial⟩
      · replace h72 := orF h72 hb73
        refine QJ.on rfl rfl (cB hb73) (YldS.yld (y_move rfl)) rfl ?_
        refine QJ.on rfl rfl (cB hb73) (YldS.yld (y_move rfl)) rfl ?_
        refine QJ.on rfl rfl (cB hb73) (YldS.yld (y_neB Try.underlying4 rfl rfl rfl)) rfl ?_
        refine QJ.step (YldS.yld (y_pick_f (cB hb73) rfl)) rfl ?_
        obtain rfl := Option.some.inj h72
        exact QJ.cut_end ⟨rfl, rfl, rfl, rfl, rfl, rfl, rfl, rfl, rfl, rfl, rfl, rfl, rfl, rfl, rfl, rfl, rfl, rfl, rfl, rfl, rfl, rfl, rfl, rfl, rfl, rfl, rfl, rfl, rfl, rfl, rfl, trivial⟩
    refine QJ.step (YldS.yld (y_move rfl)) rfl ?_
    obtain ⟨t74, h75, hm⟩ := bindS hm
    refine QJ.cut 5 [(3, str r7), (4, .int .i64 r9.1), (5, .int .i64 r9.2), (8, pt g16 0), (9, .bool r13.2), (12, pt g26 0), (13, str r23.2.1), (14, str r23.2.2), (15, pt g31 0), (16, .int .i64 r28.2), (17, pt g36 0), (18, .int .i64 r33.2), (19, pt g41 0), (20, str r38.2), (21, .int .i64 r43.1), (22, .int .i64 r43.2.1), (23, .int .i64 r43.2.2), (24, .int .i64 r45.1), (25, .int .i64 r45.2.1), (26, .int .i64 r45.2.2), (27, pt g50 0), (28, .int .i64 r47.2), (29, pt g55 0), (30, .int .i64 r52.2), (32, str r57.2), (33, v64), (34, .int .i64 r62.2), (35, v67), (36, .int .i64 r65.2), (149, .bool t74)] ?_ ?_
    · rcases Bool.eq_false_or_eq_true t71 with hb76 | hb76
      · obtain rfl := orT h75 hb76
        refine QJ.off rfl rfl (cB hb76) rfl rfl ?_
        refine QJ.off rfl rfl (cB hb76) rfl rfl ?_
        refine QJ.off rfl rfl (cB hb76) rfl rfl ?_
        refine QJ.off rfl rfl (cB hb76) rfl rfl ?_
        refine QJ.step (YldS.yld (y_pick_t (cB hb76) rfl)) rfl ?_
        exact QJ.cut_end ⟨rfl, rfl, rfl, rfl, rfl, rfl, rfl, rfl, rfl, rfl, rfl, rfl, rfl, rfl, rfl, rfl, rfl, rfl, rfl, rfl, rfl, rfl, rfl, rfl, rfl, rfl, rfl, rfl, rfl, rfl, trivial⟩
      · replace h75 := orF h75 hb76
        refine QJ.on rfl rfl (cB hb76) (YldS.yld (y_loadBN (k := 18) (off := 0) (us := [v15]) rfl Try.isAgg60 Try.sizeOf60 rfl rfl)) rfl ?_
        refine QJ.on rfl rfl (cB hb76) (YldS.yld (y_loadBN (k := 16) (off := 0) (us := [v20]) rfl Try.isAgg60 Try.sizeOf60 rfl rfl)) rfl ?_
        obtain ⟨r77, h78, h75⟩ := bindS h75
        refine QJ.on rfl rfl (cB hb76) (y_call Try.call58 rfl (RetG.quiet fun w hw => ok_s_SameLayout h78 w _ (hw.row_rd (k := 19) rfl) _ (hw.row_rd (k := 17) rfl))) rfl ?_
        refine QJ.on rfl rfl (cB hb76) (YldS.yld (y_not rfl)) rfl ?_
        refine QJ.step (YldS.yld (y_pick_f (cB hb76) rfl)) rfl ?_
        obtain rfl := Option.some.inj h75
        exact QJ.cut_end ⟨rfl, rfl, rfl, rfl, rfl, rfl, rfl, rfl, rfl, rfl, rfl, rfl, rfl, rfl, rfl, rfl, rfl, rfl, rfl, rfl, rfl, rfl, rfl, rfl, rfl, rfl, rfl, rfl, rfl, rfl, trivial⟩
    refine QJ.step (YldS.yld (y_move rfl)) rfl ?_
    obtain ⟨t79, h80, hm⟩ := bindS hm
    refine QJ.cut 4 [(3, str r7), (4, .int .i64 r9.1), (5, .int .i64 r9.2), (8, pt g16 0), (9, .bool r13.2), (12, pt g26 0), (13, str r23.2.1), (14, str r23.2.2), (15, pt g31 0), (16, .int .i64 r28.2), (17, pt g36 0), (19, pt g41 0), (20, str r38.2), (21, .int .i64 r43.1), (22, .int .i64 r43.2.1), (23, .int .i64 r43.2.2), (24, .int .i64 r45.1), (25, .int .i64 r45.2.1), (26, .int .i64 r45.2.2), (27, pt g50 0), (28, .int .i64 r47.2), (29, pt g55 0), (30, .int .i64 r52.2), (32, str r57.2), (33, v64), (34, .int .i64 r62.2), (35, v67), (36, .int .i64 r65.2), (154, .bool t79)] ?_ ?_
    · rcases Bool.eq_false_or_eq_true t74 with hb81 | hb81
      · obtain rfl := orT h80 hb81
        refine QJ.off rfl rfl (cB hb81) rfl rfl ?_
        refine QJ.off rfl rfl (cB hb81) rfl rfl ?_
        refine QJ.off rfl rfl (cB hb81) rfl rfl ?_
        refine QJ.step (YldS.yld (y_pick_t (cB hb81) rfl)) rfl ?_
        exact QJ.cut_end ⟨rfl, rfl, rfl, rfl, rfl, rfl, rfl, rfl, rfl, rfl, rfl, rfl, rfl, rfl, rfl, rfl, rfl, rfl, rfl, rfl, rfl, rfl, rfl, rfl, rfl, rfl, rfl, rfl, rfl, trivial⟩
      · replace h80 := orF h80 hb81
        refine QJ.on rfl rfl (cB hb81) (YldS.yld (y_move rfl)) rfl ?_
        refine QJ.on rfl rfl (cB hb81) (YldS.yld (y_move rfl)) rfl ?_
        refine QJ.on rfl rfl (cB hb81) (YldS.yld (y_bin rfl rfl rfl)) rfl ?_
        refine QJ.step (YldS.yld (y_pick_f (cB hb81) rfl)) rfl ?_
        obtain rfl := Option.some.inj h80
        exact QJ.cut_end ⟨rfl, rfl, rfl, rfl, rfl, rfl, rfl, rfl, rfl, rfl, rfl, rfl, rfl, rfl, rfl, rfl, rfl, rfl, rfl, rfl, rfl, rfl, rfl, rfl, rfl, rfl, rfl, rfl, rfl, trivial⟩
    refine QJ.step (YldS.yld (y_move rfl)) rfl ?_
    obtain ⟨t82, h83, hm⟩ := bindS hm
    refine QJ.cut 5 [(3, str r7), (4, .int .i64 r9.1), (5, .int .i64 r9.2), (8, pt g16 0), (9, .bool r13.2), (12, pt g26 0), (13, str r23.2.1), (14, str r23.2.2), (15, pt g31 0), (16, .int .i64 r28.2), (19, pt g41 0), (20, str r38.2), (21, .int .i64 r43.1), (22, .int .i64 r43.2.1), (23, .int .i64 r43.2.2), (24, .int .i64 r45.1), (25, .int .i64 r45.2.1), (26, .int .i64 r45.2.2), (27, pt g50 0), (28, .int .i64 r47.2), (29, pt g55 0), (30, .int .i64 r52.2), (32, str r57.2), (33, v64), (34, .int .i64 r62.2), (35, v67), (36, .int .i64 r65.2), (160, .bool t82)] ?_ ?_
    · rcases Bool.eq_false_or_eq_true t79 with hb84 | hb84
      · obtain rfl := orT h83 hb84
        refine QJ.off rfl rfl (cB hb84) rfl rfl ?_
        refine QJ.off rfl rfl (cB hb84) rfl rfl ?_
        refine QJ.off rfl rfl (cB hb84) rfl rfl ?_
        refine QJ.off rfl rfl (cB hb84) rfl rfl ?_
        refine QJ.step (YldS.yld (y_pick_t (cB hb84) rfl)) rfl ?_
        exact QJ.cut_end ⟨rfl, rfl, rfl, rfl, rfl, rfl, rfl, rfl, rfl, rfl, rfl, rfl, rfl, rfl, rfl, rfl, rfl, rfl, rfl, rfl, rfl, rfl, rfl, rfl, rfl, rfl, rfl, rfl, trivial⟩
      · replace h83 := orF h83 hb84
        refine QJ.on rfl rfl (cB hb84) (YldS.yld (y_loadBN (k := 12) (off := 0) (us := [v30]) rfl Try.isAgg60 Try.sizeOf60 rfl rfl)) rfl ?_
        refine QJ.on rfl rfl (cB hb84) (YldS.yld (y_loadBN (k := 10) (off := 0) (us := [v35]) rfl Try.isAgg60 Try.sizeOf60 rfl rfl)) rfl ?_
        obtain ⟨r85, h86, h83⟩ := bindS h83
        refine QJ.on rfl rfl (cB hb84) (y_call Try.call58 rfl (RetG.quiet fun w hw => ok_s_SameLayout h86 w _ (hw.row_rd (k := 13) rfl) _ (hw.row_rd (k := 11) rfl))) rfl ?_
        refine QJ.on rfl rfl (cB hb84) (YldS.yld (y_not rfl)) rfl ?_
        refine QJ.step (YldS.yld (y_pick_f (cB hb84) rfl)) rfl ?_
        obtain rfl := Option.some.inj h83
        exact QJ.cut_end ⟨rfl, rfl, rfl, rfl, rfl, rfl, rfl, rfl, rfl, rfl, rfl, rfl, rfl, rfl, rfl, rfl, rfl, rfl, rfl, rfl, rfl, rfl, rfl, rfl, rfl, rfl, rfl, rfl, trivial⟩
    refine QJ.step (YldS.yld (y_move rfl)) rfl ?_
    obtain ⟨t87, h88, hm⟩ := bindS hm
    refine QJ.cut 4 [(3, str r7), (4, .int .i64 r9.1), (5, .int .i64 r9.2), (8, pt g16 0), (9, .bool r13.2), (12, pt g26 0), (13, str r23.2.1), (14, str r23.2.2), (15, pt g31 0), (16, .int .i64 r28.2), (19, pt g41 0), (20, str r38.2), (21, .int .i64 r43.1), (22, .int .i64 r43.2.1), (23, .int .i64 r43.2.2), (24, .int .i64 r45.1), (25, .int .i64 r45.2.1), (27, pt g50 0), (28, .int .i64 r47.2), (29, pt g55 0), (30, .int .i64 r52.2), (32, str r57.2), (33, v64), (34, .int .i64 r62.2), (35, v67), (36, .int .i64 r65.2), (165, .bool t87)] ?_ ?_
    · rcases Bool.eq_false_or_eq_true t82 with hb89 | hb89
      · obtain rfl := orT h88 hb89
        refine QJ.off rfl rfl (cB hb89) rfl rfl ?_
        refine QJ.off rfl rfl (cB hb89) rfl rfl ?_
        refine QJ.off rfl rfl (cB hb89) rfl rfl ?_
        refine QJ.step (YldS.yld (y_pick_t (cB hb89) rfl)) rfl ?_
        exact QJ.cut_end ⟨rfl, rfl, rfl, rfl, rfl, rfl, rfl, rfl, rfl, rfl, rfl, rfl, rfl, rfl, rfl, rfl, rfl, rfl, rfl, rfl, rfl, rfl, rfl, rfl, rfl, rfl, rfl, trivial⟩
      · replace h88 := orF h88 hb89
        refine QJ.on rfl rfl (cB hb89) (YldS.yld (y_move rfl)) rfl ?_
        refine QJ.on rfl rfl (cB hb89) (YldS.yld (y_move rfl)) rfl ?_
        refine QJ.on rfl rfl (cB hb89) (YldS.yld (y_bin rfl rfl rfl)) rfl ?_
        refine QJ.step (YldS.yld (y_pick_f (cB hb89) rfl)) rfl ?_
        obtain rfl := Option.some.inj h88
        exact QJ.cut_end ⟨rfl, rfl, rfl, rfl, rfl, rfl, rfl, rfl, rfl, rfl, rfl, rfl, rfl, rfl, rfl, rfl, rfl, rfl, rfl, rfl, rfl, rfl, rfl, rfl, rfl, rfl, rfl, trivial⟩
    refine QJ.step (YldS.yld (y_move rfl)) rfl ?_
    obtain ⟨t90, h91, hm⟩ := bindS hm
    refine QJ.cut 4 [(3, str r7), (4, .int .i64 r9.1), (5, .int .i64 r9.2), (8, pt g16 0), (9, .bool r13.2), (12, pt g26 0), (13, str r23.2.1), (14, str r23.2.2), (15, pt g31 0), (16, .int .i64 r28.2), (19, pt g41 0), (20, str r38.2), (21, .int .i64 r43.1), (22, .int .i64 r43.2.1), (23, .int .i64 r43.2.2), (25, .int .i64 r45.2.1), (27, pt g50 0), (28, .int .i64 r47.2), (29, pt g55 0), (30, .int .i64 r52.2), (32, str r57.2), (33, v64), (34, .int .i64 r62.2), (35, v67), (36, .int .i64 r65.2), (170, .bool t90)] ?_ ?_
    · rcases Bool.eq_false_or_eq_true t87 with hb92 | hb92
      · obtain rfl := orT h91 hb92
        refine QJ.off rfl rfl (cB hb92) rfl rfl ?_
        refine QJ.off rfl rfl (cB hb92) rfl rfl ?_
        refine QJ.off rfl rfl (cB hb92) rfl rfl ?_
        refine QJ.step (YldS.yld (y_pick_t (cB hb92) rfl)) rfl ?_
        exact QJ.cut_end ⟨rfl, rfl, rfl, rfl, rfl, rfl, rfl, rfl, rfl, rfl, rfl, rfl, rfl, rfl, rfl, rfl, rfl, rfl, rfl, rfl, rfl, rfl, rfl, rfl, rfl, rfl, trivial⟩
      · replace h91 := orF h91 hb92
        refine QJ.on rfl rfl (cB hb92) (YldS.yld (y_move rfl)) rfl ?_
        refine QJ.on rfl rfl (cB hb92) (YldS.yld (y_move rfl)) rfl ?_
        refine QJ.on rfl rfl (cB hb92) (YldS.yld (y_bin rfl rfl rfl)) rfl ?_
        refine QJ.step (YldS.yld (y_pick_f (cB hb92) rfl)) rfl ?_
        obtain rfl := Option.some.inj h91
        exact QJ.cut_end ⟨rfl, rfl, rfl, rfl, rfl, rfl, rfl, rfl, rfl, rfl, rfl, rfl, rfl, rfl, rfl, rfl, rfl, rfl, rfl, rfl, rfl, rfl, rfl, rfl, rfl, rfl, trivial⟩
    refine QJ.step (YldS.yld (y_move rfl)) rfl ?_
    obtain ⟨t93, h94, hm⟩ := bindS hm
    refine QJ.cut 4 [(3, str r7), (4, .int .i64 r9.1), (5, .int .i64 r9.2), (8, pt g16 0), (9, .bool r13.2), (12, pt g26 0), (13, str r23.2.1), (14, str r23.2.2), (15, pt g31 0), (16, .int .i64 r28.2), (19, pt g41 0), (20, str r38.2), (21, .int .i64 r43.1), (22, .int .i64 r43.2.1), (23, .int .i64 r43.2.2), (27, pt g50 0), (28, .int .i64 r47.2), (29, pt g55 0), (30, .int .i64 r52.2), (32, str r57.2), (33, v64), (34, .int .i64 r62.2), (35, v67), (36, .int .i64 r65.2), (175, .bool t93)] ?_ ?_
    · rcases Bool.eq_false_or_eq_true t90 with hb95 | hb95
      · obtain rfl := orT h94 hb95
        refine QJ.off rfl rfl (cB hb95) rfl rfl ?_
        refine QJ.off rfl rfl (cB hb95) rfl rfl ?_
        refine QJ.off rfl rfl (cB hb95) rfl rfl ?_
        refine QJ.step (YldS.yld (y_pick_t (cB hb95) rfl)) rfl ?_
        exact QJ.cut_end ⟨rfl, rfl, rfl, rfl, rfl, rfl, rfl, rfl, rfl, rfl, rfl, rfl, rfl, rfl, rfl, rfl, rfl, rfl, rfl, rfl, rfl, rfl, rfl, rfl, rfl, trivial⟩
      · replace h94 := orF h94 hb95
        refine QJ.on rfl rfl (cB hb95) (YldS.yld (y_move rfl)) rfl ?_
        refine QJ.on rfl rfl (cB hb95) (YldS.yld (y_move rfl)) rfl ?_
        refine QJ.on rfl rfl (cB hb95) (YldS.yld (y_bin rfl rfl rfl)) rfl ?_
        refine QJ.step (YldS.yld (y_pick_f (cB hb95) rfl)) rfl ?_
        obtain rfl := Option.some.inj h94
        exact QJ.cut_end ⟨rfl, rfl, rfl, rfl, rfl, rfl, rfl, rfl, rfl, rfl, rfl, rfl, rfl, rfl, rfl, rfl, rfl, rfl, rfl, rfl, rfl, rfl, rfl, rfl, rfl, trivial⟩
    refine QJ.step (YldS.yld (y_move rfl)) rfl ?_
    obtain ⟨t96, h97, hm⟩ := bindS hm
    refine QJ.cut 4 [(3, str r7), (4, .int .i64 r9.1), (5, .int .i64 r9.2), (8, pt g16 0), (9, .bool r13.2), (12, pt g26 0), (13, str r23.2.1), (14, str r23.2.2), (15, pt g31 0), (16, .int .i64 r28.2), (19, pt g41 0), (20, str r38.2), (21, .int .i64 r43.1), (22, .int .i64 r43.2.1), (23, .int .i64 r43.2.2), (27, pt g50 0), (28, .int .i64 r47.2), (29, pt g55 0), (32, str r57.2), (33, v64), (34, .int .i64 r62.2), (35, v67), (36, .int .i64 r65.2), (180, .bool t96)] ?_ ?_
    · rcases Bool.eq_false_or_eq_true t93 with hb98 | hb98
      · obtain rfl := orT h97 hb98
        refine QJ.off rfl rfl (cB hb98) rfl rfl ?_
        refine QJ.off rfl rfl (cB hb98) rfl rfl ?_
        refine QJ.off rfl rfl (cB hb98) rfl rfl ?_
        refine QJ.step (YldS.yld (y_pick_t (cB hb98) rfl)) rfl ?_
        exact QJ.cut_end ⟨rfl, rfl, rfl, rfl, rfl, rfl, rfl, rfl, rfl, rfl, rfl, rfl, rfl, rfl, rfl, rfl, rfl, rfl, rfl, rfl, rfl, rfl, rfl, rfl, trivial⟩
      · replace h97 := orF h97 hb98
        refine QJ.on rfl rfl (cB hb98) (YldS.yld (y_move rfl)) rfl ?_
        refine QJ.on rfl rfl (cB hb98) (YldS.yld (y_move rfl)) rfl ?_
        refine QJ.on rfl rfl (cB hb98) (YldS.yld (y_bin rfl rfl rfl)) rfl ?_
        refine QJ.step (YldS.yld (y_pick_f (cB hb98) rfl)) rfl ?_
        obtain rfl := Option.some.inj h97
        exact QJ.cut_end ⟨rfl, rfl, rfl, rfl, rfl, rfl, rfl, rfl, rfl, rfl, rfl, rfl, rfl, rfl, rfl, rfl, rfl, rfl, rfl, rfl, rfl, rfl, rfl, rfl, trivial⟩
    refine QJ.step (YldS.yld (y_move rfl)) rfl ?_
    obtain ⟨t99, h100, hm⟩ := bindS hm
    refine QJ.cut 5 [(3, str r7), (4, .int .i64 r9.1), (5, .int .i64 r9.2), (8, pt g16 0), (9, .bool r13.2), (12, pt g26 0), (13, str r23.2.1), (14, str r23.2.2), (15, pt g31 0), (16, .int .i64 r28.2), (19, pt g41 0), (20, str r38.2), (21, .int .i64 r43.1), (22, .int .i64 r43.2.1), (23, .int .i64 r43.2.2), (27, pt g50 0), (28, .int .i64 r47.2), (32, str r57.2), (33, v64), (34, .int .i64 r62.2), (35, v67), (36, .int .i64 r65.2), (186, .bool t99)] ?_ ?_
    · rcases Bool.eq_false_or_eq_true t96 with hb101 | hb101
      · obtain rfl := orT h100 hb101
        refine QJ.off rfl rfl (cB hb101) rfl rfl ?_
        refine QJ.off rfl rfl (cB hb101) rfl rfl ?_
        refine QJ.off rfl rfl (cB hb101) rfl rfl ?_
        refine QJ.off rfl rfl (cB hb101) rfl rfl ?_
        refine QJ.step (YldS.yld (y_pick_t (cB hb101) rfl)) rfl ?_
        exact QJ.cut_end ⟨rfl, rfl, rfl, rfl, rfl, rfl, rfl, rfl, rfl, rfl, rfl, rfl, rfl, rfl, rfl, rfl, rfl, rfl, rfl, rfl, rfl, rfl, rfl, trivial⟩
      · replace h100 := orF h100 hb101
        refine QJ.on rfl rfl (cB hb101) (YldS.yld (y_loadBN (k := 6) (off := 0) (us := [v49]) rfl Try.isAgg60 Try.sizeOf60 rfl rfl)) rfl ?_
        refine QJ.on rfl rfl (cB hb101) (YldS.yld (y_loadBN (k := 4) (off := 0) (us := [v54]) rfl Try.isAgg60 Try.sizeOf60 rfl rfl)) rfl ?_
        obtain ⟨r102, h103, h100⟩ := bindS h100
        refine QJ.on rfl rfl (cB hb101) (y_call Try.call58 rfl (RetG.quiet fun w hw => ok_s_SameLayout h103 w _ (hw.row_rd (k := 7) rfl) _ (hw.row_rd (k := 5) rfl))) rfl ?_
        refine QJ.on rfl rfl (cB hb101) (YldS.yld (y_not rfl)) rfl ?_
        refine QJ.step (YldS.yld (y_pick_f (cB hb101) rfl)) rfl ?_
        obtain rfl := Option.some.inj h100
        exact QJ.cut_end ⟨rfl, rfl, rfl, rfl, rfl, rfl, rfl, rfl, rfl, rfl, rfl, rfl, rfl, rfl, rfl, rfl, rfl, rfl, rfl, rfl, rfl, rfl, rfl, trivial⟩
    refine QJ.step (YldS.yld (y_move rfl)) rfl ?_
    obtain ⟨t104, h105, hm⟩ := bindS hm
    refine QJ.cut 4 [(3, str r7), (4, .int .i64 r9.1), (5, .int .i64 r9.2), (8, pt g16 0), (9, .bool r13.2), (12, pt g26 0), (13, str r23.2.1), (14, str r23.2.2), (15, pt g31 0), (16, .int .i64 r28.2), (19, pt g41 0), (20, str r38.2), (21, .int .i64 r43.1), (22, .int .i64 r43.2.1), (23, .int .i64 r43.2.2), (27, pt g50 0), (28, .int .i64 r47.2), (32, str r57.2), (33, v64), (34, .int .i64 r62.2), (35, v67), (191, .bool t104)] ?_ ?_
    · rcases Bool.eq_false_or_eq_true t99 with hb106 | hb106
      · obtain rfl := orT h105 hb106
        refine QJ.off rfl rfl (cB hb106) rfl rfl ?_
        refine QJ.off rfl rfl (cB hb106) rfl rfl ?_
        refine QJ.off rfl rfl (cB hb106) rfl rfl ?_
        refine QJ.step (YldS.yld (y_pick_t (cB hb106) rfl)) rfl ?_
        exact QJ.cut_end ⟨rfl, rfl, rfl, rfl, rfl, rfl, rfl, rfl, rfl, rfl, rfl, rfl, rfl, rfl, rfl, rfl, rfl, rfl, rfl, rfl, rfl, rfl, trivial⟩
      · replace h105 := orF h105 hb106
        refine QJ.on rfl rfl (cB hb106) (YldS.yld (y_move rfl)) rfl ?_
        refine QJ.on rfl rfl (cB hb106) (YldS.yld (y_move rfl)) rfl ?_
        refine QJ.on rfl rfl (cB hb106) (YldS.yld (y_bin rfl rfl rfl)) rfl ?_
        refine QJ.step (YldS.yld (y_pick_f (cB hb106) rfl)) rfl ?_
        obtain rfl := Option.some.inj h105
        exact QJ.cut_end ⟨rfl, rfl, rfl, rfl, rfl, rfl, rfl, rfl, rfl, rfl, rfl, rfl, rfl, rfl, rfl, rfl, rfl, rfl, rfl, rfl, rfl, rfl, trivial⟩
    refine QJ.step (YldS.yld (y_move rfl)) rfl ?_
    obtain ⟨t107, h108, hm⟩ := bindS hm
    refine QJ.cut 5 [(3, str r7), (4, .int .i64 r9.1), (5, .int .i64 r9.2), (8, pt g16 0), (9, .bool r13.2), (12, pt g26 0), (13, str r23.2.1), (14, str r23.2.2), (15, pt g31 0), (16, .int .i64 r28.2), (19, pt g41 0), (20, str r38.2), (21, .int .i64 r43.1), (22, .int .i64 r43.2.1), (23, .int .i64 r43.2.2), (27, pt g50 0), (28, .int .i64 r47.2), (32, str r57.2), (34, .int .i64 r62.2), (35, v67), (197, .bool t107)] ?_ ?_
    · rcases Bool.eq_false_or_eq_true t104 with hb109 | hb109
      · obtain rfl := orT h108 hb109
        refine QJ.off rfl rfl (cB hb109) rfl rfl ?_
        refine QJ.off rfl rfl (cB hb109) rfl rfl ?_
        refine QJ.off rfl rfl (cB hb109) rfl rfl ?_
        refine QJ.off rfl rfl (cB hb109) rfl rfl ?_
        refine QJ.step (YldS.yld (y_pick_t (cB hb109) rfl)) rfl ?_
        exact QJ.cut_end ⟨rfl, rfl, rfl, rfl, rfl, rfl, rfl, rfl, rfl, rfl, rfl, rfl, rfl, rfl, rfl, rfl, rfl, rfl, rfl, rfl, rfl, trivial⟩
      · replace h108 := orF h108 hb109
        refine QJ.on rfl rfl (cB hb109) (YldS.yld (y_move rfl)) rfl ?_
        refine QJ.on rfl rfl (cB hb109) (YldS.yld (y_move rfl)) rfl ?_
        obtain ⟨r110, h111, h108⟩ := bindS h108
        refine QJ.on rfl rfl (cB hb109) (y_call Try.call39 rfl (RetG.quiet fun w hw => ok_w_f6ints h111 w _ (hw.row_rd (k := 1) rfl) _ (hw.row_rd (k := 0) rfl))) rfl ?_
        refine QJ.on rfl rfl (cB hb109) (YldS.yld (y_not rfl)) rfl ?_
        refine QJ.step (YldS.yld (y_pick_f (cB hb109) rfl)) rfl ?_
        obtain rfl := Option.some.inj h108
        exact QJ.cut_end ⟨rfl, rfl, rfl, rfl, rfl, rfl, rfl, rfl, rfl, rfl, rfl, rfl, rfl, rfl, rfl, rfl, rfl, rfl, rfl, rfl, rfl, trivial⟩
    refine QJ.step (YldS.yld (y_move rfl)) rfl ?_
    obtain ⟨t112, h113, hm⟩ := bindS hm
    refine QJ.cut 6 [(3, str r7), (4, .int .i64 r9.1), (5, .int .i64 r9.2), (8, pt g16 0), (9, .bool r13.2), (12, pt g26 0), (13, str r23.2.1), (14, str r23.2.2), (15, pt g31 0), (16, .int .i64 r28.2), (19, pt g41 0), (20, str r38.2), (21, .int .i64 r43.1), (22, .int .i64 r43.2.1), (23, .int .i64 r43.2.2), (27, pt g50 0), (28, .int .i64 r47.2), (32, str r57.2), (34, .int .i64 r62.2), (35, v67), (204, .bool t112)] ?_ ?_
    · rcases Bool.eq_false_or_eq_true t107 with hb114 | hb114
      · obtain rfl := orT h113 hb114
        refine QJ.off rfl rfl (cB hb114) rfl rfl ?_
        refine QJ.off rfl rfl (cB hb114) rfl rfl ?_
        refine QJ.off rfl rfl (cB hb114) rfl rfl ?_
        refine QJ.off rfl rfl (cB hb114) rfl rfl ?_
        refine QJ.off rfl rfl (cB hb114) rfl rfl ?_
        refine QJ.step (YldS.yld (y_pick_t (cB hb114) rfl)) rfl ?_
        exact QJ.cut_end ⟨rfl, rfl, rfl, rfl, rfl, rfl, rfl, rfl, rfl, rfl, rfl, rfl, rfl, rfl, rfl, rfl, rfl, rfl, rfl, rfl, rfl, trivial⟩
      · replace h113 := orF h113 hb114
        refine QJ.on rfl rfl (cB hb114) (YldS.yld (y_loadBN (k := 8) (off := 0) (us := [v40]) rfl Try.isAgg60 Try.sizeOf60 rfl rfl)) rfl ?_
        obtain ⟨r115, h116, h113⟩ := bindS h113
        refine QJ.on rfl rfl (cB hb114) (y_call Try.call59 rfl (RetG.quiet fun w hw => ok_i_LayoutText h116 w _ (hw.row_rd (k := 9) rfl) (hw.row_sp (k := 9) rfl))) rfl ?_
        refine QJ.on rfl rfl (cB hb114) (YldS.yld (y_loadBN (k := 8) (off := 0) (us := [v40]) rfl Try.isAgg60 Try.sizeOf60 rfl rfl)) rfl ?_
        obtain ⟨r117, h118, h113⟩ := bindS h113
        refine QJ.on rfl rfl (cB hb114) (y_call Try.call60 rfl (RetG.quiet fun w hw => ok_s_LayoutText h118 w _ (hw.row_rd (k := 9) rfl))) rfl ?_
        refine QJ.on rfl rfl (cB hb114) (YldS.yld (y_binS rfl rfl rfl)) rfl ?_
        refine QJ.step (YldS.yld (y_pick_f (cB hb114) rfl)) rfl ?_
        obtain rfl := Option.some.inj h113
        exact QJ.cut_end ⟨rfl, rfl, rfl, rfl, rfl, rfl, rfl, rfl, rfl, rfl, rfl, rfl, rfl, rfl, rfl, rfl, rfl, rfl, rfl, rfl, rfl, trivial⟩
    refine QJ.step (YldS.yld (y_move rfl)) rfl ?_
    obtain ⟨t119, h120, hm⟩ := bindS hm
    refine QJ.cut 6 [(3, str r7), (4, .int .i64 r9.1), (5, .int .i64 r9.2), (8, pt g16 0), (9, .bool r13.2), (12, pt g26 0), (13, str r23.2.1), (14, str r23.2.2), (15, pt g31 0), (16, .int .i64 r28.2), (19, pt g41 0), (20, str r38.2), (21, .int .i64 r43.1), (22, .int .i64 r43.2.1), (23, .int .i64 r43.2.2), (27, pt g50 0), (28, .int .i64 r47.2), (32, str r57.2), (34, .int .i64 r62.2), (35, v67), (211, .bool t119)] ?_ ?_
    · rcases Bool.eq_false_or_eq_true t112 with hb121 | hb121
      · obtain rfl := orT h120 hb121
        refine QJ.off rfl rfl (cB hb121) rfl rfl ?_
        refine QJ.off rfl rfl (cB hb121) rfl rfl ?_
        refine QJ.off rfl rfl (cB hb121) rfl rfl ?_
        refine QJ.off rfl rfl (cB hb121) rfl rfl ?_
        refine QJ.off rfl rfl (cB hb121) rfl rfl ?_
        refine QJ.step (YldS.yld (y_pick_t (cB hb121) rfl)) rfl ?_
        exact QJ.cut_end ⟨rfl, rfl, rfl, rfl, rfl, rfl, rfl, rfl, rfl, rfl, rfl, rfl, rfl, rfl, rfl, rfl, rfl, rfl, rfl, rfl, rfl, trivial⟩
      · replace h120 := orF h120 hb121
        refine QJ.on rfl rfl (cB hb121) (YldS.yld (y_loadBN (k := 8) (off := 0) (us := [v40]) rfl Try.isAgg60 Try.sizeOf60 rfl rfl)) rfl ?_
        obtain ⟨r122, h123, h120⟩ := bindS h120
        refine QJ.on rfl rfl (cB hb121) (y_call Try.call61 rfl (RetG.quiet fun w hw => ok_i_ValidLayout h123 w _ (hw.row_rd (k := 9) rfl))) rfl ?_
        refine QJ.on rfl rfl (cB hb121) (YldS.yld (y_loadBN (k := 8) (off := 0) (us := [v40]) rfl Try.isAgg60 Try.sizeOf60 rfl rfl)) rfl ?_
        obtain ⟨r124, h125, h120⟩ := bindS h120
        refine QJ.on rfl rfl (cB hb121) (y_call Try.call62 rfl (RetG.quiet fun w hw => ok_s_ValidLayout h125 w _ (hw.row_rd (k := 9) rfl))) rfl ?_
        refine QJ.on rfl rfl (cB hb121) (YldS.yld (y_neB Try.underlying4 rfl rfl rfl)) rfl ?_
        refine QJ.step (YldS.yld (y_pick_f (cB hb121) rfl)) rfl ?_
        obtain rfl := Option.some.inj h120
        exact QJ.cut_end ⟨rfl, rfl, rfl, rfl, rfl, rfl, rfl, rfl, rfl, rfl, rfl, rfl, rfl, rfl, rfl, rfl, rfl, rfl, rfl, rfl, rfl, trivial⟩
    refine QJ.done ?_
    refine PJ.next ?_
    refine WJ.cond (t := t119) rfl (fun hb126 => ?_) (fun hb126 => ?_)
    · replace hm := ifT hm hb126
      refine WJ.seq ?_
      refine WJ.quiet ?_
      refine QJ.step (YldS.yld (y_assign rfl)) rfl ?_
      refine QJ.done ?_
      refine PJ.next ?_
      refine WJ.ret ?_
      refine PJ.then_ret ?_
      obtain rfl := Option.some.inj hm
      refine PJ.sel (L' := []) [] ⟨List.nodup_nil, rfl⟩ ?_
      exact PJ.retn (vs := [.bool false]) Try.results6 ⟨rfl, trivial⟩ ⟨rfl, rfl⟩
    · replace hm := ifF hm hb126
      refine WJ.skip ?_
      refine PJ.next ?_
      refine WJ.seq ?_
      refine WJ.seq ?_
      refine WJ.quiet ?_
      refine QJ.step (YldS.yld (y_move rfl)) rfl ?_
      refine QJ.step (YldS.yld (y_move rfl)) rfl ?_
      refine QJ.step (YldS.yld (y_bin rfl rfl rfl)) rfl ?_
      refine QJ.step (YldS.yld (y_neB Try.underlying4 rfl rfl rfl)) rfl ?_
      refine QJ.step (YldS.yld (y_move rfl)) rfl ?_
      obtain ⟨t127, h128, hm⟩ := bindS hm
      refine QJ.cut 8 [(3, str r7), (5, .int .i64 r9.2), (12, pt g26 0), (13, str r23.2.1), (14, str r23.2.2), (15, pt g31 0), (16, .int .i64 r28.2), (19, pt g41 0), (20, str r38.2), (21, .int .i64 r43.1), (22, .int .i64 r43.2.1), (23, .int .i64 r43.2.2), (27, pt g50 0), (28, .int .i64 r47.2), (32, str r57.2), (34, .int .i64 r62.2), (35, v67), (224, .bool t127)] ?_ ?_
      · rcases Bool.eq_false_or_eq_true (r13.2 != (r9.1 == 0)) with hb129 | hb129
        · obtain rfl := orT h128 hb129
          refine QJ.off rfl rfl (cB hb129) rfl rfl ?_
          refine QJ.off rfl rfl (cB hb129) rfl rfl ?_
          refine QJ.off_undef rfl rfl rfl rfl ?_
          refine QJ.off_undef rfl rfl rfl rfl ?_
          refine QJ.off_undef rfl rfl rfl rfl ?_
          refine QJ.off_undef rfl rfl rfl rfl ?_
          refine QJ.off rfl rfl (cB hb129) rfl rfl ?_
          refine QJ.step (YldS.yld (y_pick_t (cB hb129) rfl)) rfl ?_
          exact QJ.cut_end ⟨rfl, rfl, rfl, rfl, rfl, rfl, rfl, rfl, rfl, rfl, rfl, rfl, rfl, rfl, rfl, rfl, rfl, rfl, trivial⟩
        · replace h128 := orF h128 hb129
          refine QJ.on rfl rfl (cB hb129) (YldS.yld (y_move rfl)) rfl ?_
          refine QJ.on rfl rfl (cB hb129) (YldS.yld (y_move rfl)) rfl ?_
          obtain ⟨t130, h131, h128⟩ := bindS h128
          refine QJ.cut 5 [(3, str r7), (5, .int .i64 r9.2), (12, pt g26 0), (13, str r23.2.1), (14, str r23.2.2), (15, pt g31 0), (16, .int .i64 r28.2), (19, pt g41 0), (20, str r38.2), (21, .int .i64 r43.1), (22, .int .i64 r43.2.1), (23, .int .i64 r43.2.2), (27, pt g50 0), (28, .int .i64 r47.2), (32, str r57.2), (34, .int .i64 r62.2), (35, v67), (216, .bool (r13.2 != (r9.1 == 0))), (223, .bool t130)] ?_ ?_
          · rcases Bool.eq_false_or_eq_true r13.2 with hb132 | hb132
            · replace h131 := andT h131 hb132
              refine QJ.on rfl rfl (cB hb132) (YldS.yld (y_loadBN (k := 18) (off := 0) (us := [v15]) rfl Try.isAgg60 Try.sizeOf60 rfl rfl)) rfl ?_
              obtain ⟨r133, h134, h131⟩ := bindS h131
              refine QJ.on rfl rfl (cB hb132) (y_call Try.call59 rfl (RetG.quiet fun w hw => ok_i_LayoutText h134 w _ (hw.row_rd (k := 19) rfl) (hw.row_sp (k := 19) rfl))) rfl ?_
              refine QJ.on rfl rfl (cB hb132) (YldS.yld (y_move rfl)) rfl ?_
              refine QJ.on rfl rfl (cB hb132) (YldS.yld (y_binS rfl rfl rfl)) rfl ?_
              refine QJ.on rfl rfl (cB hb129) (YldS.yld (y_pick_t (cB hb132) rfl)) rfl ?_
              obtain rfl := Option.some.inj h131
              exact QJ.cut_end ⟨rfl, rfl, rfl, rfl, rfl, rfl, rfl, rfl, rfl, rfl, rfl, rfl, rfl, rfl, rfl, rfl, rfl, rfl, rfl, trivial⟩
            · obtain rfl := andF h131 hb132
              refine QJ.off rfl rfl (cB hb132) rfl rfl ?_
              refine QJ.off rfl rfl (cB hb132) rfl rfl ?_
              refine QJ.off rfl rfl (cB hb132) rfl rfl ?_
              refine QJ.off rfl rfl (cB hb132) rfl rfl ?_
              refine QJ.on rfl rfl (cB hb129) (YldS.yld (y_pick_f (cB hb132) rfl)) rfl ?_
              exact QJ.cut_end ⟨rfl, rfl, rfl, rfl, rfl, rfl, rfl, rfl, rfl, rfl, rfl, rfl, rfl, rfl, rfl, rfl, rfl, rfl, rfl, trivial⟩
          refine QJ.step (YldS.yld (y_pick_f (cB hb129) rfl)) rfl ?_
          obtain rfl := Option.some.inj h128
          exact QJ.cut_end ⟨rfl, rfl, rfl, rfl, rfl, rfl, rfl, rfl, rfl, rfl, rfl, rfl, rfl, rfl, rfl, rfl, rfl, rfl, trivial⟩
      refine QJ.step (YldS.yld (y_move rfl)) rfl ?_
      obtain ⟨t135, h136, hm⟩ := bindS hm
      refine QJ.cut 3 [(3, str r7), (5, .int .i64 r9.2), (12, pt g26 0), (13, str r23.2.1), (14, str r23.2.2), (15, pt g31 0), (16, .int .i64 r28.2), (19, pt g41 0), (20, str r38.2), (21, .int .i64 r43.1), (22, .int .i64 r43.2.1), (23, .int .i64 r43.2.2), (27, pt g50 0), (28, .int .i64 r47.2), (32, str r57.2), (34, .int .i64 r62.2), (35, v67), (228, .bool t135)] ?_ ?_
      · rcases Bool.eq_false_or_eq_true t127 with hb137 | hb137
        · obtain rfl := orT h136 hb137
          refine QJ.off rfl rfl (cB hb137) rfl rfl ?_
          refine QJ.off rfl rfl (cB hb137) rfl rfl ?_
          refine QJ.step (YldS.yld (y_pick_t (cB hb137) rfl)) rfl ?_
          exact QJ.cut_end ⟨rfl, rfl, rfl, rfl, rfl, rfl, rfl, rfl, rfl, rfl, rfl, rfl, rfl, rfl, rfl, rfl, rfl, rfl, trivial⟩
        · replace h136 := orF h136 hb137
          refine QJ.on rfl rfl (cB hb137) (YldS.yld (y_move rfl)) rfl ?_
          refine QJ.on rfl rfl (cB hb137) (YldS.yld (y_bin rfl rfl rfl)) rfl ?_
          refine QJ.step (YldS.yld (y_pick_f (cB hb137) rfl)) rfl ?_
          obtain rfl := Option.some.inj h136
          exact QJ.cut_end ⟨rfl, rfl, rfl, rfl, rfl, rfl, rfl, rfl, rfl, rfl, rfl, rfl, rfl, rfl, rfl, rfl, rfl, rfl, trivial⟩
      refine QJ.step (YldS.yld (y_move rfl)) rfl ?_
      obtain ⟨t138, h139, hm⟩ := bindS hm
      refine QJ.cut 5 [(12, pt g26 0), (13, str r23.2.1), (14, str r23.2.2), (15, pt g31 0), (16, .int .i64 r28.2), (19, pt g41 0), (20, str r38.2), (21, .int .i64 r43.1), (22, .int .i64 r43.2.1), (23, .int .i64 r43.2.2), (27, pt g50 0), (28, .int .i64 r47.2), (32, str r57.2), (34, .int .i64 r62.2), (35, v67), (234, .bool t138)] ?_ ?_
      · rcases Bool.eq_false_or_eq_true t135 with hb140 | hb140
        · obtain rfl := orT h139 hb140
          refine QJ.off rfl rfl (cB hb140) rfl rfl ?_
          refine QJ.off rfl rfl (cB hb140) rfl rfl ?_
          refine QJ.off rfl rfl (cB hb140) rfl rfl ?_
          refine QJ.off rfl rfl (cB hb140) rfl rfl ?_
          refine QJ.step (YldS.yld (y_pick_t (cB hb140) rfl)) rfl ?_
          exact QJ.cut_end ⟨rfl, rfl, rfl, rfl, rfl, rfl, rfl, rfl, rfl, rfl, rfl, rfl, rfl, rfl, rfl, rfl, trivial⟩
        · replace h139 := orF h139 hb140
          refine QJ.on rfl rfl (cB hb140) (YldS.yld (y_move rfl)) rfl ?_
          refine QJ.on rfl rfl (cB hb140) (YldS.yld (y_move rfl)) rfl ?_
          refine QJ.on rfl rfl (cB hb140) (YldS.yld (y_lenStr Try.runUnderlying9 rfl)) rfl ?_
          refine QJ.on rfl rfl (cB hb140) (YldS.yld (y_bin rfl rfl rfl)) rfl ?_
          refine QJ.step (YldS.yld (y_pick_f (cB hb140) rfl)) rfl ?_
          obtain rfl := Option.some.inj h139
          exact QJ.cut_end ⟨rfl, rfl, rfl, rfl, rfl, rfl, rfl, rfl, rfl, rfl, rfl, rfl, rfl, rfl, rfl, rfl, trivial⟩
      refine QJ.done ?_
      refine PJ.next ?_
      refine WJ.cond (t := t138) rfl (fun hb141 => ?_) (fun hb141 => ?_)
      · replace hm := ifT hm hb141
        refine WJ.seq ?_
        refine WJ.quiet ?_
        refine QJ.step (YldS.yld (y_assign rfl)) rfl ?_
        refine QJ.done ?_
        refine PJ.next ?_
        refine WJ.ret ?_
        refine PJ.then_ret ?_
        obtain rfl := Option.some.inj hm
        refine PJ.sel (L' := []) [] ⟨List.nodup_nil, rfl⟩ ?_
        exact PJ.retn (vs := [.bool false]) Try.results6 ⟨rfl, trivial⟩ ⟨rfl, rfl⟩
      · replace hm := ifF hm hb141
        refine WJ.skip ?_
        refine PJ.next ?_
        obtain ⟨kj142, hk143, hm⟩ := withK_open hm
        refine WJ.join (X := Unit) (fun (_ : Unit) => kj142  = some r) (fun (_ : Unit) => [(19, pt g41 0), (20, str r38.2), (21, .int .i64 r43.1), (22, .int .i64 r43.2.1), (23, .int .i64 r43.2.2), (27, pt g50 0), (28, .int .i64 r47.2), (32, str r57.2), (34, .int .i64 r62.2), (35, v67)]) (fun (_ : Unit) => [row v67 2 fI64 r65.1, box g50 60 [v49], row v49 9 fStr r47.1.rows, box g41 60 [v40], row v40 9 fStr r38.1.rows]) ?_ ?_
        · clear hk143
          refine WJ.seq ?_
          refine WJ.quiet ?_
          refine QJ.step (YldS.yld (y_move rfl)) rfl ?_
          refine QJ.step (YldS.yld (y_bin rfl rfl rfl)) rfl ?_
          refine QJ.done ?_
          refine PJ.next ?_
          refine WJ.cond (t := (r28.2 == 0)) rfl (fun hb144 => ?_) (fun hb144 => ?_)
          · replace hm := ifT hm hb144
            refine WJ.seq ?_
            refine WJ.reg ?_
            refine SJ.q (YldS.yld (y_loadBN (k := 12) (off := 0) (us := [v30]) rfl Try.isAgg60 Try.sizeOf60 rfl rfl)) rfl ?_
            refine SJ.q (YldS.yld (y_move rfl)) rfl ?_
            refine SJ.q (YldS.yld (y_move rfl)) rfl ?_
            obtain ⟨r145, h146, hm⟩ := bindS hm
            refine SJ.call Try.call48 rfl (fun w hw => ok_i_ExchangeLetters h146 w _ (hw.row_rd (k := 13) rfl)) rfl ?_
            rintro _ _ ⟨v147, rfl, rfl⟩
            refine SJ.q (YldS.yld (y_move rfl)) rfl ?_
            refine SJ.q (YldS.yld (y_extract rfl rfl)) rfl ?_
            refine SJ.q (YldS.yld (y_extract rfl rfl)) rfl ?_
            refine SJ.alloc (cs := [.slice none 0 0]) Try.zeroValue60 rfl rfl fun g148 => ?_
            refine SJ.nil_row 9 fStr ?_
            refine SJ.rowCells (k := 2) rfl fun hc149 => ?_
            refine SJ.storeL (k := 1) (off := 0) (us := [v147]) rfl rfl rfl rfl Try.sizeOf60 rfl (by simp only [List.all_cons, hc149.2]; rfl) ?_
            refine SJ.erase 0 ?_
            refine SJ.q (YldS.yld (y_assign rfl)) rfl ?_
            refine SJ.nil ?_
            refine PJ.next ?_
            refine WJ.seq ?_
            refine WJ.quiet ?_
            refine QJ.step (YldS.yld (y_move rfl)) rfl ?_
            refine QJ.step (YldS.yld (y_bin rfl rfl rfl)) rfl ?_
            refine QJ.step (YldS.yld (y_move rfl)) rfl ?_
            obtain ⟨t150, h151, hm⟩ := bindS hm
            refine QJ.cut 5 [(19, pt g41 0), (20, str r38.2), (21, .int .i64 r43.1), (22, .int .i64 r43.2.1), (23, .int .i64 r43.2.2), (27, pt g50 0), (28, .int .i64 r47.2), (32, str r57.2), (34, .int .i64 r62.2), (35, v67), (251, .bool t150)] ?_ ?_
            · rcases Bool.eq_false_or_eq_true (r145.2 != 0) with hb152 | hb152
              · obtain rfl := orT h151 hb152
                refine QJ.off rfl rfl (cB hb152) rfl rfl ?_
                refine QJ.off rfl rfl (cB hb152) rfl rfl ?_
                refine QJ.off rfl rfl (cB hb152) rfl rfl ?_
                refine QJ.off rfl rfl (cB hb152) rfl rfl ?_
                refine QJ.step (YldS.yld (y_pick_t (cB hb152) rfl)) rfl ?_
                exact QJ.cut_end ⟨rfl, rfl, rfl, rfl, rfl, rfl, rfl, rfl, rfl, rfl, rfl, trivial⟩
              · replace h151 := orF h151 hb152
                refine QJ.on rfl rfl (cB hb152) (YldS.yld (y_loadBN (k := 0) (off := 0) (us := [v147]) rfl Try.isAgg60 Try.sizeOf60 rfl rfl)) rfl ?_
                refine QJ.on rfl rfl (cB hb152) (YldS.yld (y_loadBN (k := 16) (off := 0) (us := [v25]) rfl Try.isAgg60 Try.sizeOf60 rfl rfl)) rfl ?_
                obtain ⟨r153, h154, h151⟩ := bindS h151
                refine QJ.on rfl rfl (cB hb152) (y_call Try.call58 rfl (RetG.quiet fun w hw => ok_s_SameLayout h154 w _ (hw.row_rd (k := 1) rfl) _ (hw.row_rd (k := 17) rfl))) rfl ?_
                refine QJ.on rfl rfl (cB hb152) (YldS.yld (y_not rfl)) rfl ?_
                refine QJ.step (YldS.yld (y_pick_f (cB hb152) rfl)) rfl ?_
                obtain rfl := Option.some.inj h151
                exact QJ.cut_end ⟨rfl, rfl, rfl, rfl, rfl, rfl, rfl, rfl, rfl, rfl, rfl, trivial⟩
            refine QJ.done ?_
            refine PJ.next ?_
            refine WJ.cond (t := t150) rfl (fun hb155 => ?_) (fun hb155 => ?_)
            · replace hm := ifT hm hb155
              refine WJ.seq ?_
              refine WJ.quiet ?_
              refine QJ.step (YldS.yld (y_assign rfl)) rfl ?_
              refine QJ.done ?_
              refine PJ.next ?_
              refine WJ.ret ?_
              refine PJ.then_ret ?_
              obtain rfl := Option.some.inj hm
              refine PJ.sel (L' := []) [] ⟨List.nodup_nil, rfl⟩ ?_
              exact PJ.retn (vs := [.bool false]) Try.results6 ⟨rfl, trivial⟩ ⟨rfl, rfl⟩
            · replace hm := ifF hm hb155
              refine WJ.skip ?_
              exact PJ.joined () [2, 8, 9, 10, 11] hm ⟨rfl, rfl, rfl, rfl, rfl, rfl, rfl, rfl, rfl, rfl, trivial⟩ ⟨by decide, rfl⟩
          · replace hm := ifF hm hb144
            refine WJ.skip ?_
            exact PJ.joined () [0, 6, 7, 8, 9] hm ⟨rfl, rfl, rfl, rfl, rfl, rfl, rfl, rfl, rfl, rfl, trivial⟩ ⟨by decide, rfl⟩
        · rintro _ hm
          subst hk143
          refine WJ.seq ?_
          refine WJ.seq ?_
          refine WJ.quiet_draw follows (by kernel_rfl) ?_
          refine QJ.step (YldS.yld (y_move rfl)) rfl ?_
          refine QJ.step (YldS.yld (y_bin rfl rfl rfl)) rfl ?_
          refine QJ.step (YldS.yld (y_move rfl)) rfl ?_
          obtain ⟨t156, h157, hm⟩ := bindS hm
          refine QJ.cut 11 [(19, pt g41 0), (27, pt g50 0), (28, .int .i64 r47.2), (32, str r57.2), (34, .int .i64 r62.2), (35, v67), (265, .bool t156)] ?_ ?_
          · rcases Bool.eq_false_or_eq_true (r43.2.2 == 0) with hb158 | hb158
            · replace h157 := andT h157 hb158
              refine QJ.on rfl rfl (cB hb158) (YldS.yld (y_fldB (o := 0) fld60_0 rfl)) rfl ?_
              refine QJ.on rfl rfl (cB hb158) (YldS.yld (y_loadB (k := 3) (off := 0) (v := v40) rfl Try.isAgg24 rfl rfl)) rfl ?_
              refine QJ.on rfl rfl (cB hb158) (YldS.yld (y_move rfl)) rfl ?_
              obtain ⟨e159, h160, h157⟩ := bindS h157
              refine QJ.on rfl rfl (cB hb158) (YldS.yld (y_ixRow (k := 4) (R := fStr) rfl Try.runUnderlying24 Try.sizeOf9 rfl rfl h160)) rfl ?_
              refine QJ.on rfl rfl (cB hb158) (YldS.yld (y_loadR (k := 4) (i := (Int.toNat r43.1)) (off := 0) (u := str e159) rfl Try.isAgg9 rfl (idx_get h160) rfl)) rfl ?_
              refine QJ.on rfl rfl (cB hb158) (YldS.yld (y_move rfl)) rfl ?_
              obtain ⟨c161, h162, h157⟩ := bindS h157
              refine QJ.on rfl rfl (cB hb158) (YldS.yld (y_idxStr Try.runUnderlying9 rfl rfl h162)) rfl ?_
              refine QJ.on rfl rfl (cB hb158) (YldS.yld (y_move rfl)) rfl ?_
              obtain ⟨c163, h164, h157⟩ := bindS h157
              refine QJ.on rfl rfl (cB hb158) (YldS.yld (y_idxStr Try.runUnderlying9 rfl rfl h164)) rfl ?_
              refine QJ.on rfl rfl (cB hb158) (YldS.yld (y_bin8 c161 c163 rfl rfl rfl)) rfl ?_
              refine QJ.step (YldS.yld (y_pick_t (cB hb158) rfl)) rfl ?_
              obtain rfl := Option.some.inj h157
              exact QJ.cut_end ⟨rfl, rfl, rfl, rfl, rfl, rfl, rfl, trivial⟩
            · obtain rfl := andF h157 hb158
              refine QJ.off rfl rfl (cB hb158) rfl rfl ?_
              refine QJ.off rfl rfl (cB hb158) rfl rfl ?_
              refine QJ.off rfl rfl (cB hb158) rfl rfl ?_
              refine QJ.off rfl rfl (cB hb158) rfl rfl ?_
              refine QJ.off rfl rfl (cB hb158) rfl rfl ?_
              refine QJ.off rfl rfl (cB hb158) rfl rfl ?_
              refine QJ.off rfl rfl (cB hb158) rfl rfl ?_
              refine QJ.off rfl rfl (cB hb158) rfl rfl ?_
              refine QJ.off rfl rfl (cB hb158) rfl rfl ?_
              refine QJ.off rfl rfl (cB hb158) rfl rfl ?_
              refine QJ.step (YldS.yld (y_pick_f (cB hb158) rfl)) rfl ?_
              exact QJ.cut_end ⟨rfl, rfl, rfl, rfl, rfl, rfl, rfl, trivial⟩
          refine QJ.done ?_
          refine PJ.next ?_
          refine WJ.cond (t := t156) rfl (fun hb165 => ?_) (fun hb165 => ?_)
          · replace hm := ifT hm hb165
            refine WJ.seq ?_
            refine WJ.quiet ?_
            refine QJ.step (YldS.yld (y_assign rfl)) rfl ?_
            refine QJ.done ?_
            refine PJ.next ?_
            refine WJ.ret ?_
            refine PJ.then_ret ?_
            obtain rfl := Option.some.inj hm
            refine PJ.sel (L' := []) [] ⟨List.nodup_nil, rfl⟩ ?_
            exact PJ.retn (vs := [.bool false]) Try.results6 ⟨rfl, trivial⟩ ⟨rfl, rfl⟩
          · replace hm := ifF hm hb165
            refine WJ.skip ?_
            refine PJ.next ?_
            obtain ⟨kj166, hk167, hm⟩ := withK_open hm
            refine WJ.join (X := Unit) (fun (_ : Unit) => kj166  = some r) (fun (_ : Unit) => [(32, str r57.2), (34, .int .i64 r62.2), (35, v67)]) (fun (_ : Unit) => [row v67 2 fI64 r65.1]) ?_ ?_
            · clear hk167
              refine WJ.seq ?_
              refine WJ.quiet ?_
              refine QJ.step (YldS.yld (y_move rfl)) rfl ?_
              refine QJ.step (YldS.yld (y_bin rfl rfl rfl)) rfl ?_
              refine QJ.done ?_
              refine PJ.next ?_
              refine WJ.cond (t := (r47.2 == 0)) rfl (fun hb168 => ?_) (fun hb168 => ?_)
              · replace hm := ifT hm hb168
                refine WJ.seq ?_
                refine WJ.reg ?_
                refine SJ.q (YldS.yld (y_loadBN (k := 1) (off := 0) (us := [v49]) rfl Try.isAgg60 Try.sizeOf60 rfl rfl)) rfl ?_
                obtain ⟨r169, h170, hm⟩ := bindS hm
                refine SJ.call Try.call53 rfl (fun w hw => ok_i_MirrorLayout h170 w _ (hw.row_rd (k := 2) rfl)) rfl ?_
                rintro _ _ ⟨v171, rfl, rfl⟩
                refine SJ.q (YldS.yld (y_move rfl)) rfl ?_
                refine SJ.q (YldS.yld (y_extract rfl rfl)) rfl ?_
                refine SJ.q (YldS.yld (y_extract rfl rfl)) rfl ?_
                refine SJ.alloc (cs := [.slice none 0 0]) Try.zeroValue60 rfl rfl fun g172 => ?_
                refine SJ.nil_row 9 fStr ?_
                refine SJ.rowCells (k := 2) rfl fun hc173 => ?_
                refine SJ.storeL (k := 1) (off := 0) (us := [v171]) rfl rfl rfl rfl Try.sizeOf60 rfl (by simp only [List.all_cons, hc173.2]; rfl) ?_
                refine SJ.erase 0 ?_
                refine SJ.q (YldS.yld (y_assign rfl)) rfl ?_
                refine SJ.nil ?_
                refine PJ.next ?_
                refine WJ.seq ?_
                refine WJ.quiet ?_
                refine QJ.step (YldS.yld (y_move rfl)) rfl ?_
                refine QJ.step (YldS.yld (y_bin rfl rfl rfl)) rfl ?_
                refine QJ.step (YldS.yld (y_move rfl)) rfl ?_
                obtain ⟨t174, h175, hm⟩ := bindS hm
                refine QJ.cut 5 [(32, str r57.2), (34, .int .i64 r62.2), (35, v67), (280, .bool t174)] ?_ ?_
                · rcases Bool.eq_false_or_eq_true (r169.2 != 0) with hb176 | hb176
                  · obtain rfl := orT h175 hb176
                    refine QJ.off rfl rfl (cB hb176) rfl rfl ?_
                    refine QJ.off rfl rfl (cB hb176) rfl rfl ?_
                    refine QJ.off rfl rfl (cB hb176) rfl rfl ?_
                    refine QJ.off rfl rfl (cB hb176) rfl rfl ?_
                    refine QJ.step (YldS.yld (y_pick_t (cB hb176) rfl)) rfl ?_
                    exact QJ.cut_end ⟨rfl, rfl, rfl, rfl, trivial⟩
                  · replace h175 := orF h175 hb176
                    refine QJ.on rfl rfl (cB hb176) (YldS.yld (y_loadBN (k := 0) (off := 0) (us := [v171]) rfl Try.isAgg60 Try.sizeOf60 rfl rfl)) rfl ?_
                    refine QJ.on rfl rfl (cB hb176) (YldS.yld (y_loadBN (k := 5) (off := 0) (us := [v40]) rfl Try.isAgg60 Try.sizeOf60 rfl rfl)) rfl ?_
                    obtain ⟨r177, h178, h175⟩ := bindS h175
                    refine QJ.on rfl rfl (cB hb176) (y_call Try.call58 rfl (RetG.quiet fun w hw => ok_s_SameLayout h178 w _ (hw.row_rd (k := 1) rfl) _ (hw.row_rd (k := 6) rfl))) rfl ?_
                    refine QJ.on rfl rfl (cB hb176) (YldS.yld (y_not rfl)) rfl ?_
                    refine QJ.step (YldS.yld (y_pick_f (cB hb176) rfl)) rfl ?_
                    obtain rfl := Option.some.inj h175
                    exact QJ.cut_end ⟨rfl, rfl, rfl, rfl, trivial⟩
                refine QJ.done ?_
                refine PJ.next ?_
                refine WJ.cond (t := t174) rfl (fun hb179 => ?_) (fun hb179 => ?_)
                · replace hm := ifT hm hb179
                  refine WJ.seq ?_
                  refine WJ.quiet ?_
                  refine QJ.step (YldS.yld (y_assign rfl)) rfl ?_
                  refine QJ.done ?_
                  refine PJ.next ?_
                  refine WJ.ret ?_
                  refine PJ.then_ret ?_
                  obtain rfl := Option.some.inj hm
                  refine PJ.sel (L' := []) [] ⟨List.nodup_nil, rfl⟩ ?_
                  exact PJ.retn (vs := [.bool false]) Try.results6 ⟨rfl, trivial⟩ ⟨rfl, rfl⟩
                · replace hm := ifF hm hb179
                  refine WJ.skip ?_
                  exact PJ.joined () [2] hm ⟨rfl, rfl, rfl, trivial⟩ ⟨by decide, rfl⟩
              · replace hm := ifF hm hb168
                refine WJ.skip ?_
                exact PJ.joined () [0] hm ⟨rfl, rfl, rfl, trivial⟩ ⟨by decide, rfl⟩
            · rintro _ hm
              subst hk167
              refine WJ.seq ?_
              refine WJ.quiet ?_
              refine QJ.step (YldS.yld (y_move rfl)) rfl ?_
              refine QJ.step (YldS.yld (y_bin rfl rfl rfl)) rfl ?_
              refine QJ.step (YldS.yld (y_move rfl)) rfl ?_
              obtain ⟨t180, h181, hm⟩ := bindS hm
              refine QJ.cut 6 [(289, .bool t180)] ?_ ?_
              · rcases Bool.eq_false_or_eq_true (r62.2 != 0) with hb182 | hb182
                · obtain rfl := orT h181 hb182
                  refine QJ.off rfl rfl (cB hb182) rfl rfl ?_
                  refine QJ.off rfl rfl (cB hb182) rfl rfl ?_
                  refine QJ.off rfl rfl (cB hb182) rfl rfl ?_
                  refine QJ.off rfl rfl (cB hb182) rfl rfl ?_
                  refine QJ.off rfl rfl (cB hb182) rfl rfl ?_
                  refine QJ.step (YldS.yld (y_pick_t (cB hb182) rfl)) rfl ?_
                  exact QJ.cut_end ⟨rfl, trivial⟩
                · replace h181 := orF h181 hb182
                  refine QJ.on rfl rfl (cB hb182) (YldS.yld (y_move rfl)) rfl ?_
                  obtain ⟨r183, h184, h181⟩ := bindS h181
                  refine QJ.on rfl rfl (cB hb182) (y_call Try.call40 rfl (RetG.quiet fun w hw => ok_w_f6sum h184 w _ (hw.row_rd (k := 0) rfl))) rfl ?_
                  refine QJ.on rfl rfl (cB hb182) (YldS.yld (y_move rfl)) rfl ?_
                  refine QJ.on rfl rfl (cB hb182) (YldS.yld (y_lenStr Try.runUnderlying9 rfl)) rfl ?_
                  refine QJ.on rfl rfl (cB hb182) (YldS.yld (y_bin rfl rfl rfl)) rfl ?_
                  refine QJ.step (YldS.yld (y_pick_f (cB hb182) rfl)) rfl ?_
                  obtain rfl := Option.some.inj h181
                  exact QJ.cut_end ⟨rfl, trivial⟩
              refine QJ.step (YldS.yld (y_assign rfl)) rfl ?_
              refine QJ.done ?_
              refine PJ.next ?_
              refine WJ.ret ?_
              obtain rfl := Option.some.inj hm
              refine PJ.sel (L' := []) [] ⟨List.nodup_nil, rfl⟩ ?_
              exact PJ.retn (vs := [.bool t180]) Try.results6 ⟨rfl, trivial⟩ ⟨rfl, rfl⟩

end Go.Proofs.Ytlmpbacboapkaaa
