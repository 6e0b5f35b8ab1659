/-
  Proved: the call of FnRankings returns true for every input, and each argument reads afterwards as it read before. No conditions.
-/
import Derived.Test.YtikkolkickclhaaDoorRows
import Derived.Test.YtikkolkickclhaaDoorFnRankingsW3
import Derived.Test.YtikkolkickclhaaDoorFnRankingsP18
import Derived.Test.YtikkolkickclhaaDoorCards
import Derived.Test.YtikkolkickclhaaDoorTie
import Derived.SevenTiedAt
import Derived.LaidLaws
import Derived.LaidHandle
import Derived.Stop.Joined
import Derived.Stop.LaidErr
import Derived.Deep.DeepLaidRun
import Derived.Lib.LaidTab
namespace Go.Proofs.YtikkolkickclhaaDoor
open Go.RowKit Go.ChangeShapes Go.WideShapes Go.ChangeAt Go.Proofs
set_option linter.unusedVariables false
set_option linter.unusedSimpArgs false

theorem own_ : ownKnob Tryd.prog.godebug = none := by kernel_rfl
theorem laidOut_ : laidOutB Tryd.prog = true := by kernel_rfl

def cellsOfD : DataW Unit → Array Value
  | .agg xs => (xs.filterMap fun x => match x with
    | .lit (.int k z) => some (Value.int k z)
    | _ => none).toArray
  | _ => #[]

theorem laidH {P : Program} {l : List (String × DataW Unit)} {w : World} (hf : (l.filter fun x => x.2.handleName?.isSome) = []) : laidMetH P l w ↔ laidMet P l w := by
  unfold laidMetH
  rw [hf]

theorem wants_all {P : Program} {l : List TypeId} (h : (l.all fun t => P.wantsStandIn t == false) = true) {j : Nat} {t : TypeId} (ht : l.toArray[j]? = some t) : P.wantsStandIn t = false := by
  have h1 := List.all_eq_true.1 h t (List.mem_of_getElem? (by simpa using ht))
  simpa using h1

noncomputable def laidWorld (os : Os) : World :=
  let w0 := World.holding Tryd.prog os ⟨#[], #[], []⟩
  { w0 with heap := ((w0.heap.modify 2 (fun | .cells _ t frozen => .cells (cellsOfD Rows.laid_math_bits_deBruijn32tab) t frozen | o => o)).modify 3 (fun | .cells _ t frozen => .cells (cellsOfD Rows.laid_math_bits_deBruijn64tab) t frozen | o => o)).modify 0 (fun | .cells _ t frozen => .cells (cellsOfD Rows.laid_internal_strconv_uint64pow10) t frozen | o => o) }

theorem laidNone : (Rows.fnRankingsRow.laid.filter fun x => x.2.handleName?.isSome) = [] := by kernel_rfl

theorem laidWorld_met (os : Os) (args : Array Value) : laidMetH Tryd.prog Rows.fnRankingsRow.laid ((laidWorld os).forCall (fun _ _ => 0) ⟨#[], args, []⟩).memory :=
  (laidH laidNone).2 (laidMet_of_run3 8 (by kernel_rfl) (by kernel_rfl) (by kernel_rfl))

theorem laid_tab {W : World} (h : laidMetH Tryd.prog Rows.fnRankingsRow.laid W) : Tab Tryd.prog tabNm W (cx W).Fz := by
  have h1 : laidMet Tryd.prog ((tabNm, Lib.tabData .u64 Lib.pow10Tab) :: Rows.fnRankingsRow.laid.drop 3) W := (laidMet.tail (laidMet.tail ((laidH laidNone).1 h)))
  have hg : Tryd.prog.globalNamed tabNm = some 0 := by kernel_rfl
  have h2 : Lib.TabIs Tryd.prog W tabNm .u64 Lib.pow10Tab := Lib.tabIs_of_head (g := 0) (t := 124) (e := 75) (n := 20) hg (by kernel_rfl) Tryd.underlying124 Tryd.underlying75 (by kernel_rfl) (by kernel_rfl) h1
  refine ⟨h2, 0, hg, ?_, fun h => h⟩
  unfold Lib.TabIs World.var? at h2
  rw [hg] at h2
  simp only [Option.bind_some] at h2
  split at h2
  · rename_i cs _ _ he
    exact (Array.getElem?_eq_some_iff.1 he).1
  · cases h2

set_option maxRecDepth 100000 in
theorem lifted_FnRankings (os : Os) (started : os.Started) (H : Type) (enc : TypeId × Value → H) :
    ReturnsInHanded {} Tryd.checked os 3 .any (fun w args => (Rows.fnRankingsSpec.pre enc Tryd.prog Tryd.f3 [] false w args ∧ laidMetH Tryd.prog Rows.fnRankingsRow.laid w) ∧ sizedMet enc Tryd.prog Tryd.f3 (OpenSpec.ofChange Rows.fnRankingsSpec) false w args) (Rows.fnRankingsSpec.post enc Tryd.prog Tryd.f3 false true false false) := by
  refine returnsInHanded_of_change_and (C := Tryd.checked) (X := fun w _ => laidMetH Tryd.prog Rows.fnRankingsRow.laid w) (fun _ _ _ hh h => h.of_heap hh) own_ started (by kernel_rfl) Tryd.func3
    (ChangeSpec.witness_at (enc := enc) (C := Tryd.checked) (os := os) (X := fun w _ => laidMetH Tryd.prog Rows.fnRankingsRow.laid w) false (laidWorld os) #[.slice none 0 0] 8 rfl (by kernel_rfl) (by kernel_rfl) (by kernel_rfl) (by kernel_rfl) (by kernel_rfl) (laidWorld_met os _)) ?_
  intro W base args ds gs before hval0 hW hcnd _ hL _
  have hT := laid_tab hL
  have hval : ∀ (j : Nat) t v, Tryd.f3.params[j]? = some t → args[j]? = some v → Value.okWide Tryd.prog W .any base t v := hval0
  have hW' := hW
  obtain ⟨p, q, hA0, hV, rfl, hfz, hnd⟩ := hW
  have hA : DataW.TrodAll enc Tryd.prog W 0 (fun _ => true) true Tryd.f3.params.toList args.toList ds p := hA0
  rw [Tryd.params3] at hA hval
  obtain ⟨v0, vs0, d0, ds0, p0, q0, hargs, rfl, rfl, h0, r0⟩ := trodAll_cons hA
  obtain ⟨rfl, rfl, rfl⟩ := trodAll_nil r0
  obtain rfl : args = #[v0] := by cases args; simp_all
  obtain ⟨rfl, rfl⟩ := trodVars_none hV
  have k0 := h0
  have lt0 : ∀ x ∈ p0, x.block < W.heap.size := by obtain ⟨m, hm⟩ := k0; exact DataW.trod_lt m _ _ _ hm
  obtain ⟨a0, rd0, w0'⟩ := open_slice_arg Tryd.underlying22 (by kernel_rfl) (opens_byte Tryd.underlying5) (hval 0 22 v0 rfl rfl) h0
  clear hA0 hval0
  obtain ⟨N, hN⟩ := law_FnRankings a0 w0'
  have hcall := Ret.bel (ok_w_FnRankings hN W hT v0 rd0)
  refine hcall.mono fun e W' ⟨he, bel⟩ => ?_
  subst he
  exact ⟨_, rfl, _, _, _, [], _, [], hW', trodAll_mk1 (shut_bool Tryd.underlying4 _), (trodAll_cons_mk (Below.trod laidOut_ (by kernel_rfl) (of_decide_eq_true (by kernel_rfl)) k0 bel lt0) trodAll_mk0), rfl, bel.frame _, fun h => by cases h⟩

theorem FnRankings_row : Rows.FnRankingsSaid :=
  OpenClaim.holds_of_wide 3 Tryd.f3 rfl rfl rfl rfl rfl rfl rfl ⟨rfl, rfl, rfl, rfl, rfl⟩ rfl rfl rfl rfl rfl (by kernel_rfl) Tryd.func3 (by kernel_rfl)
    (of_decide_eq_true (by kernel_rfl)) (by unfold Func.isWrapper; first | (rw [if_pos (by decide +kernel)]; kernel_rfl) | (rw [if_neg (by decide +kernel)]; exact ⟨rfl, rfl⟩))
    (fun os started H enc _ => lifted_FnRankings os started H enc)

theorem FnRankings_holds : Rows.FnRankingsCardSaid :=
  Claim7.holds_tied_plain_at .later [] [.data, .data, .data] true Rows.fnRankingsCard.stood.harness false
    FnRankings_row (fun _ h => by cases h) (by kernel_rfl) (fun _ h => by cases h) fnRankings_row_tie rfl ⟨rfl, rfl⟩ (by kernel_rfl) rfl
    (fun f fn hf hfn => by
      obtain rfl : f = 3 := Option.some.inj ((show Tryd.prog.funcNamed Rows.fnRankingsRow.func = some 3 by kernel_rfl).symm.trans hf) |>.symm
      obtain rfl : fn = Tryd.f3 := (Option.some.inj (Tryd.func3.symm.trans hfn)).symm
      refine ⟨by kernel_rfl, fun j t ht => ?_⟩
      rw [Tryd.params3] at ht
      exact wants_all (P := Tryd.prog) (by kernel_rfl) ht)
    (by kernel_rfl)

#print axioms FnRankings_holds
end Go.Proofs.YtikkolkickclhaaDoor
