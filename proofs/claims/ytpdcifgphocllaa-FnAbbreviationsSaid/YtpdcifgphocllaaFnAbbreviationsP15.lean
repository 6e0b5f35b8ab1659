/-
  Plain lemmas on these functions. No conditions but those that each states.
-/
import Derived.Test.YtpdcifgphocllaaFnAbbreviationsP14
namespace Go.Proofs.Ytpdcifgphocllaa
set_option linter.unusedVariables false
set_option linter.unusedSimpArgs false
/-! The law of abbreviations. -/
theorem law_FnAbbreviations (code : List UInt8) (hlen : wfL wfByte code) : ∃ N, w_FnAbbreviations N code = some true := by
  have _ := hlen
  refine ⟨6000, ?_⟩
  suffices h : ∀ N, 5000 < N → w_FnAbbreviations N code = some true from h 6000 (by omega)
  intro N hN
  unfold w_FnAbbreviations w_f6big
  rw [Option.bind_some]
  cases decide ((code.length : Int) > 4096) with
  | true => rfl
  | false =>
    rw [cond_false]
    obtain ⟨d, d1, ⟨d2, d3⟩, d4⟩ := dShort code N (by omega)
    obtain ⟨a, a1, ⟨a2, a3⟩, a4⟩ := dAdd code N (by omega)
    obtain ⟨x, x1, x2⟩ := dText code
    obtain ⟨t, t1, t2⟩ := dRead code
    obtain ⟨m, m1, m2⟩ := dSame code N (by omega)
    have hz : ∀ y ∈ d.1, SzA y := fun y hy => (d3 y hy).a
    obtain ⟨r, c, v, s1, s2, s3, s4, s5⟩ := short_ok d.1 (by omega) hz d.2 (by omega) N (by omega)
    obtain ⟨er, ec, e1, e2, e3⟩ := exp_ok d.1 (by omega) hz d.2 (by omega) N (by omega)
    obtain ⟨ur, uc, u1, u2, u3⟩ := use_ok d.1 (by omega) hz d.2 (by omega) N (by omega)
    obtain ⟨br, bc, b1, b2, b3⟩ := dbt_ok d.1 (by omega) hz N (by omega)
    obtain ⟨ar, ac, g1, g2, g3⟩ := add_ok a.1 (by omega) (fun y hy => (a3 y hy).a) a.2 a4.a N (by omega)
    obtain ⟨h1, h2⟩ := text_ok x x2.a N (by omega)
    have hxl := tx_len x
    obtain ⟨k1, k2⟩ := read_ok (tx x) (by omega) N (by omega)
    obtain ⟨k3, k4⟩ := read_ok t (by omega) N (by omega)
    obtain ⟨w, w1, w2⟩ := same_ok m.1 m.2 (by omega) N (by omega)
    obtain ⟨v1, v2⟩ := vl_ok d.1 (by omega) hz N (by omega)
    have f1 := ints_ok ur (by omega) N (by omega)
    have f2 := ints_ok br (by omega) N (by omega)
    have har : ar.length ≤ 32 := by
      rcases g3 with ⟨_, g, _⟩ | ⟨_, g⟩
      · have := g.n; omega
      · rw [g]; simp
    have f3 := sameS_refl ar (by omega) N (by omega)
    have v3 : s_ValidAbbrs N d.1 = some (vL d.1) := by unfold s_ValidAbbrs; rw [v2]; rfl
    have bn : ∀ x : Int, (x != x) = false := fun x => by simp
    have bb : ∀ x : Bool, (x != x) = false := fun x => by simp
    have bs' : ∀ x : Str, (x != x) = false := fun x => by simp
    have ht : ((rs (tx x)).2 != (tx x != [])) = false ∧ ((rs (tx x)).2 && !Abbr.beq (rs (tx x)).1 x) = false := by
      rcases tx_read x with ⟨_, q1, q2⟩ | ⟨q1, q2⟩
      · rw [q1, q2]; exact ⟨rfl, by rw [abq]; rfl⟩
      · rw [q1, q2]; exact ⟨rfl, rfl⟩
    rw [d1, Option.bind_some]
    simp only [s1, s2, s3, s4, e1, e2, u1, u2, b1, b2, a1, g1, g2, x1, h1, h2, k1, t1, k3, k4, m1, w1, w2, v1, v3, f1, f2, f3, Option.bind_some, bn, bb, bs', orO_some, andO_some, Bool.not_true, Bool.or_self, ht.1, ht.2, abq, cond_false]
    have last : (andO (ac == 0) ((orO ((ar.length : Int) != w64 ((a.1.length : Int) + 1)) ((i_ValidAbbrs N ar).bind fun r144 => some (!r144))).bind fun t141 => some t141)) = some false := by
      rcases g3 with ⟨rfl, g, gl⟩ | ⟨gc, _⟩
      · have hg := g.n
        have z : ((ar.length : Int) != w64 ((a.1.length : Int) + 1)) = false := by
          rw [w64_nat _ (by omega), gl]; simp
        rw [z, (vl_ok ar (by omega) g.sz N (by omega)).1, (vL_iff ar).2 g]
        rfl
      · have z : (ac == 0) = false := by simpa using gc
        rw [z]; rfl
    rw [last]
    simp only [Option.bind_some, cond_false]
    by_cases hc : c = 0
    · subst hc
      obtain ⟨hv, hV, W, hW, hb, hr⟩ := s5 rfl
      obtain ⟨y1, y2, y3⟩ := short_back hV hW hb
      rw [← hr] at y1 y3
      obtain ⟨er', ec', e1', e2', e3'⟩ := exp_ok d.1 (by omega) hz r (by omega) N (by omega)
      obtain ⟨z1, z2⟩ := e3' _ hV y1
      rw [e1', z1, z2, y2]
      have q1 : decide ((r.length : Int) ≤ (d.2.length : Int)) = true := decide_eq_true (by omega)
      simp only [Option.bind_some, bn, cond_false, andO_some, q1, hv, beq_self_eq_true, Bool.and_self]
    · have z : (c != 0) = true := by simpa using hc
      rw [z]; rfl
end Go.Proofs.Ytpdcifgphocllaa
