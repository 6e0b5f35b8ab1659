/-
  The stable sort of the library at up to 40 numbers, walked and told on lists. No conditions but those that each states.
-/
import Derived.Test.YtikkolkickclhaaDoorBase2
import Derived.Shelf.GgSortMore.Stable
namespace Go.Proofs.YtikkolkickclhaaDoor
set_option linter.unusedVariables false
set_option linter.unusedSimpArgs false
set_option linter.unusedSectionVars false
/-! The library's stable sort of up to 40 numbers, where less may lay new blocks. -/
section
open Go Go.Proofs Go.Shelf Go.RowKit Go.Lib Go.Sort
section
variable {P : Program} {ρ : Ren} {α : Type} [Inhabited α]
theorem heap_mapBlock (w : World) (blk b : Nat) (f : Array Value → Array Value) : (mapBlock w blk f).heap[b]? = if blk = b then (w.heap[b]?).map (onCells f) else w.heap[b]? := by
  simp only [mapBlock, Array.getElem?_modify]
theorem same_mapBlock {w w' : World} (h : Same w w') (blk : Nat) (f : Array Value → Array Value) : Same (mapBlock w blk f) (mapBlock w' blk f) :=
  ⟨h.os, h.tape, h.output, by simpa [mapBlock] using h.size, fun b hb hn => by
    have hb' : b < w.heap.size := by simpa [mapBlock] using hb
    rw [heap_mapBlock, heap_mapBlock, h.block b hb' hn]⟩
theorem same_trans {a b c : World} (h : Same a b) (k : Same b c) : Same a c := Chg.trans h k
theorem same_refl (w : World) : Same w w := Chg.refl _ _
/-- the world w0, the row holding dk: but for draws, and for new blocks behind it -/
def SX (enc : α → Value) (w0 : World) (blk off : Nat) (dk : Array α) (W : World) : Prop := Same (putRow enc w0 blk off dk) W
theorem SX.start {enc : α → Value} {w0 : World} {blk off : Nat} {dk : Array α} (h : Holds enc w0 blk off dk) : SX enc w0 blk off dk w0 := by
  unfold SX; rw [putRow_self enc w0 blk off dk h]; exact same_refl _
theorem SX.same {enc : α → Value} {w0 W W' : World} {blk off : Nat} {dk : Array α} (h : SX enc w0 blk off dk W) (k : Same W W') : SX enc w0 blk off dk W' := same_trans h k
theorem SX.alloc {enc : α → Value} {w0 W : World} {blk off : Nat} {dk : Array α} (h : SX enc w0 blk off dk W) (o : Obj) : SX enc w0 blk off dk (W.alloc o) := h.same (Same.alloc W o)
theorem SX.le {enc : α → Value} {w0 W : World} {blk off : Nat} {dk : Array α} (h : SX enc w0 blk off dk W) : w0.heap.size ≤ W.heap.size := by
  have := h.size; rwa [size_putRow] at this
theorem SX.lt {enc : α → Value} {w0 W : World} {blk off : Nat} {dk : Array α} (h : SX enc w0 blk off dk W) (hblk : blk < w0.heap.size) : blk < W.heap.size := Nat.lt_of_lt_of_le hblk h.le
theorem cell_of_block {w w' : World} {a : Addr} (h : w'.heap[a.block]? = w.heap[a.block]?) : w'.cell? a = w.cell? a := by simp only [World.cell?, h]
theorem frozen_of_block {w w' : World} {a : Addr} (h : w'.heap[a.block]? = w.heap[a.block]?) : w'.frozen? a = w.frozen? a := by simp only [World.frozen?, h]
theorem SX.holds {enc : α → Value} {w0 W : World} {blk off : Nat} {dk d0 : Array α} (h : SX enc w0 blk off dk W) (hblk : blk < w0.heap.size) (h0 : Holds enc w0 blk off d0) (hs : dk.size = d0.size) : Holds enc W blk off dk := fun j hj => by
  have hb : W.heap[blk]? = (putRow enc w0 blk off dk).heap[blk]? := h.block blk (by rw [size_putRow]; exact hblk) (fun x => x)
  obtain ⟨h1, h2⟩ := holds_putRow enc w0 blk off d0 dk h0 hs j hj
  exact ⟨(cell_of_block (a := ⟨blk, off + j, none⟩) hb).trans h1, (frozen_of_block (a := ⟨blk, off + j, none⟩) hb).trans h2⟩
theorem SX_cellB {enc : α → Value} {w0 W : World} {blk off : Nat} {dk : Array α} (h : SX enc w0 blk off dk W) {b k : Nat} {v : Value} (hb : b ≠ blk) (hl : b < w0.heap.size) (hc : w0.cell? ⟨b, k, none⟩ = some v) : W.cell? ⟨b, k, none⟩ = some v := by
  have hb2 : W.heap[b]? = (putRow enc w0 blk off dk).heap[b]? := h.block b (by rw [size_putRow]; exact hl) (fun x => x)
  rw [cell_of_block (a := ⟨b, k, none⟩) hb2, cell?_putRow_other enc _ blk off _ _ (Or.inl hb)]
  exact hc
theorem SX.swap {enc : α → Value} {w0 W : World} {blk off : Nat} {dk : Array α} (h : SX enc w0 blk off dk W) (_ : blk < w0.heap.size) (i j : Nat) (hi : i < dk.size) (hj : j < dk.size) :
    SX enc w0 blk off (swp dk i j) ((W.setCell ⟨blk, off + i, none⟩ (enc dk[j]!)).setCell ⟨blk, off + j, none⟩ (enc dk[i]!)) := by
  unfold SX
  rw [← putRow_swp enc w0 blk off dk i j hi hj, setCell_eq, setCell_eq, setCell_eq, setCell_eq]
  exact same_mapBlock (same_mapBlock h _ _) _ _
theorem SX_trans {enc : α → Value} {w0 W W' : World} {blk off : Nat} {dk dk' : Array α} (h : SX enc w0 blk off dk W) (_ : blk < w0.heap.size) (hs : dk'.size = dk.size) (h' : SX enc W blk off dk' W') : SX enc w0 blk off dk' W' := by
  have h1 : Same (putRow enc (putRow enc w0 blk off dk) blk off dk') (putRow enc W blk off dk') := same_mapBlock h _ _
  rw [putRow_putRow enc w0 blk off dk dk' hs] at h1
  exact same_trans h1 h'
theorem SX_box {enc : α → Value} {w0 W : World} {blk off : Nat} {dk : Array α} {o : Obj} (h : SX enc (w0.alloc o) blk off dk W) : SX enc w0 blk off dk W :=
  same_trans (same_mapBlock (Same.alloc w0 o) blk (putCells enc off dk)) h
/-- what is asked of 'less': at any such world it answers 'lt'; it may draw, and lay new blocks -/
def LessX (P : Program) (g : Nat) (lb : Array Value) (enc : α → Value) (lt : α → α → Bool) (blk off size : Nat) (w0 : World) : Prop :=
  ∀ (dk : Array α) (W : World), SX enc w0 blk off dk W → dk.size = size → ∀ i j : Nat, i < size → j < size →
    Calls P g (#[.int .i64 i, .int .i64 j] ++ lb) W fun e w' => e = .returned (.bool (lt dk[i]! dk[j]!)) ∧ Same W w'
theorem LessX.box {g : Nat} {lb : Array Value} {enc : α → Value} {lt : α → α → Bool} {blk off size : Nat} {w0 : World} (h : LessX P g lb enc lt blk off size w0) (o : Obj) : LessX P g lb enc lt blk off size (w0.alloc o) :=
  fun dk W hW => h dk W (SX_box hW)
theorem LessX.on {g : Nat} {lb : Array Value} {enc : α → Value} {lt : α → α → Bool} {blk off size : Nat} {w0 W : World} {dk : Array α} (h : LessX P g lb enc lt blk off size w0) (hblk : blk < w0.heap.size) (hW : SX enc w0 blk off dk W) (hs : dk.size = size) : LessX P g lb enc lt blk off size W :=
  fun dk' W' hW' hs' => h dk' W' (SX_trans hW hblk (hs'.trans hs.symm) hW') hs'
def swapR : Array α → Nat → Nat → Nat → Array α
  | d, _, _, 0 => d
  | d, a, b, n + 1 => swapR (swp d a b) (a + 1) (b + 1) n
theorem size_swapR : ∀ (n : Nat) (d : Array α) (a b : Nat), (swapR d a b n).size = d.size
  | 0, d, a, b => rfl
  | n + 1, d, a, b => by rw [swapR, size_swapR n, size_swp]

set_option maxHeartbeats 1600000 in
set_option maxRecDepth 1000000 in
theorem swapRange_w (L : LaysGt.n49 P ρ) (enc : α → Value) (lf : Fn) (la lb : Array Value) (sf : Nat) (sb : Array Value) (blk off a b n : Nat) (d : Array α) (w : World)
    (hswap : SwapSwaps P sf sb enc blk off d.size) (hH : Holds enc w blk off d) (hblk : blk < w.heap.size) (han : a + n ≤ d.size) (hbn : b + n ≤ d.size) (hsz : d.size < 4611686018427387904) :
    Calls P (ρ.f 49) #[.agg #[.func lf la lb, .func (.func sf) #[] sb], .int .i64 a, .int .i64 b, .int .i64 n] w fun e w' => e = .returned (.tuple #[]) ∧ SX enc w blk off (swapR d a b n) w' := by
  have mixed := L.mixed; have t0 := L.t0; have a0 := L.a0; have z0 := L.z0; have v0 := L.v0; have t3 := L.t3; have a3 := L.a3; have z3 := L.z3; have v3 := L.v3; have t4 := L.t4; have a4 := L.a4; have z4 := L.z4; have v4 := L.v4; have t26 := L.t26; have a26 := L.a26; have z26 := L.z26; have v26 := L.v26; have t38 := L.t38; have a38 := L.a38; have z38 := L.z38; have v38 := L.v38; have t42 := L.t42; have a42 := L.a42; have z42 := L.z42; have v42 := L.v42
  have u42 := run_underlying L.t42
  have hSB : SX enc (w.alloc (.cells #[.func lf la lb, .func (.func sf) #[] sb] (ρ.t 42))) blk off d (w.alloc (.cells #[.func lf la lb, .func (.func sf) #[] sb] (ρ.t 42))) := SX.start (by rw [alloc_eq_grow]; exact holds_grow enc w _ blk off d hblk hH)
  have hHB : Holds enc (w.alloc (.cells #[.func lf la lb, .func (.func sf) #[] sb] (ρ.t 42))) blk off d := by rw [alloc_eq_grow]; exact holds_grow enc w _ blk off d hblk hH
  have hbB : blk < (w.alloc (.cells #[.func lf la lb, .func (.func sf) #[] sb] (ρ.t 42))).heap.size := by simp; omega
  have b1 : (w.alloc (.cells #[.func lf la lb, .func (.func sf) #[] sb] (ρ.t 42))).cell? ⟨w.heap.size, 1, none⟩ = some (.func (.func sf) #[] sb) := by simp
  have hlB : w.heap.size < (w.alloc (.cells #[.func lf la lb, .func (.func sf) #[] sb] (ρ.t 42))).heap.size := by simp
  have fin : ∀ dk W, SX enc (w.alloc (.cells #[.func lf la lb, .func (.func sf) #[] sb] (ρ.t 42))) blk off dk W → SX enc w blk off dk W := fun dk W h => SX_box h
  have B1 : Aside _ := b1
  have SB : Aside _ := hSB
  have HB : Aside _ := hHB
  have FIN : Aside _ := fin
  clear b1 hSB hHB fin hH
  go_enter L.f49, BodyGt.n49_ntmps ρ
  go_wp2
  go_loopg [8] n (fun k s8 wr => ∃ (i : Nat) (dk : Array α), s8 = .int .i64 i ∧ i ≤ n ∧ n - i ≤ k ∧ dk.size = d.size ∧ Aside (SX enc (w.alloc (.cells #[.func lf la lb, .func (.func sf) #[] sb] (ρ.t 42))) blk off dk wr) ∧ Aside (swapR dk (a + i) (b + i) (n - i) = swapR d a b n))
  case atStart => exact ⟨0, d, rfl, Nat.zero_le _, Nat.le_refl _, rfl, SB, (rfl : swapR d (a + 0) (b + 0) (n - 0) = swapR d a b n)⟩
  case round =>
    obtain ⟨i, dk, rfl, hin, hk, hds, S1, E1⟩ := hrel
    clear SB
    by_cases hlt : i < n
    · have hs := hswap wr dk (S1.out.holds hbB HB.out hds) hds (a + i) (b + i) (by omega) (by omega)
      have c1 := SX_cellB S1.out (by omega) hlB B1.out
      have S2 : Aside _ := S1.out.swap hbB (a + i) (b + i) (by omega) (by omega)
      have E2 : Aside (swapR (swp dk (a + i) (b + i)) (a + (i + 1)) (b + (i + 1)) (n - (i + 1)) = swapR d a b n) := by
        rw [← E1.out, show n - i = (n - (i + 1)) + 1 from by omega, swapR]; rfl
      rw [show (((a + i : Nat)) : Int) = (a : Int) + (i : Int) from rfl, show (((b + i : Nat)) : Int) = (b : Int) + (i : Int) from rfl] at hs
      clear hswap
      go_wp2
      go_roundg (n - (i + 1))
      case measure => omega
      case rel => exact ⟨i + 1, swp dk (a + i) (b + i), by simp, by omega, Nat.le_refl _, by rw [size_swp]; exact hds, S2, E2⟩
    · go_wp2
      go_end0
      refine ⟨rfl, FIN.out _ _ ?_⟩
      have := E1.out
      rw [show n - i = 0 from by omega, swapR] at this
      rw [← this]; exact S1.out

def rotL : Nat → Array α → Nat → Nat → Nat → Array α
  | 0, d, _, _, _ => d
  | k + 1, d, m, i, j => if i = j then swapR d (m - i) m i else if j < i then rotL k (swapR d (m - i) m j) m (i - j) j else rotL k (swapR d (m - i) (m + j - i) i) m i (j - i)
theorem size_rotL : ∀ (k : Nat) (d : Array α) (m i j : Nat), (rotL k d m i j).size = d.size
  | 0, d, m, i, j => rfl
  | k + 1, d, m, i, j => by
    rw [rotL]
    split
    · exact size_swapR _ _ _ _
    · split <;> rw [size_rotL k, size_swapR]

set_option maxHeartbeats 1600000 in
set_option maxRecDepth 1000000 in
theorem rotate_w (L : LaysGt.n42 P ρ) (enc : α → Value) (lf : Fn) (la lb : Array Value) (sf : Nat) (sb : Array Value) (blk off a m b : Nat) (d : Array α) (w : World)
    (hswap : SwapSwaps P sf sb enc blk off d.size) (hH : Holds enc w blk off d) (hblk : blk < w.heap.size) (ham : a < m) (hmb : m < b) (hb : b ≤ d.size) (hsz : d.size < 4611686018427387904) :
    Calls P (ρ.f 42) #[.agg #[.func lf la lb, .func (.func sf) #[] sb], .int .i64 a, .int .i64 m, .int .i64 b] w fun e w' => e = .returned (.tuple #[]) ∧ SX enc w blk off (rotL (m - a + (b - m)) d m (m - a) (b - m)) w' := by
  have mixed := L.mixed; have t0 := L.t0; have a0 := L.a0; have z0 := L.z0; have v0 := L.v0; have t3 := L.t3; have a3 := L.a3; have z3 := L.z3; have v3 := L.v3; have t4 := L.t4; have a4 := L.a4; have z4 := L.z4; have v4 := L.v4; have t26 := L.t26; have a26 := L.a26; have z26 := L.z26; have v26 := L.v26; have t38 := L.t38; have a38 := L.a38; have z38 := L.z38; have v38 := L.v38; have t42 := L.t42; have a42 := L.a42; have z42 := L.z42; have v42 := L.v42
  have u42 := run_underlying L.t42
  have e49 : ∀ args w, (callFunc (ρ.f 49) args).run P w = .ok (.enter (ρ.f 49) args) w := enters_of L.f49 (by kernel_rfl) rfl
  have LI : LaysGt.n49 P ρ := { L with }
  have hHB : Holds enc (w.alloc (.cells #[.func lf la lb, .func (.func sf) #[] sb] (ρ.t 42))) blk off d := by rw [alloc_eq_grow]; exact holds_grow enc w _ blk off d hblk hH
  have hSB : SX enc (w.alloc (.cells #[.func lf la lb, .func (.func sf) #[] sb] (ρ.t 42))) blk off d (w.alloc (.cells #[.func lf la lb, .func (.func sf) #[] sb] (ρ.t 42))) := SX.start hHB
  have hbB : blk < (w.alloc (.cells #[.func lf la lb, .func (.func sf) #[] sb] (ρ.t 42))).heap.size := by simp; omega
  have b0 : (w.alloc (.cells #[.func lf la lb, .func (.func sf) #[] sb] (ρ.t 42))).cell? ⟨w.heap.size, 0, none⟩ = some (.func lf la lb) := by simp
  have b1 : (w.alloc (.cells #[.func lf la lb, .func (.func sf) #[] sb] (ρ.t 42))).cell? ⟨w.heap.size, 1, none⟩ = some (.func (.func sf) #[] sb) := by simp
  have hlB : w.heap.size < (w.alloc (.cells #[.func lf la lb, .func (.func sf) #[] sb] (ρ.t 42))).heap.size := by simp
  have fin : ∀ dk W, SX enc (w.alloc (.cells #[.func lf la lb, .func (.func sf) #[] sb] (ρ.t 42))) blk off dk W → SX enc w blk off dk W := fun dk W h => SX_box h
  have call : ∀ (dk : Array α) (W : World) (x y n : Nat), SX enc (w.alloc (.cells #[.func lf la lb, .func (.func sf) #[] sb] (ρ.t 42))) blk off dk W → dk.size = d.size → x + n ≤ d.size → y + n ≤ d.size →
      Calls P (ρ.f 49) #[.agg #[.func lf la lb, .func (.func sf) #[] sb], .int .i64 x, .int .i64 y, .int .i64 n] W fun e w' => e = .returned (.tuple #[]) ∧ Aside (SX enc (w.alloc (.cells #[.func lf la lb, .func (.func sf) #[] sb] (ρ.t 42))) blk off (swapR dk x y n) w') := fun dk W x y n h hs hx hy =>
    (swapRange_w LI enc lf la lb sf sb blk off x y n dk W (by rw [hs]; exact hswap) (h.holds hbB hHB hs) (h.lt hbB) (by omega) (by omega) (by omega)).mono fun e w' ⟨he, h'⟩ => ⟨he, SX_trans h hbB (size_swapR _ _ _ _) h'⟩
  have B0 : Aside _ := b0
  have B1 : Aside _ := b1
  have SB : Aside _ := hSB
  have FIN : Aside _ := fin
  have CALL : Aside _ := call
  clear b0 b1 hSB hHB fin hH call hswap LI
  generalize hR : rotL (m - a + (b - m)) d m (m - a) (b - m) = R
  have HR : Aside (rotL (m - a + (b - m)) d m (m - a) (b - m) = R) := hR
  clear hR
  go_enter L.f42, BodyGt.n42_ntmps ρ
  go_wp2
  go_loopg [8, 9] (m - a + (b - m)) (fun k s8 s9 wr => ∃ (i j f : Nat) (dk : Array α), s8 = .int .i64 i ∧ s9 = .int .i64 j ∧ 0 < i ∧ 0 < j ∧ i ≤ m ∧ m + j ≤ d.size ∧ i + j ≤ k ∧ i + j ≤ f ∧ dk.size = d.size ∧ Aside (SX enc (w.alloc (.cells #[.func lf la lb, .func (.func sf) #[] sb] (ρ.t 42))) blk off dk wr) ∧ Aside (rotL f dk m i j = R))
  case atStart => exact ⟨m - a, b - m, m - a + (b - m), d, by congr 1; omega, by congr 1; omega, by omega, by omega, by omega, by omega, Nat.le_refl _, Nat.le_refl _, rfl, SB, HR⟩
  case round =>
    obtain ⟨i, j, f, dk, rfl, rfl, hi, hj, him, hjd, hk, hf, hds, S1, E1⟩ := hrel
    clear SB HR
    obtain ⟨f, rfl⟩ : ∃ g, f = g + 1 := ⟨f - 1, by omega⟩
    have c0 := SX_cellB S1.out (by omega) hlB B0.out
    have c1 := SX_cellB S1.out (by omega) hlB B1.out
    by_cases hij : i = j
    · subst hij
      have hc := CALL.out dk wr (m - i) m i S1.out hds (by omega) (by omega)
      rw [show ((m - i : Nat) : Int) = (m : Int) - (i : Int) from by omega] at hc
      go_wp2_with (go_at_fn (ρ.f 49); refine hc.mono ?_; rintro e w1 ⟨rfl, S2⟩)
      go_end0
      refine ⟨rfl, FIN.out _ _ ?_⟩
      have := E1.out
      rw [rotL, if_pos rfl] at this
      rw [← this]; exact S2.out
    · by_cases hlt : j < i
      · have hc := CALL.out dk wr (m - i) m j S1.out hds (by omega) (by omega)
        rw [show ((m - i : Nat) : Int) = (m : Int) - (i : Int) from by omega] at hc
        go_wp2_with (go_at_fn (ρ.f 49); refine hc.mono ?_; rintro e w1 ⟨rfl, S2⟩)
        go_roundg (i - j + j)
        case measure => omega
        case rel =>
          refine ⟨i - j, j, f, swapR dk (m - i) m j, by congr 1; omega, rfl, by omega, hj, by omega, hjd, Nat.le_refl _, by omega, by rw [size_swapR]; exact hds, S2, ?_⟩
          have := E1.out
          rw [rotL, if_neg hij, if_pos hlt] at this
          exact this
      · have hc := CALL.out dk wr (m - i) (m + j - i) i S1.out hds (by omega) (by omega)
        rw [show ((m - i : Nat) : Int) = (m : Int) - (i : Int) from by omega, show ((m + j - i : Nat) : Int) = (m : Int) + (j : Int) - (i : Int) from by omega] at hc
        go_wp2_with (go_at_fn (ρ.f 49); refine hc.mono ?_; rintro e w1 ⟨rfl, S2⟩)
        go_roundg (i + (j - i))
        case measure => omega
        case rel =>
          refine ⟨i, j - i, f, swapR dk (m - i) (m + j - i) i, rfl, by congr 1; omega, hi, by omega, him, by omega, Nat.le_refl _, by omega, by rw [size_swapR]; exact hds, S2, ?_⟩
          have := E1.out
          rw [rotL, if_neg hij, if_neg hlt] at this
          exact this

def bs (p : Nat → Bool) : Nat → Nat → Nat → Nat
  | 0, lo, _ => lo
  | k + 1, lo, hi => if lo < hi then (if p ((lo + hi) / 2) then bs p k ((lo + hi) / 2 + 1) hi else bs p k lo ((lo + hi) / 2)) else lo
theorem bs_end (p : Nat → Bool) (f lo hi : Nat) (h : ¬ lo < hi) : bs p f lo hi = lo := by
  cases f with
  | zero => rfl
  | succ f => rw [bs, if_neg h]
theorem bs_in (p : Nat → Bool) : ∀ (f lo hi : Nat), lo ≤ hi → lo ≤ bs p f lo hi ∧ bs p f lo hi ≤ hi
  | 0, lo, hi, h => ⟨Nat.le_refl _, h⟩
  | f + 1, lo, hi, h => by
    rw [bs]
    split
    · split
      · have := bs_in p f ((lo + hi) / 2 + 1) hi (by omega); omega
      · have := bs_in p f lo ((lo + hi) / 2) (by omega); omega
    · omega
def shR : Array α → Nat → Nat → Array α
  | d, _, 0 => d
  | d, k, n + 1 => shR (swp d k (k + 1)) (k + 1) n
def shL : Array α → Nat → Nat → Array α
  | d, _, 0 => d
  | d, k, n + 1 => shL (swp d k (k - 1)) (k - 1) n
theorem size_shR : ∀ (n : Nat) (d : Array α) (k : Nat), (shR d k n).size = d.size
  | 0, d, k => rfl
  | n + 1, d, k => by rw [shR, size_shR n, size_swp]
theorem size_shL : ∀ (n : Nat) (d : Array α) (k : Nat), (shL d k n).size = d.size
  | 0, d, k => rfl
  | n + 1, d, k => by rw [shL, size_shL n, size_swp]

set_option maxHeartbeats 3200000 in
set_option maxRecDepth 1000000 in
theorem symMerge_a (L : LaysGt.n30 P ρ) (enc : α → Value) (lt : α → α → Bool) (g : Nat) (lb : Array Value) (sf : Nat) (sb : Array Value) (blk off a m b : Nat) (d : Array α) (w : World)
    (eg : ∀ args w, (callFunc g args).run P w = .ok (.enter g args) w) (hless : LessX P g lb enc lt blk off d.size w) (hswap : SwapSwaps P sf sb enc blk off d.size) (hH : Holds enc w blk off d) (hblk : blk < w.heap.size) (ham0 : m = a + 1) (hmb : m ≤ b) (hb : b ≤ d.size) (hsz : d.size < 4611686018427387904) :
    Calls P (ρ.f 30) #[.agg #[.func (.func g) #[] lb, .func (.func sf) #[] sb], .int .i64 a, .int .i64 m, .int .i64 b] w fun e w' => e = .returned (.tuple #[]) ∧ SX enc w blk off (shR d a (bs (fun h => lt d[h]! d[a]!) (b - m) m b - 1 - a)) w' := by
  have mixed := L.mixed; have t0 := L.t0; have a0 := L.a0; have z0 := L.z0; have v0 := L.v0; have t3 := L.t3; have a3 := L.a3; have z3 := L.z3; have v3 := L.v3; have t4 := L.t4; have a4 := L.a4; have z4 := L.z4; have v4 := L.v4; have t26 := L.t26; have a26 := L.a26; have z26 := L.z26; have v26 := L.v26; have t38 := L.t38; have a38 := L.a38; have z38 := L.z38; have v38 := L.v38; have t42 := L.t42; have a42 := L.a42; have z42 := L.z42; have v42 := L.v42; have t47 := L.t47; have a47 := L.a47; have z47 := L.z47; have v47 := L.v47
  have u42 := run_underlying L.t42
  have hHB : Holds enc (w.alloc (.cells #[.func (.func g) #[] lb, .func (.func sf) #[] sb] (ρ.t 42))) blk off d := by rw [alloc_eq_grow]; exact holds_grow enc w _ blk off d hblk hH
  have hSB : SX enc (w.alloc (.cells #[.func (.func g) #[] lb, .func (.func sf) #[] sb] (ρ.t 42))) blk off d (w.alloc (.cells #[.func (.func g) #[] lb, .func (.func sf) #[] sb] (ρ.t 42))) := SX.start hHB
  have hbB : blk < (w.alloc (.cells #[.func (.func g) #[] lb, .func (.func sf) #[] sb] (ρ.t 42))).heap.size := by simp; omega
  have b0 : (w.alloc (.cells #[.func (.func g) #[] lb, .func (.func sf) #[] sb] (ρ.t 42))).cell? ⟨w.heap.size, 0, none⟩ = some (.func (.func g) #[] lb) := by simp
  have b1 : (w.alloc (.cells #[.func (.func g) #[] lb, .func (.func sf) #[] sb] (ρ.t 42))).cell? ⟨w.heap.size, 1, none⟩ = some (.func (.func sf) #[] sb) := by simp
  have hlB : w.heap.size < (w.alloc (.cells #[.func (.func g) #[] lb, .func (.func sf) #[] sb] (ρ.t 42))).heap.size := by simp
  have fin : ∀ dk W, SX enc (w.alloc (.cells #[.func (.func g) #[] lb, .func (.func sf) #[] sb] (ρ.t 42))) blk off dk W → SX enc w blk off dk W := fun dk W h => SX_box h
  have hLB : LessX P g lb enc lt blk off d.size (w.alloc (.cells #[.func (.func g) #[] lb, .func (.func sf) #[] sb] (ρ.t 42))) := hless.box _
  have B0 : Aside _ := b0
  have B1 : Aside _ := b1
  have SB : Aside _ := hSB
  have HB : Aside _ := hHB
  have FIN : Aside _ := fin
  have LB : Aside _ := hLB
  have SWP : Aside _ := hswap
  clear b0 b1 hSB hHB fin hH hLB hless hswap
  have h1 : a < m := by omega
  have h2 : m ≤ a + 1 := by omega
  have tst : ((m : Int) - (a : Int) == 1) = true := by rw [beq_iff_eq]; omega
  clear ham0
  generalize hR : bs (fun h => lt d[h]! d[a]!) (b - m) m b = R
  have HR : Aside (bs (fun h => lt d[h]! d[a]!) (b - m) m b = R) := hR
  clear hR
  go_enter L.f30, BodyGt.n30_ntmps ρ
  go_wp2
  go_loopg [8, 9] (b - m) (fun k s8 s9 wr => ∃ (lo hi f : Nat), s8 = .int .i64 lo ∧ s9 = .int .i64 hi ∧ m ≤ lo ∧ lo ≤ hi ∧ hi ≤ b ∧ hi - lo ≤ k ∧ hi - lo ≤ f ∧ Aside (SX enc (w.alloc (.cells #[.func (.func g) #[] lb, .func (.func sf) #[] sb] (ρ.t 42))) blk off d wr) ∧ Aside (bs (fun h => lt d[h]! d[a]!) f lo hi = R))
  case atStart => exact ⟨m, b, b - m, rfl, rfl, Nat.le_refl _, hmb, Nat.le_refl _, Nat.le_refl _, Nat.le_refl _, SB, HR⟩
  case round =>
    obtain ⟨lo, hi, f, rfl, rfl, hml, hlh, hhb, hk, hf, S1, E1⟩ := hrel
    clear SB HR
    have c0 := SX_cellB S1.out (by omega) hlB B0.out
    have c1 := SX_cellB S1.out (by omega) hlB B1.out
    by_cases hlt : lo < hi
    · obtain ⟨f, rfl⟩ : ∃ g, f = g + 1 := ⟨f - 1, by omega⟩
      have hl := LB.out d wr S1.out rfl ((lo + hi) / 2) a (by omega) (by omega)
      rw [show (((lo + hi) / 2 : Nat) : Int) = ((lo : Int) + (hi : Int)) / 2 from by omega] at hl
      cases hp : lt d[(lo + hi) / 2]! d[a]! with
      | true =>
        rw [hp] at hl
        have HP : Aside (lt d[(lo + hi) / 2]! d[a]! = true) := hp
        clear hp
        go_wp2_with (go_at_fn g; refine hl.mono ?_; rintro e w1 ⟨rfl, S9⟩; replace S9 : Aside (SX enc _ blk off d w1) := S1.out.same S9)
        go_roundg (hi - ((lo + hi) / 2 + 1))
        case measure => omega
        case rel =>
          refine ⟨(lo + hi) / 2 + 1, hi, f, by congr 1 <;> omega, rfl, by omega, by omega, hhb, Nat.le_refl _, by omega, S9, ?_⟩
          have := E1.out
          rw [bs, if_pos hlt, if_pos HP.out] at this
          exact this
      | false =>
        rw [hp] at hl
        have HP : Aside (lt d[(lo + hi) / 2]! d[a]! = false) := hp
        clear hp
        go_wp2_with (go_at_fn g; refine hl.mono ?_; rintro e w1 ⟨rfl, S9⟩; replace S9 : Aside (SX enc _ blk off d w1) := S1.out.same S9)
        go_roundg ((lo + hi) / 2 - lo)
        case measure => omega
        case rel =>
          refine ⟨lo, (lo + hi) / 2, f, rfl, by congr 1 <;> omega, hml, by omega, by omega, Nat.le_refl _, by omega, S9, ?_⟩
          have := E1.out
          rw [bs, if_pos hlt, if_neg (by rw [HP.out]; simp)] at this
          exact this
    · have hR : lo = R := by rw [← E1.out, bs_end _ _ _ _ hlt]
      subst hR
      clear E1
      go_wp2
      go_loopg [11] (lo - 1 - a) (fun k s11 wr => ∃ (j : Nat) (dk : Array α), s11 = .int .i64 j ∧ a ≤ j ∧ j ≤ lo - 1 ∧ lo - 1 - j ≤ k ∧ dk.size = d.size ∧ Aside (SX enc (w.alloc (.cells #[.func (.func g) #[] lb, .func (.func sf) #[] sb] (ρ.t 42))) blk off dk wr) ∧ Aside (shR dk j (lo - 1 - j) = shR d a (lo - 1 - a)))
      case atStart => exact ⟨a, d, rfl, Nat.le_refl _, by omega, Nat.le_refl _, rfl, S1, (rfl : shR d a (lo - 1 - a) = _)⟩
      case round =>
        obtain ⟨j, dk, rfl, haj, hjl, hk2, hds, S2, E2⟩ := hrel
        clear S1 c0 c1
        by_cases hlt2 : j < lo - 1
        · have hs := SWP.out wr dk (S2.out.holds hbB HB.out hds) hds j (j + 1) (by omega) (by omega)
          have c1 := SX_cellB S2.out (by omega) hlB B1.out
          have S3 : Aside _ := S2.out.swap hbB j (j + 1) (by omega) (by omega)
          have E3 : Aside (shR (swp dk j (j + 1)) (j + 1) (lo - 1 - (j + 1)) = shR d a (lo - 1 - a)) := by
            rw [← E2.out, show lo - 1 - j = (lo - 1 - (j + 1)) + 1 from by omega]; rfl
          rw [show (((j + 1 : Nat)) : Int) = (j : Int) + 1 from rfl] at hs
          go_wp2
          go_roundg (lo - 1 - (j + 1))
          case measure => omega
          case rel => exact ⟨j + 1, swp dk j (j + 1), by simp, by omega, by omega, Nat.le_refl _, by rw [size_swp]; exact hds, S3, E3⟩
        · go_wp2
          refine bodyPost_ret (results_none (by first | rfl | kernel_rfl) _ _ _) rfl ?_
          refine ⟨rfl, FIN.out _ _ ?_⟩
          have := E2.out
          rw [show lo - 1 - j = 0 from by omega, shR] at this
          rw [← this]; exact S2.out

set_option maxHeartbeats 3200000 in
set_option maxRecDepth 1000000 in
theorem symMerge_b (L : LaysGt.n30 P ρ) (enc : α → Value) (lt : α → α → Bool) (g : Nat) (lb : Array Value) (sf : Nat) (sb : Array Value) (blk off a m b : Nat) (d : Array α) (w : World)
    (eg : ∀ args w, (callFunc g args).run P w = .ok (.enter g args) w) (hless : LessX P g lb enc lt blk off d.size w) (hswap : SwapSwaps P sf sb enc blk off d.size) (hH : Holds enc w blk off d) (hblk : blk < w.heap.size) (ham : a < m) (hna0 : m ≠ a + 1) (hmb0 : b = m + 1) (hb : b ≤ d.size) (hsz : d.size < 4611686018427387904) :
    Calls P (ρ.f 30) #[.agg #[.func (.func g) #[] lb, .func (.func sf) #[] sb], .int .i64 a, .int .i64 m, .int .i64 b] w fun e w' => e = .returned (.tuple #[]) ∧ SX enc w blk off (shL d m (m - bs (fun h => !lt d[m]! d[h]!) (m - a) a m)) w' := by
  have mixed := L.mixed; have t0 := L.t0; have a0 := L.a0; have z0 := L.z0; have v0 := L.v0; have t3 := L.t3; have a3 := L.a3; have z3 := L.z3; have v3 := L.v3; have t4 := L.t4; have a4 := L.a4; have z4 := L.z4; have v4 := L.v4; have t26 := L.t26; have a26 := L.a26; have z26 := L.z26; have v26 := L.v26; have t38 := L.t38; have a38 := L.a38; have z38 := L.z38; have v38 := L.v38; have t42 := L.t42; have a42 := L.a42; have z42 := L.z42; have v42 := L.v42; have t47 := L.t47; have a47 := L.a47; have z47 := L.z47; have v47 := L.v47
  have u42 := run_underlying L.t42
  have hHB : Holds enc (w.alloc (.cells #[.func (.func g) #[] lb, .func (.func sf) #[] sb] (ρ.t 42))) blk off d := by rw [alloc_eq_grow]; exact holds_grow enc w _ blk off d hblk hH
  have hSB : SX enc (w.alloc (.cells #[.func (.func g) #[] lb, .func (.func sf) #[] sb] (ρ.t 42))) blk off d (w.alloc (.cells #[.func (.func g) #[] lb, .func (.func sf) #[] sb] (ρ.t 42))) := SX.start hHB
  have hbB : blk < (w.alloc (.cells #[.func (.func g) #[] lb, .func (.func sf) #[] sb] (ρ.t 42))).heap.size := by simp; omega
  have b0 : (w.alloc (.cells #[.func (.func g) #[] lb, .func (.func sf) #[] sb] (ρ.t 42))).cell? ⟨w.heap.size, 0, none⟩ = some (.func (.func g) #[] lb) := by simp
  have b1 : (w.alloc (.cells #[.func (.func g) #[] lb, .func (.func sf) #[] sb] (ρ.t 42))).cell? ⟨w.heap.size, 1, none⟩ = some (.func (.func sf) #[] sb) := by simp
  have hlB : w.heap.size < (w.alloc (.cells #[.func (.func g) #[] lb, .func (.func sf) #[] sb] (ρ.t 42))).heap.size := by simp
  have fin : ∀ dk W, SX enc (w.alloc (.cells #[.func (.func g) #[] lb, .func (.func sf) #[] sb] (ρ.t 42))) blk off dk W → SX enc w blk off dk W := fun dk W h => SX_box h
  have hLB : LessX P g lb enc lt blk off d.size (w.alloc (.cells #[.func (.func g) #[] lb, .func (.func sf) #[] sb] (ρ.t 42))) := hless.box _
  have B0 : Aside _ := b0
  have B1 : Aside _ := b1
  have SB : Aside _ := hSB
  have HB : Aside _ := hHB
  have FIN : Aside _ := fin
  have LB : Aside _ := hLB
  have SWP : Aside _ := hswap
  clear b0 b1 hSB hHB fin hH hLB hless hswap
  have h1 : m < b := by omega
  have h2 : b ≤ m + 1 := by omega
  have h3 : a + 1 < m := by omega
  have tst1 : ((m : Int) - (a : Int) == 1) = false := by rw [beq_eq_false_iff_ne]; omega
  have tst : ((b : Int) - (m : Int) == 1) = true := by rw [beq_iff_eq]; omega
  clear hmb0 hna0
  generalize hR : bs (fun h => !lt d[m]! d[h]!) (m - a) a m = R
  have HR : Aside (bs (fun h => !lt d[m]! d[h]!) (m - a) a m = R) := hR
  clear hR
  go_enter L.f30, BodyGt.n30_ntmps ρ
  go_wp2
  go_loopg [12, 13] (m - a) (fun k s8 s9 wr => ∃ (lo hi f : Nat), s8 = .int .i64 lo ∧ s9 = .int .i64 hi ∧ a ≤ lo ∧ lo ≤ hi ∧ hi ≤ m ∧ hi - lo ≤ k ∧ hi - lo ≤ f ∧ Aside (SX enc (w.alloc (.cells #[.func (.func g) #[] lb, .func (.func sf) #[] sb] (ρ.t 42))) blk off d wr) ∧ Aside (bs (fun h => !lt d[m]! d[h]!) f lo hi = R))
  case atStart => exact ⟨a, m, m - a, rfl, rfl, Nat.le_refl _, by omega, Nat.le_refl _, Nat.le_refl _, Nat.le_refl _, SB, HR⟩
  case round =>
    obtain ⟨lo, hi, f, rfl, rfl, hml, hlh, hhb, hk, hf, S1, E1⟩ := hrel
    clear SB HR
    have c0 := SX_cellB S1.out (by omega) hlB B0.out
    have c1 := SX_cellB S1.out (by omega) hlB B1.out
    by_cases hlt : lo < hi
    · obtain ⟨f, rfl⟩ : ∃ g, f = g + 1 := ⟨f - 1, by omega⟩
      have hl := LB.out d wr S1.out rfl m ((lo + hi) / 2) (by omega) (by omega)
      rw [show (((lo + hi) / 2 : Nat) : Int) = ((lo : Int) + (hi : Int)) / 2 from by omega] at hl
      cases hp : lt d[m]! d[(lo + hi) / 2]! with
      | false =>
        rw [hp] at hl
        have HP : Aside (lt d[m]! d[(lo + hi) / 2]! = false) := hp
        clear hp
        go_wp2_with (go_at_fn g; refine hl.mono ?_; rintro e w1 ⟨rfl, S9⟩; replace S9 : Aside (SX enc _ blk off d w1) := S1.out.same S9)
        go_roundg (hi - ((lo + hi) / 2 + 1))
        case measure => omega
        case rel =>
          refine ⟨(lo + hi) / 2 + 1, hi, f, by congr 1 <;> omega, rfl, by omega, by omega, hhb, Nat.le_refl _, by omega, S9, ?_⟩
          have := E1.out
          rw [bs, if_pos hlt, if_pos (by rw [HP.out]; rfl)] at this
          exact this
      | true =>
        rw [hp] at hl
        have HP : Aside (lt d[m]! d[(lo + hi) / 2]! = true) := hp
        clear hp
        go_wp2_with (go_at_fn g; refine hl.mono ?_; rintro e w1 ⟨rfl, S9⟩; replace S9 : Aside (SX enc _ blk off d w1) := S1.out.same S9)
        go_roundg ((lo + hi) / 2 - lo)
        case measure => omega
        case rel =>
          refine ⟨lo, (lo + hi) / 2, f, rfl, by congr 1 <;> omega, hml, by omega, by omega, Nat.le_refl _, by omega, S9, ?_⟩
          have := E1.out
          rw [bs, if_pos hlt, if_neg (by rw [HP.out]; simp)] at this
          exact this
    · have hR : lo = R := by rw [← E1.out, bs_end _ _ _ _ hlt]
      subst hR
      clear E1
      go_wp2
      go_loopg [15] (m - lo) (fun k s11 wr => ∃ (j : Nat) (dk : Array α), s11 = .int .i64 j ∧ lo ≤ j ∧ j ≤ m ∧ j - lo ≤ k ∧ dk.size = d.size ∧ Aside (SX enc (w.alloc (.cells #[.func (.func g) #[] lb, .func (.func sf) #[] sb] (ρ.t 42))) blk off dk wr) ∧ Aside (shL dk j (j - lo) = shL d m (m - lo)))
      case atStart => exact ⟨m, d, rfl, by omega, Nat.le_refl _, Nat.le_refl _, rfl, S1, (rfl : shL d m (m - lo) = _)⟩
      case round =>
        obtain ⟨j, dk, rfl, haj, hjl, hk2, hds, S2, E2⟩ := hrel
        clear S1 c0 c1
        by_cases hlt2 : lo < j
        · have hs := SWP.out wr dk (S2.out.holds hbB HB.out hds) hds j (j - 1) (by omega) (by omega)
          have c1 := SX_cellB S2.out (by omega) hlB B1.out
          have S3 : Aside _ := S2.out.swap hbB j (j - 1) (by omega) (by omega)
          have E3 : Aside (shL (swp dk j (j - 1)) (j - 1) (j - 1 - lo) = shL d m (m - lo)) := by
            rw [← E2.out, show j - lo = (j - 1 - lo) + 1 from by omega]; rfl
          rw [show (((j - 1 : Nat)) : Int) = (j : Int) - 1 from by omega] at hs
          go_wp2
          go_roundg (j - 1 - lo)
          case measure => omega
          case rel => exact ⟨j - 1, swp dk j (j - 1), by congr 1; omega, by omega, by omega, Nat.le_refl _, by rw [size_swp]; exact hds, S3, E3⟩
        · go_wp2
          refine bodyPost_ret (results_none (by first | rfl | kernel_rfl) _ _ _) rfl ?_
          refine ⟨rfl, FIN.out _ _ ?_⟩
          have := E2.out
          rw [show j - lo = 0 from by omega, shL] at this
          rw [← this]; exact S2.out

def symStart (lt : α → α → Bool) (d : Array α) (a m b mid : Nat) : Nat :=
  if mid < m then bs (fun c => !lt d[mid + m - 1 - c]! d[c]!) (b - m) (mid + m - b) mid else bs (fun c => !lt d[mid + m - 1 - c]! d[c]!) (m - a) a m
def symTail (f : Array α → Nat → Nat → Nat → Array α) (d : Array α) (a m b mid st e : Nat) : Array α :=
  let d1 := if st < m ∧ st < mid then rotL (m - st + (e - m)) d m (m - st) (e - m) else d
  let d2 := if a < st ∧ st < mid then f d1 a st mid else d1
  if st < m ∧ e < b then f d2 mid e b else d2

set_option maxHeartbeats 6400000 in
set_option maxRecDepth 1000000 in
theorem symMerge_c1 (L : LaysGt.n30 P ρ) (enc : α → Value) (lt : α → α → Bool) (g : Nat) (lb : Array Value) (sf : Nat) (sb : Array Value) (blk off a m b mid : Nat) (d : Array α) (w : World)
    (eg : ∀ args w, (callFunc g args).run P w = .ok (.enter g args) w) (hless : LessX P g lb enc lt blk off d.size w) (hswap : SwapSwaps P sf sb enc blk off d.size) (hH : Holds enc w blk off d) (hblk : blk < w.heap.size)
    (ham : a + 1 < m) (hmb : m + 1 < b) (hb : b ≤ d.size) (hsz : d.size < 4611686018427387904) (hmid : ((a : Int) + (b : Int)) / 2 = (mid : Int)) (hcase : mid < m)
    (f : Array α → Nat → Nat → Nat → Array α) (hfs : ∀ dk x y z, (f dk x y z).size = dk.size)
    (hrec : ∀ (dk : Array α) (W : World) (x y z : Nat), x < y → y < z → z ≤ d.size → z - x < b - a → dk.size = d.size → LessX P g lb enc lt blk off d.size W → Holds enc W blk off dk → blk < W.heap.size →
      Calls P (ρ.f 30) #[.agg #[.func (.func g) #[] lb, .func (.func sf) #[] sb], .int .i64 x, .int .i64 y, .int .i64 z] W fun e w' => e = .returned (.tuple #[]) ∧ SX enc W blk off (f dk x y z) w') :
    Calls P (ρ.f 30) #[.agg #[.func (.func g) #[] lb, .func (.func sf) #[] sb], .int .i64 a, .int .i64 m, .int .i64 b] w fun e w' => e = .returned (.tuple #[]) ∧ SX enc w blk off (symTail f d a m b mid (symStart lt d a m b mid) (mid + m - symStart lt d a m b mid)) w' := by
  have mixed := L.mixed; have t0 := L.t0; have a0 := L.a0; have z0 := L.z0; have v0 := L.v0; have t3 := L.t3; have a3 := L.a3; have z3 := L.z3; have v3 := L.v3; have t4 := L.t4; have a4 := L.a4; have z4 := L.z4; have v4 := L.v4; have t26 := L.t26; have a26 := L.a26; have z26 := L.z26; have v26 := L.v26; have t38 := L.t38; have a38 := L.a38; have z38 := L.z38; have v38 := L.v38; have t42 := L.t42; have a42 := L.a42; have z42 := L.z42; have v42 := L.v42; have t47 := L.t47; have a47 := L.a47; have z47 := L.z47; have v47 := L.v47
  have u42 := run_underlying L.t42
  have hHB : Holds enc (w.alloc (.cells #[.func (.func g) #[] lb, .func (.func sf) #[] sb] (ρ.t 42))) blk off d := by rw [alloc_eq_grow]; exact holds_grow enc w _ blk off d hblk hH
  have hSB : SX enc (w.alloc (.cells #[.func (.func g) #[] lb, .func (.func sf) #[] sb] (ρ.t 42))) blk off d (w.alloc (.cells #[.func (.func g) #[] lb, .func (.func sf) #[] sb] (ρ.t 42))) := SX.start hHB
  have hbB : blk < (w.alloc (.cells #[.func (.func g) #[] lb, .func (.func sf) #[] sb] (ρ.t 42))).heap.size := by simp; omega
  have b0 : (w.alloc (.cells #[.func (.func g) #[] lb, .func (.func sf) #[] sb] (ρ.t 42))).cell? ⟨w.heap.size, 0, none⟩ = some (.func (.func g) #[] lb) := by simp
  have b1 : (w.alloc (.cells #[.func (.func g) #[] lb, .func (.func sf) #[] sb] (ρ.t 42))).cell? ⟨w.heap.size, 1, none⟩ = some (.func (.func sf) #[] sb) := by simp
  have hlB : w.heap.size < (w.alloc (.cells #[.func (.func g) #[] lb, .func (.func sf) #[] sb] (ρ.t 42))).heap.size := by simp
  have fin : ∀ dk W, SX enc (w.alloc (.cells #[.func (.func g) #[] lb, .func (.func sf) #[] sb] (ρ.t 42))) blk off dk W → SX enc w blk off dk W := fun dk W h => SX_box h
  have hLB : LessX P g lb enc lt blk off d.size (w.alloc (.cells #[.func (.func g) #[] lb, .func (.func sf) #[] sb] (ρ.t 42))) := hless.box _
  have B0 : Aside _ := b0
  have B1 : Aside _ := b1
  have SB : Aside _ := hSB
  have HB : Aside _ := hHB
  have FIN : Aside _ := fin
  have LB : Aside _ := hLB
  have SWP : Aside _ := hswap
  have e42 : ∀ args w, (callFunc (ρ.f 42) args).run P w = .ok (.enter (ρ.f 42) args) w := enters_of L.f42 (by kernel_rfl) rfl
  have e30 : ∀ args w, (callFunc (ρ.f 30) args).run P w = .ok (.enter (ρ.f 30) args) w := enters_of L.f30 (by kernel_rfl) rfl
  have rotc : ∀ (W : World) (x y : Nat), SX enc (w.alloc (.cells #[.func (.func g) #[] lb, .func (.func sf) #[] sb] (ρ.t 42))) blk off d W → x < m → m < y → y ≤ d.size →
      Calls P (ρ.f 42) #[.agg #[.func (.func g) #[] lb, .func (.func sf) #[] sb], .int .i64 x, .int .i64 m, .int .i64 y] W fun e w' => e = .returned (.tuple #[]) ∧ Aside (SX enc (w.alloc (.cells #[.func (.func g) #[] lb, .func (.func sf) #[] sb] (ρ.t 42))) blk off (rotL (m - x + (y - m)) d m (m - x) (y - m)) w') := fun W x y h h1 h2 h3 =>
    (rotate_w ({ L with } : LaysGt.n42 P ρ) enc (.func g) #[] lb sf sb blk off x m y d W hswap (h.holds hbB hHB rfl) (h.lt hbB) h1 h2 h3 hsz).mono fun e w' ⟨he, h'⟩ => ⟨he, SX_trans h hbB (size_rotL _ _ _ _ _) h'⟩
  have recc : ∀ (dk : Array α) (W : World) (x y z : Nat), SX enc (w.alloc (.cells #[.func (.func g) #[] lb, .func (.func sf) #[] sb] (ρ.t 42))) blk off dk W → dk.size = d.size → x < y → y < z → z ≤ d.size → z - x < b - a →
      Calls P (ρ.f 30) #[.agg #[.func (.func g) #[] lb, .func (.func sf) #[] sb], .int .i64 x, .int .i64 y, .int .i64 z] W fun e w' => e = .returned (.tuple #[]) ∧ Aside (SX enc (w.alloc (.cells #[.func (.func g) #[] lb, .func (.func sf) #[] sb] (ρ.t 42))) blk off (f dk x y z) w') := fun dk W x y z h hs h1 h2 h3 h4 =>
    (hrec dk W x y z h1 h2 h3 h4 hs (hLB.on hbB h hs) (h.holds hbB hHB hs) (h.lt hbB)).mono fun e w' ⟨he, h'⟩ => ⟨he, SX_trans h hbB (hfs _ _ _ _) h'⟩
  have ROT : Aside _ := rotc
  have REC : Aside _ := recc
  clear b0 b1 hSB hHB fin hH hLB hless hswap rotc recc hrec
  have q1 : a < mid := by omega
  have q2 : mid < b := by omega
  have q3 : 2 * mid ≤ a + b := by omega
  have q4 : a + b ≤ 2 * mid + 1 := by omega
  have tst1 : ((m : Int) - (a : Int) == 1) = false := by rw [beq_eq_false_iff_ne]; omega
  have tst2 : ((b : Int) - (m : Int) == 1) = false := by rw [beq_eq_false_iff_ne]; omega
  have hz0 : Aside (symStart lt d a m b mid = bs (fun c => !lt d[mid + m - 1 - c]! d[c]!) (b - m) (mid + m - b) mid) := by
    show symStart lt d a m b mid = _
    unfold symStart; rw [if_pos hcase]
  generalize hR : bs (fun c => !lt d[mid + m - 1 - c]! d[c]!) (b - m) (mid + m - b) mid = R at hz0
  have HR : Aside (bs (fun c => !lt d[mid + m - 1 - c]! d[c]!) (b - m) (mid + m - b) mid = R) := hR
  clear hR
  go_enter L.f30, BodyGt.n30_ntmps ρ
  go_wp2
  go_loopg [18, 19] (b - m) (fun k s8 s9 wr => ∃ (lo hi f : Nat), s8 = .int .i64 lo ∧ s9 = .int .i64 hi ∧ mid + m - b ≤ lo ∧ lo ≤ hi ∧ hi ≤ mid ∧ hi - lo ≤ k ∧ hi - lo ≤ f ∧ Aside (SX enc (w.alloc (.cells #[.func (.func g) #[] lb, .func (.func sf) #[] sb] (ρ.t 42))) blk off d wr) ∧ Aside (bs (fun c => !lt d[mid + m - 1 - c]! d[c]!) f lo hi = R))
  case atStart => exact ⟨mid + m - b, mid, b - m, by congr 1 <;> omega, rfl, Nat.le_refl _, by omega, Nat.le_refl _, by omega, by omega, SB, HR⟩
  case round =>
    obtain ⟨lo, hi, f', rfl, rfl, hml, hlh, hhb, hk, hf, S1, E1⟩ := hrel
    clear SB HR
    have c0 := SX_cellB S1.out (by omega) hlB B0.out
    have c1 := SX_cellB S1.out (by omega) hlB B1.out
    by_cases hlt : lo < hi
    · obtain ⟨f', rfl⟩ : ∃ g, f' = g + 1 := ⟨f' - 1, by omega⟩
      have hl := LB.out d wr S1.out rfl (mid + m - 1 - (lo + hi) / 2) ((lo + hi) / 2) (by omega) (by omega)
      rw [show ((mid + m - 1 - (lo + hi) / 2 : Nat) : Int) = (mid : Int) + (m : Int) - 1 - ((lo : Int) + (hi : Int)) / 2 from by omega, show (((lo + hi) / 2 : Nat) : Int) = ((lo : Int) + (hi : Int)) / 2 from by omega] at hl
      cases hp : lt d[mid + m - 1 - (lo + hi) / 2]! d[(lo + hi) / 2]! with
      | false =>
        rw [hp] at hl
        have HP : Aside (lt d[mid + m - 1 - (lo + hi) / 2]! d[(lo + hi) / 2]! = false) := hp
        clear hp
        go_wp2_with (go_at_fn g; refine hl.mono ?_; rintro e w1 ⟨rfl, S9⟩; replace S9 : Aside (SX enc _ blk off d w1) := S1.out.same S9)
        go_roundg (hi - ((lo + hi) / 2 + 1))
        case measure => omega
        case rel =>
          refine ⟨(lo + hi) / 2 + 1, hi, f', by congr 1 <;> omega, rfl, by omega, by omega, hhb, Nat.le_refl _, by omega, S9, ?_⟩
          have := E1.out
          rw [bs, if_pos hlt, if_pos (by rw [HP.out]; rfl)] at this
          exact this
      | true =>
        rw [hp] at hl
        have HP : Aside (lt d[mid + m - 1 - (lo + hi) / 2]! d[(lo + hi) / 2]! = true) := hp
        clear hp
        go_wp2_with (go_at_fn g; refine hl.mono ?_; rintro e w1 ⟨rfl, S9⟩; replace S9 : Aside (SX enc _ blk off d w1) := S1.out.same S9)
        go_roundg ((lo + hi) / 2 - lo)
        case measure => omega
        case rel =>
          refine ⟨lo, (lo + hi) / 2, f', rfl, by congr 1 <;> omega, hml, by omega, by omega, Nat.le_refl _, by omega, S9, ?_⟩
          have := E1.out
          rw [bs, if_pos hlt, if_neg (by rw [HP.out]; simp)] at this
          exact this
    · have hR : lo = R := by rw [← E1.out, bs_end _ _ _ _ hlt]
      subst hR
      clear E1
      have hEx : Aside (∃ e : Nat, e = mid + m - lo) := (⟨_, rfl⟩ : ∃ e : Nat, e = mid + m - lo)
      obtain ⟨e, he0⟩ := hEx.out
      clear hEx
      have HE0 : Aside (e = mid + m - lo) := he0
      have hE : (mid : Int) + (m : Int) - (lo : Int) = (e : Int) := by omega
      have r1 : e ≤ b := by omega
      have r2 : m ≤ e := by omega
      have r3 : mid ≤ e := by omega
      have g1 : lo ≤ m := by omega
      have g2 : lo ≤ mid := by omega
      have g3 : a ≤ lo := by omega
      clear he0
      have FINAL : Aside (∀ dk W, SX enc (w.alloc (.cells #[.func (.func g) #[] lb, .func (.func sf) #[] sb] (ρ.t 42))) blk off dk W → symTail f d a m b mid lo e = dk → SX enc w blk off (symTail f d a m b mid (symStart lt d a m b mid) (mid + m - symStart lt d a m b mid)) W) := (fun dk W h1 h2 => by
        rw [hz0.out, ← HE0.out, h2]; exact FIN.out _ _ h1 : ∀ dk W, SX enc (w.alloc (.cells #[.func (.func g) #[] lb, .func (.func sf) #[] sb] (ρ.t 42))) blk off dk W → symTail f d a m b mid lo e = dk → SX enc w blk off (symTail f d a m b mid (symStart lt d a m b mid) (mid + m - symStart lt d a m b mid)) W)
      have hrot := fun h1 h2 => ROT.out wr lo e S1.out h1 h2 (by omega)
      have HROT : Aside _ := hrot
      clear hrot
      by_cases cA : lo < m <;> by_cases cB : lo < mid <;> by_cases cC : a < lo <;> by_cases cD : e < b
      all_goals (first
        | (exfalso; omega)
        | (go_wp2_with (first
            | (go_at_fn (ρ.f 42); refine (HROT.out (by omega) (by omega)).mono ?_; rintro e' w1 ⟨rfl, S2⟩; have c02 := SX_cellB S2.out (by omega) hlB B0.out; have c12 := SX_cellB S2.out (by omega) hlB B1.out)
            | (go_at_fn (ρ.f 30); refine (REC.out _ _ a lo mid S2.out (by rw [size_rotL]) (by omega) (by omega) (by omega) (by omega)).mono ?_; rintro e' w2 ⟨rfl, S3⟩; have c03 := SX_cellB S3.out (by omega) hlB B0.out; have c13 := SX_cellB S3.out (by omega) hlB B1.out)
            | (go_at_fn (ρ.f 30); refine (REC.out _ _ a lo mid S1.out rfl (by omega) (by omega) (by omega) (by omega)).mono ?_; rintro e' w2 ⟨rfl, S3⟩; have c03 := SX_cellB S3.out (by omega) hlB B0.out; have c13 := SX_cellB S3.out (by omega) hlB B1.out)
            | (go_at_fn (ρ.f 30); refine (REC.out _ _ mid e b S3.out (by rw [hfs, size_rotL]) (by omega) (by omega) (by omega) (by omega)).mono ?_; rintro e' w3 ⟨rfl, S4⟩)
            | (go_at_fn (ρ.f 30); refine (REC.out _ _ mid e b S3.out (by rw [hfs]) (by omega) (by omega) (by omega) (by omega)).mono ?_; rintro e' w3 ⟨rfl, S4⟩)
            | (go_at_fn (ρ.f 30); refine (REC.out _ _ mid e b S2.out (by rw [size_rotL]) (by omega) (by omega) (by omega) (by omega)).mono ?_; rintro e' w3 ⟨rfl, S4⟩)
            | (go_at_fn (ρ.f 30); refine (REC.out _ _ mid e b S1.out rfl (by omega) (by omega) (by omega) (by omega)).mono ?_; rintro e' w3 ⟨rfl, S4⟩))
           go_end0
           first
            | exact ⟨rfl, FINAL.out _ _ S4.out (by simp [symTail, cA, cB, cC, cD])⟩
            | exact ⟨rfl, FINAL.out _ _ S3.out (by simp [symTail, cA, cB, cC, cD])⟩
            | exact ⟨rfl, FINAL.out _ _ S2.out (by simp [symTail, cA, cB, cC, cD])⟩
            | exact ⟨rfl, FINAL.out _ _ S1.out (by simp [symTail, cA, cB, cC, cD])⟩))

set_option maxHeartbeats 6400000 in
set_option maxRecDepth 1000000 in
theorem symMerge_c2 (L : LaysGt.n30 P ρ) (enc : α → Value) (lt : α → α → Bool) (g : Nat) (lb : Array Value) (sf : Nat) (sb : Array Value) (blk off a m b mid : Nat) (d : Array α) (w : World)
    (eg : ∀ args w, (callFunc g args).run P w = .ok (.enter g args) w) (hless : LessX P g lb enc lt blk off d.size w) (hswap : SwapSwaps P sf sb enc blk off d.size) (hH : Holds enc w blk off d) (hblk : blk < w.heap.size)
    (ham : a + 1 < m) (hmb : m + 1 < b) (hb : b ≤ d.size) (hsz : d.size < 4611686018427387904) (hmid : ((a : Int) + (b : Int)) / 2 = (mid : Int)) (hcase : m ≤ mid)
    (f : Array α → Nat → Nat → Nat → Array α) (hfs : ∀ dk x y z, (f dk x y z).size = dk.size)
    (hrec : ∀ (dk : Array α) (W : World) (x y z : Nat), x < y → y < z → z ≤ d.size → z - x < b - a → dk.size = d.size → LessX P g lb enc lt blk off d.size W → Holds enc W blk off dk → blk < W.heap.size →
      Calls P (ρ.f 30) #[.agg #[.func (.func g) #[] lb, .func (.func sf) #[] sb], .int .i64 x, .int .i64 y, .int .i64 z] W fun e w' => e = .returned (.tuple #[]) ∧ SX enc W blk off (f dk x y z) w') :
    Calls P (ρ.f 30) #[.agg #[.func (.func g) #[] lb, .func (.func sf) #[] sb], .int .i64 a, .int .i64 m, .int .i64 b] w fun e w' => e = .returned (.tuple #[]) ∧ SX enc w blk off (symTail f d a m b mid (symStart lt d a m b mid) (mid + m - symStart lt d a m b mid)) w' := by
  have mixed := L.mixed; have t0 := L.t0; have a0 := L.a0; have z0 := L.z0; have v0 := L.v0; have t3 := L.t3; have a3 := L.a3; have z3 := L.z3; have v3 := L.v3; have t4 := L.t4; have a4 := L.a4; have z4 := L.z4; have v4 := L.v4; have t26 := L.t26; have a26 := L.a26; have z26 := L.z26; have v26 := L.v26; have t38 := L.t38; have a38 := L.a38; have z38 := L.z38; have v38 := L.v38; have t42 := L.t42; have a42 := L.a42; have z42 := L.z42; have v42 := L.v42; have t47 := L.t47; have a47 := L.a47; have z47 := L.z47; have v47 := L.v47
  have u42 := run_underlying L.t42
  have hHB : Holds enc (w.alloc (.cells #[.func (.func g) #[] lb, .func (.func sf) #[] sb] (ρ.t 42))) blk off d := by rw [alloc_eq_grow]; exact holds_grow enc w _ blk off d hblk hH
  have hSB : SX enc (w.alloc (.cells #[.func (.func g) #[] lb, .func (.func sf) #[] sb] (ρ.t 42))) blk off d (w.alloc (.cells #[.func (.func g) #[] lb, .func (.func sf) #[] sb] (ρ.t 42))) := SX.start hHB
  have hbB : blk < (w.alloc (.cells #[.func (.func g) #[] lb, .func (.func sf) #[] sb] (ρ.t 42))).heap.size := by simp; omega
  have b0 : (w.alloc (.cells #[.func (.func g) #[] lb, .func (.func sf) #[] sb] (ρ.t 42))).cell? ⟨w.heap.size, 0, none⟩ = some (.func (.func g) #[] lb) := by simp
  have b1 : (w.alloc (.cells #[.func (.func g) #[] lb, .func (.func sf) #[] sb] (ρ.t 42))).cell? ⟨w.heap.size, 1, none⟩ = some (.func (.func sf) #[] sb) := by simp
  have hlB : w.heap.size < (w.alloc (.cells #[.func (.func g) #[] lb, .func (.func sf) #[] sb] (ρ.t 42))).heap.size := by simp
  have fin : ∀ dk W, SX enc (w.alloc (.cells #[.func (.func g) #[] lb, .func (.func sf) #[] sb] (ρ.t 42))) blk off dk W → SX enc w blk off dk W := fun dk W h => SX_box h
  have hLB : LessX P g lb enc lt blk off d.size (w.alloc (.cells #[.func (.func g) #[] lb, .func (.func sf) #[] sb] (ρ.t 42))) := hless.box _
  have B0 : Aside _ := b0
  have B1 : Aside _ := b1
  have SB : Aside _ := hSB
  have HB : Aside _ := hHB
  have FIN : Aside _ := fin
  have LB : Aside _ := hLB
  have SWP : Aside _ := hswap
  have e42 : ∀ args w, (callFunc (ρ.f 42) args).run P w = .ok (.enter (ρ.f 42) args) w := enters_of L.f42 (by kernel_rfl) rfl
  have e30 : ∀ args w, (callFunc (ρ.f 30) args).run P w = .ok (.enter (ρ.f 30) args) w := enters_of L.f30 (by kernel_rfl) rfl
  have rotc : ∀ (W : World) (x y : Nat), SX enc (w.alloc (.cells #[.func (.func g) #[] lb, .func (.func sf) #[] sb] (ρ.t 42))) blk off d W → x < m → m < y → y ≤ d.size →
      Calls P (ρ.f 42) #[.agg #[.func (.func g) #[] lb, .func (.func sf) #[] sb], .int .i64 x, .int .i64 m, .int .i64 y] W fun e w' => e = .returned (.tuple #[]) ∧ Aside (SX enc (w.alloc (.cells #[.func (.func g) #[] lb, .func (.func sf) #[] sb] (ρ.t 42))) blk off (rotL (m - x + (y - m)) d m (m - x) (y - m)) w') := fun W x y h h1 h2 h3 =>
    (rotate_w ({ L with } : LaysGt.n42 P ρ) enc (.func g) #[] lb sf sb blk off x m y d W hswap (h.holds hbB hHB rfl) (h.lt hbB) h1 h2 h3 hsz).mono fun e w' ⟨he, h'⟩ => ⟨he, SX_trans h hbB (size_rotL _ _ _ _ _) h'⟩
  have recc : ∀ (dk : Array α) (W : World) (x y z : Nat), SX enc (w.alloc (.cells #[.func (.func g) #[] lb, .func (.func sf) #[] sb] (ρ.t 42))) blk off dk W → dk.size = d.size → x < y → y < z → z ≤ d.size → z - x < b - a →
      Calls P (ρ.f 30) #[.agg #[.func (.func g) #[] lb, .func (.func sf) #[] sb], .int .i64 x, .int .i64 y, .int .i64 z] W fun e w' => e = .returned (.tuple #[]) ∧ Aside (SX enc (w.alloc (.cells #[.func (.func g) #[] lb, .func (.func sf) #[] sb] (ρ.t 42))) blk off (f dk x y z) w') := fun dk W x y z h hs h1 h2 h3 h4 =>
    (hrec dk W x y z h1 h2 h3 h4 hs (hLB.on hbB h hs) (h.holds hbB hHB hs) (h.lt hbB)).mono fun e w' ⟨he, h'⟩ => ⟨he, SX_trans h hbB (hfs _ _ _ _) h'⟩
  have ROT : Aside _ := rotc
  have REC : Aside _ := recc
  clear b0 b1 hSB hHB fin hH hLB hless hswap rotc recc hrec
  have q1 : a < mid := by omega
  have q2 : mid < b := by omega
  have q3 : 2 * mid ≤ a + b := by omega
  have q4 : a + b ≤ 2 * mid + 1 := by omega
  have tst1 : ((m : Int) - (a : Int) == 1) = false := by rw [beq_eq_false_iff_ne]; omega
  have tst2 : ((b : Int) - (m : Int) == 1) = false := by rw [beq_eq_false_iff_ne]; omega
  have tst3 : decide (mid < m) = false := by rw [decide_eq_false_iff_not]; omega
  have hz0 : Aside (symStart lt d a m b mid = bs (fun c => !lt d[mid + m - 1 - c]! d[c]!) (m - a) (a) m) := by
    show symStart lt d a m b mid = _
    unfold symStart; rw [if_neg (by omega)]
  generalize hR : bs (fun c => !lt d[mid + m - 1 - c]! d[c]!) (m - a) (a) m = R at hz0
  have HR : Aside (bs (fun c => !lt d[mid + m - 1 - c]! d[c]!) (m - a) (a) m = R) := hR
  clear hR
  go_enter L.f30, BodyGt.n30_ntmps ρ
  go_wp2
  go_loopg [18, 19] (m - a) (fun k s8 s9 wr => ∃ (lo hi f : Nat), s8 = .int .i64 lo ∧ s9 = .int .i64 hi ∧ a ≤ lo ∧ lo ≤ hi ∧ hi ≤ m ∧ hi - lo ≤ k ∧ hi - lo ≤ f ∧ Aside (SX enc (w.alloc (.cells #[.func (.func g) #[] lb, .func (.func sf) #[] sb] (ρ.t 42))) blk off d wr) ∧ Aside (bs (fun c => !lt d[mid + m - 1 - c]! d[c]!) f lo hi = R))
  case atStart => exact ⟨a, m, m - a, by congr 1 <;> omega, rfl, Nat.le_refl _, by omega, Nat.le_refl _, by omega, by omega, SB, HR⟩
  case round =>
    obtain ⟨lo, hi, f', rfl, rfl, hml, hlh, hhb, hk, hf, S1, E1⟩ := hrel
    clear SB HR
    have c0 := SX_cellB S1.out (by omega) hlB B0.out
    have c1 := SX_cellB S1.out (by omega) hlB B1.out
    by_cases hlt : lo < hi
    · obtain ⟨f', rfl⟩ : ∃ g, f' = g + 1 := ⟨f' - 1, by omega⟩
      have hl := LB.out d wr S1.out rfl (mid + m - 1 - (lo + hi) / 2) ((lo + hi) / 2) (by omega) (by omega)
      rw [show ((mid + m - 1 - (lo + hi) / 2 : Nat) : Int) = (mid : Int) + (m : Int) - 1 - ((lo : Int) + (hi : Int)) / 2 from by omega, show (((lo + hi) / 2 : Nat) : Int) = ((lo : Int) + (hi : Int)) / 2 from by omega] at hl
      cases hp : lt d[mid + m - 1 - (lo + hi) / 2]! d[(lo + hi) / 2]! with
      | false =>
        rw [hp] at hl
        have HP : Aside (lt d[mid + m - 1 - (lo + hi) / 2]! d[(lo + hi) / 2]! = false) := hp
        clear hp
        go_wp2_with (go_at_fn g; refine hl.mono ?_; rintro e w1 ⟨rfl, S9⟩; replace S9 : Aside (SX enc _ blk off d w1) := S1.out.same S9)
        go_roundg (hi - ((lo + hi) / 2 + 1))
        case measure => omega
        case rel =>
          refine ⟨(lo + hi) / 2 + 1, hi, f', by congr 1 <;> omega, rfl, by omega, by omega, hhb, Nat.le_refl _, by omega, S9, ?_⟩
          have := E1.out
          rw [bs, if_pos hlt, if_pos (by rw [HP.out]; rfl)] at this
          exact this
      | true =>
        rw [hp] at hl
        have HP : Aside (lt d[mid + m - 1 - (lo + hi) / 2]! d[(lo + hi) / 2]! = true) := hp
        clear hp
        go_wp2_with (go_at_fn g; refine hl.mono ?_; rintro e w1 ⟨rfl, S9⟩; replace S9 : Aside (SX enc _ blk off d w1) := S1.out.same S9)
        go_roundg ((lo + hi) / 2 - lo)
        case measure => omega
        case rel =>
          refine ⟨lo, (lo + hi) / 2, f', rfl, by congr 1 <;> omega, hml, by omega, by omega, Nat.le_refl _, by omega, S9, ?_⟩
          have := E1.out
          rw [bs, if_pos hlt, if_neg (by rw [HP.out]; simp)] at this
          exact this
    · have hR : lo = R := by rw [← E1.out, bs_end _ _ _ _ hlt]
      subst hR
      clear E1
      have hEx : Aside (∃ e : Nat, e = mid + m - lo) := (⟨_, rfl⟩ : ∃ e : Nat, e = mid + m - lo)
      obtain ⟨e, he0⟩ := hEx.out
      clear hEx
      have HE0 : Aside (e = mid + m - lo) := he0
      have hE : (mid : Int) + (m : Int) - (lo : Int) = (e : Int) := by omega
      have r1 : e ≤ b := by omega
      have r2 : m ≤ e := by omega
      have r3 : mid ≤ e := by omega
      have g1 : lo ≤ m := by omega
      have g2 : lo ≤ mid := by omega
      have g3 : a ≤ lo := by omega
      clear he0
      have FINAL : Aside (∀ dk W, SX enc (w.alloc (.cells #[.func (.func g) #[] lb, .func (.func sf) #[] sb] (ρ.t 42))) blk off dk W → symTail f d a m b mid lo e = dk → SX enc w blk off (symTail f d a m b mid (symStart lt d a m b mid) (mid + m - symStart lt d a m b mid)) W) := (fun dk W h1 h2 => by
        rw [hz0.out, ← HE0.out, h2]; exact FIN.out _ _ h1 : ∀ dk W, SX enc (w.alloc (.cells #[.func (.func g) #[] lb, .func (.func sf) #[] sb] (ρ.t 42))) blk off dk W → symTail f d a m b mid lo e = dk → SX enc w blk off (symTail f d a m b mid (symStart lt d a m b mid) (mid + m - symStart lt d a m b mid)) W)
      have hrot := fun h1 h2 => ROT.out wr lo e S1.out h1 h2 (by omega)
      have HROT : Aside _ := hrot
      clear hrot
      by_cases cA : lo < m <;> by_cases cB : lo < mid <;> by_cases cC : a < lo <;> by_cases cD : e < b
      all_goals (first
        | (exfalso; omega)
        | (go_wp2_with (first
            | (go_at_fn (ρ.f 42); refine (HROT.out (by omega) (by omega)).mono ?_; rintro e' w1 ⟨rfl, S2⟩; have c02 := SX_cellB S2.out (by omega) hlB B0.out; have c12 := SX_cellB S2.out (by omega) hlB B1.out)
            | (go_at_fn (ρ.f 30); refine (REC.out _ _ a lo mid S2.out (by rw [size_rotL]) (by omega) (by omega) (by omega) (by omega)).mono ?_; rintro e' w2 ⟨rfl, S3⟩; have c03 := SX_cellB S3.out (by omega) hlB B0.out; have c13 := SX_cellB S3.out (by omega) hlB B1.out)
            | (go_at_fn (ρ.f 30); refine (REC.out _ _ a lo mid S1.out rfl (by omega) (by omega) (by omega) (by omega)).mono ?_; rintro e' w2 ⟨rfl, S3⟩; have c03 := SX_cellB S3.out (by omega) hlB B0.out; have c13 := SX_cellB S3.out (by omega) hlB B1.out)
            | (go_at_fn (ρ.f 30); refine (REC.out _ _ mid e b S3.out (by rw [hfs, size_rotL]) (by omega) (by omega) (by omega) (by omega)).mono ?_; rintro e' w3 ⟨rfl, S4⟩)
            | (go_at_fn (ρ.f 30); refine (REC.out _ _ mid e b S3.out (by rw [hfs]) (by omega) (by omega) (by omega) (by omega)).mono ?_; rintro e' w3 ⟨rfl, S4⟩)
            | (go_at_fn (ρ.f 30); refine (REC.out _ _ mid e b S2.out (by rw [size_rotL]) (by omega) (by omega) (by omega) (by omega)).mono ?_; rintro e' w3 ⟨rfl, S4⟩)
            | (go_at_fn (ρ.f 30); refine (REC.out _ _ mid e b S1.out rfl (by omega) (by omega) (by omega) (by omega)).mono ?_; rintro e' w3 ⟨rfl, S4⟩))
           go_end0
           first
            | exact ⟨rfl, FINAL.out _ _ S4.out (by simp [symTail, cA, cB, cC, cD])⟩
            | exact ⟨rfl, FINAL.out _ _ S3.out (by simp [symTail, cA, cB, cC, cD])⟩
            | exact ⟨rfl, FINAL.out _ _ S2.out (by simp [symTail, cA, cB, cC, cD])⟩
            | exact ⟨rfl, FINAL.out _ _ S1.out (by simp [symTail, cA, cB, cC, cD])⟩))

set_option maxHeartbeats 3200000 in
set_option maxRecDepth 1000000 in
theorem ins_w (L : LaysGt.n29 P ρ) (enc : α → Value) (lt : α → α → Bool) (g : Nat) (lb : Array Value) (sf : Nat) (sb : Array Value) (blk off a b : Nat) (d : Array α) (w : World)
    (eg : ∀ args w, (callFunc g args).run P w = .ok (.enter g args) w) (hless : LessX P g lb enc lt blk off d.size w) (hswap : SwapSwaps P sf sb enc blk off d.size) (hH : Holds enc w blk off d) (hblk : blk < w.heap.size) (hab : a ≤ b) (hb : b ≤ d.size) (hsz : d.size < 4611686018427387904) :
    Calls P (ρ.f 29) #[.agg #[.func (.func g) #[] lb, .func (.func sf) #[] sb], .int .i64 a, .int .i64 b] w fun e w' => e = .returned (.tuple #[]) ∧ SX enc w blk off (Sort.insertionSort lt d a b) w' := by
  have mixed := L.mixed; have t0 := L.t0; have a0 := L.a0; have z0 := L.z0; have v0 := L.v0; have t3 := L.t3; have a3 := L.a3; have z3 := L.z3; have v3 := L.v3; have t4 := L.t4; have a4 := L.a4; have z4 := L.z4; have v4 := L.v4; have t26 := L.t26; have a26 := L.a26; have z26 := L.z26; have v26 := L.v26; have t38 := L.t38; have a38 := L.a38; have z38 := L.z38; have v38 := L.v38; have t42 := L.t42; have a42 := L.a42; have z42 := L.z42; have v42 := L.v42
  have u42 := run_underlying L.t42
  have hHB : Holds enc (w.alloc (.cells #[.func (.func g) #[] lb, .func (.func sf) #[] sb] (ρ.t 42))) blk off d := by rw [alloc_eq_grow]; exact holds_grow enc w _ blk off d hblk hH
  have hSB : SX enc (w.alloc (.cells #[.func (.func g) #[] lb, .func (.func sf) #[] sb] (ρ.t 42))) blk off d (w.alloc (.cells #[.func (.func g) #[] lb, .func (.func sf) #[] sb] (ρ.t 42))) := SX.start hHB
  have hbB : blk < (w.alloc (.cells #[.func (.func g) #[] lb, .func (.func sf) #[] sb] (ρ.t 42))).heap.size := by simp; omega
  have b0 : (w.alloc (.cells #[.func (.func g) #[] lb, .func (.func sf) #[] sb] (ρ.t 42))).cell? ⟨w.heap.size, 0, none⟩ = some (.func (.func g) #[] lb) := by simp
  have b1 : (w.alloc (.cells #[.func (.func g) #[] lb, .func (.func sf) #[] sb] (ρ.t 42))).cell? ⟨w.heap.size, 1, none⟩ = some (.func (.func sf) #[] sb) := by simp
  have hlB : w.heap.size < (w.alloc (.cells #[.func (.func g) #[] lb, .func (.func sf) #[] sb] (ρ.t 42))).heap.size := by simp
  have fin : ∀ dk W, SX enc (w.alloc (.cells #[.func (.func g) #[] lb, .func (.func sf) #[] sb] (ρ.t 42))) blk off dk W → SX enc w blk off dk W := fun dk W h => SX_box h
  have hLB : LessX P g lb enc lt blk off d.size (w.alloc (.cells #[.func (.func g) #[] lb, .func (.func sf) #[] sb] (ρ.t 42))) := hless.box _
  have B0 : Aside _ := b0
  have B1 : Aside _ := b1
  have SB : Aside _ := hSB
  have HB : Aside _ := hHB
  have FIN : Aside _ := fin
  have LB : Aside _ := hLB
  have SWP : Aside _ := hswap
  clear b0 b1 hSB hHB fin hH hLB hless hswap
  generalize hR : Sort.insertionSort lt d a b = R
  have HR : Aside (Sort.insOuter lt a b (a + 1) d = R) := hR
  clear hR
  go_enter L.f29, BodyGt.n29_ntmps ρ
  go_wp2
  go_loopg [6] (b - a) (fun k s6 wr => ∃ (i : Nat) (dk : Array α), s6 = .int .i64 i ∧ a < i ∧ i ≤ b + 1 ∧ b + 1 - i ≤ k ∧ dk.size = d.size ∧ Aside (SX enc (w.alloc (.cells #[.func (.func g) #[] lb, .func (.func sf) #[] sb] (ρ.t 42))) blk off dk wr) ∧ Aside (Sort.insOuter lt a b i dk = R))
  case atStart => exact ⟨a + 1, d, by go_num, by omega, by omega, by omega, rfl, SB, HR⟩
  case round =>
    obtain ⟨i, dk, rfl, hai, hib, hk, hds, S1, E1⟩ := hrel
    clear SB HR
    by_cases hlt : i < b
    · go_wp2
      go_loopg [7] i (fun k s7 wr => ∃ (j : Nat) (dj : Array α), s7 = .int .i64 j ∧ a ≤ j ∧ j ≤ i ∧ j ≤ k ∧ dj.size = d.size ∧ Aside (SX enc (w.alloc (.cells #[.func (.func g) #[] lb, .func (.func sf) #[] sb] (ρ.t 42))) blk off dj wr) ∧ Aside (Sort.insInner lt a j dj = Sort.insInner lt a i dk))
      case atStart => exact ⟨i, dk, rfl, by omega, Nat.le_refl _, Nat.le_refl _, hds, S1, (rfl : Sort.insInner lt a i dk = _)⟩
      case round =>
        obtain ⟨j, dj, rfl, haj, hji, hk2, hdj, S2, E2⟩ := hrel
        clear S1
        have c0 := SX_cellB S2.out (by omega) hlB B0.out
        have out : (j ≤ a ∨ lt dj[j]! dj[j - 1]! = false) → Sort.insOuter lt a b (i + 1) dj = R := fun hs => by
          rw [← E1.out, insOuter_go _ _ _ _ _ hlt, ← E2.out, insInner_stop _ _ _ _ hs]
        have OUT : Aside _ := out
        clear out
        by_cases hja : a < j
        · have hl := LB.out dj wr S2.out hdj j (j - 1) (by omega) (by omega)
          rw [show (((j - 1 : Nat) : Int)) = (j : Int) - 1 by omega] at hl
          cases hlv : lt dj[j]! dj[j - 1]! with
          | true =>
            rw [hlv] at hl
            have HV : Aside (lt dj[j]! dj[j - 1]! = true) := hlv
            clear hlv
            go_wp2_with (go_at_fn g; refine hl.mono ?_; rintro e w1 ⟨rfl, S9⟩; replace S9 : Aside (SX enc _ blk off dj w1) := S2.out.same S9; have hs := SWP.out w1 dj (S9.out.holds hbB HB.out hdj) hdj j (j - 1) (by omega) (by omega); rw [show (((j - 1 : Nat) : Int)) = (j : Int) - 1 by omega] at hs; have c1 := SX_cellB S9.out (by omega) hlB B1.out)
            have S3 : Aside _ := S9.out.swap hbB j (j - 1) (by omega) (by omega)
            have E3 : Aside (Sort.insInner lt a (j - 1) (swp dj j (j - 1)) = Sort.insInner lt a i dk) := by
              show Sort.insInner lt a (j - 1) (swp dj j (j - 1)) = Sort.insInner lt a i dk
              rw [← E2.out, insInner_go lt a j dj hja HV.out]
            go_roundg (j - 1)
            case measure => omega
            case rel => exact ⟨j - 1, swp dj j (j - 1), by congr 1; omega, by omega, by omega, Nat.le_refl _, by rw [size_swp]; exact hdj, S3, E3⟩
          | false =>
            rw [hlv] at hl
            have HV : Aside (lt dj[j]! dj[j - 1]! = false) := hlv
            clear hlv
            go_wp2_with (go_at_fn g; refine hl.mono ?_; rintro e w1 ⟨rfl, S9⟩; replace S9 : Aside (SX enc _ blk off dj w1) := S2.out.same S9)
            go_roundg (b + 1 - (i + 1))
            case measure => omega
            case rel => exact ⟨i + 1, dj, by go_num, by omega, by omega, Nat.le_refl _, hdj, S9, OUT.out (Or.inr HV.out)⟩
        · go_wp2
          go_roundg (b + 1 - (i + 1))
          case measure => omega
          case rel => exact ⟨i + 1, dj, by go_num, by omega, by omega, Nat.le_refl _, hdj, S2, OUT.out (Or.inl (by omega))⟩
    · go_wp2
      go_end0
      refine ⟨rfl, FIN.out _ _ ?_⟩
      have := E1.out
      rw [insOuter_stop _ _ _ _ _ hlt] at this
      rw [← this]; exact S1.out

theorem size_insInner (lt : α → α → Bool) (a : Nat) : ∀ (j : Nat) (d : Array α), (Sort.insInner lt a j d).size = d.size
  | 0, d => by simp [Sort.insInner]
  | j + 1, d => by
    rw [Sort.insInner]
    split
    · rw [size_insInner lt a j, size_swp]
    · rfl
theorem size_insOuter (lt : α → α → Bool) (a b : Nat) : ∀ (k i : Nat) (d : Array α), b - i ≤ k → (Sort.insOuter lt a b i d).size = d.size
  | 0, i, d, h => by
    unfold Sort.insOuter
    rw [if_neg (by omega)]
  | k + 1, i, d, h => by
    unfold Sort.insOuter
    split
    · rw [size_insOuter lt a b k _ _ (by omega), size_insInner]
    · rfl
theorem size_insertionSort (lt : α → α → Bool) (d : Array α) (a b : Nat) : (Sort.insertionSort lt d a b).size = d.size := size_insOuter lt a b _ _ d (Nat.le_refl _)
theorem size_symTail {f : Array α → Nat → Nat → Nat → Array α} (hf : ∀ dk x y z, (f dk x y z).size = dk.size) (d : Array α) (a m b mid st e : Nat) : (symTail f d a m b mid st e).size = d.size := by
  unfold symTail
  dsimp only
  repeat' split
  all_goals simp only [hf, size_rotL]
def symM (lt : α → α → Bool) : Nat → Array α → Nat → Nat → Nat → Array α
  | 0, d, _, _, _ => d
  | k + 1, d, a, m, b =>
    if m = a + 1 then shR d a (bs (fun h => lt d[h]! d[a]!) (b - m) m b - 1 - a)
    else if b = m + 1 then shL d m (m - bs (fun h => !lt d[m]! d[h]!) (m - a) a m)
    else symTail (symM lt k) d a m b ((a + b) / 2) (symStart lt d a m b ((a + b) / 2)) ((a + b) / 2 + m - symStart lt d a m b ((a + b) / 2))
theorem size_symM (lt : α → α → Bool) : ∀ (k : Nat) (d : Array α) (a m b : Nat), (symM lt k d a m b).size = d.size
  | 0, d, a, m, b => rfl
  | k + 1, d, a, m, b => by
    rw [symM]
    split
    · exact size_shR _ _ _
    · split
      · exact size_shL _ _ _
      · exact size_symTail (size_symM lt k) _ _ _ _ _ _ _
theorem symMerge_w (L : LaysGt.n30 P ρ) (enc : α → Value) (lt : α → α → Bool) (g : Nat) (lb : Array Value) (sf : Nat) (sb : Array Value) (blk off : Nat)
    (eg : ∀ args w, (callFunc g args).run P w = .ok (.enter g args) w) : ∀ (k a m b : Nat) (d : Array α) (w : World), SwapSwaps P sf sb enc blk off d.size → d.size < 4611686018427387904 →
    LessX P g lb enc lt blk off d.size w → Holds enc w blk off d → blk < w.heap.size → b - a ≤ k → a < m → m < b → b ≤ d.size →
    Calls P (ρ.f 30) #[.agg #[.func (.func g) #[] lb, .func (.func sf) #[] sb], .int .i64 a, .int .i64 m, .int .i64 b] w fun e w' => e = .returned (.tuple #[]) ∧ SX enc w blk off (symM lt k d a m b) w' := by
  intro k
  induction k with
  | zero => intro a m b d w hswap hsz hless hH hblk hk h1 h2 h3; omega
  | succ k ih =>
    intro a m b d w hswap hsz hless hH hblk hk h1 h2 h3
    rw [symM]
    by_cases ha : m = a + 1
    · rw [if_pos ha]
      exact symMerge_a L enc lt g lb sf sb blk off a m b d w eg hless hswap hH hblk ha (by omega) h3 hsz
    · rw [if_neg ha]
      by_cases hb : b = m + 1
      · rw [if_pos hb]
        exact symMerge_b L enc lt g lb sf sb blk off a m b d w eg hless hswap hH hblk h1 ha hb h3 hsz
      · rw [if_neg hb]
        have hrec : ∀ (dk : Array α) (W : World) (x y z : Nat), x < y → y < z → z ≤ d.size → z - x < b - a → dk.size = d.size → LessX P g lb enc lt blk off d.size W → Holds enc W blk off dk → blk < W.heap.size →
            Calls P (ρ.f 30) #[.agg #[.func (.func g) #[] lb, .func (.func sf) #[] sb], .int .i64 x, .int .i64 y, .int .i64 z] W fun e w' => e = .returned (.tuple #[]) ∧ SX enc W blk off (symM lt k dk x y z) w' :=
          fun dk W x y z g1 g2 g3 g4 g5 g6 g7 g8 => ih x y z dk W (by rw [g5]; exact hswap) (by omega) (by rw [g5]; exact g6) g7 g8 (by omega) g1 g2 (by omega)
        by_cases hc : (a + b) / 2 < m
        · exact symMerge_c1 L enc lt g lb sf sb blk off a m b ((a + b) / 2) d w eg hless hswap hH hblk (by omega) (by omega) h3 hsz (by omega) hc _ (size_symM lt k) hrec
        · exact symMerge_c2 L enc lt g lb sf sb blk off a m b ((a + b) / 2) d w eg hless hswap hH hblk (by omega) (by omega) h3 hsz (by omega) (by omega) _ (size_symM lt k) hrec

set_option maxHeartbeats 3200000 in
set_option maxRecDepth 100000 in
theorem stable_under20 (L : LaysGt.n15 P ρ) (enc : α → Value) (lt : α → α → Bool) (g : Nat) (lb : Array Value) (sf : Nat) (sb : Array Value) (blk off : Nat) (d : Array α) (W : World)
    (eg : ∀ args w, (callFunc g args).run P w = .ok (.enter g args) w) (hless : LessX P g lb enc lt blk off d.size W) (hswap : SwapSwaps P sf sb enc blk off d.size)
    (hH : Holds enc W blk off d) (hblk : blk < W.heap.size) (hh : d.size < 20) :
    Calls P (ρ.f 15) #[.agg #[.func (.func g) #[] lb, .func (.func sf) #[] sb], .int .i64 d.size] W fun e w' => e = .returned (.tuple #[]) ∧ SX enc W blk off (Sort.insertionSort lt d 0 d.size) w' := by
  have mixed := L.mixed; have t0 := L.t0; have a0 := L.a0; have z0 := L.z0; have v0 := L.v0; have t3 := L.t3; have a3 := L.a3; have z3 := L.z3; have v3 := L.v3; have t4 := L.t4; have a4 := L.a4; have z4 := L.z4; have v4 := L.v4; have t26 := L.t26; have a26 := L.a26; have z26 := L.z26; have v26 := L.v26; have t38 := L.t38; have a38 := L.a38; have z38 := L.z38; have v38 := L.v38; have t42 := L.t42; have a42 := L.a42; have z42 := L.z42; have v42 := L.v42; have t47 := L.t47; have a47 := L.a47; have z47 := L.z47; have v47 := L.v47
  have u42 := run_underlying L.t42
  have e29 : ∀ args w, (callFunc (ρ.f 29) args).run P w = .ok (.enter (ρ.f 29) args) w := enters_of L.f29 (by kernel_rfl) rfl
  have LI : LaysGt.n29 P ρ := { L with }
  have hHB : Holds enc (W.alloc (.cells #[.func (.func g) #[] lb, .func (.func sf) #[] sb] (ρ.t 42))) blk off d := by rw [alloc_eq_grow]; exact holds_grow enc W _ blk off d hblk hH
  have hSB : SX enc (W.alloc (.cells #[.func (.func g) #[] lb, .func (.func sf) #[] sb] (ρ.t 42))) blk off d (W.alloc (.cells #[.func (.func g) #[] lb, .func (.func sf) #[] sb] (ρ.t 42))) := SX.start hHB
  have hbB : blk < (W.alloc (.cells #[.func (.func g) #[] lb, .func (.func sf) #[] sb] (ρ.t 42))).heap.size := by simp; omega
  have b0 : (W.alloc (.cells #[.func (.func g) #[] lb, .func (.func sf) #[] sb] (ρ.t 42))).cell? ⟨W.heap.size, 0, none⟩ = some (.func (.func g) #[] lb) := by simp
  have b1 : (W.alloc (.cells #[.func (.func g) #[] lb, .func (.func sf) #[] sb] (ρ.t 42))).cell? ⟨W.heap.size, 1, none⟩ = some (.func (.func sf) #[] sb) := by simp
  have hlB : W.heap.size < (W.alloc (.cells #[.func (.func g) #[] lb, .func (.func sf) #[] sb] (ρ.t 42))).heap.size := by simp
  have fin : ∀ dk V, SX enc (W.alloc (.cells #[.func (.func g) #[] lb, .func (.func sf) #[] sb] (ρ.t 42))) blk off dk V → SX enc W blk off dk V := fun dk V h => SX_box h
  have hLB : LessX P g lb enc lt blk off d.size (W.alloc (.cells #[.func (.func g) #[] lb, .func (.func sf) #[] sb] (ρ.t 42))) := hless.box _
  have hsz : d.size < 4611686018427387904 := by omega
  have insz : ∀ (dk : Array α) (x y : Nat), (Sort.insertionSort lt dk x y).size = dk.size := fun dk x y => size_insertionSort lt dk x y
  have insc : ∀ (dk : Array α) (V : World) (x y : Nat), SX enc (W.alloc (.cells #[.func (.func g) #[] lb, .func (.func sf) #[] sb] (ρ.t 42))) blk off dk V → dk.size = d.size → x ≤ y → y ≤ d.size →
      Calls P (ρ.f 29) #[.agg #[.func (.func g) #[] lb, .func (.func sf) #[] sb], .int .i64 x, .int .i64 y] V fun e w' => e = .returned (.tuple #[]) ∧ Aside (SX enc (W.alloc (.cells #[.func (.func g) #[] lb, .func (.func sf) #[] sb] (ρ.t 42))) blk off (Sort.insertionSort lt dk x y) w') := fun dk V x y h hs h1 h2 =>
    (ins_w LI enc lt g lb sf sb blk off x y dk V eg (by rw [hs]; exact hLB.on hbB h hs) (by rw [hs]; exact hswap) (h.holds hbB hHB hs) (h.lt hbB) h1 (by omega) (by omega)).mono fun e w' ⟨he, h'⟩ => ⟨he, SX_trans h hbB (insz _ _ _) h'⟩
  have B0 : Aside _ := b0
  have B1 : Aside _ := b1
  have SB : Aside _ := hSB
  have FIN : Aside _ := fin
  have INSZ : Aside _ := insz
  have INS : Aside _ := insc
  clear hless hswap hH hSB hHB hLB insz insc fin LI
  have H : Aside (d.size < 20) := hh
  go_enter L.f15, BodyGt.n15_ntmps ρ
  go_wp2
  refine wp_loop_rounds 1 ?_
  rw [rounds_succ]
  go_wp2_with (go_at_fn (ρ.f 29); refine (INS.out d _ 0 d.size SB.out rfl (by omega) (by omega)).mono ?_; rintro e w1 ⟨rfl, S1⟩)
  refine wp_loop_rounds 1 ?_
  rw [rounds_succ]
  go_wp2
  all_goals first | (exfalso; omega) | (go_end0; exact ⟨rfl, FIN.out _ _ S1.out⟩)

set_option maxHeartbeats 3200000 in
set_option maxRecDepth 100000 in
theorem stable_at20 (L : LaysGt.n15 P ρ) (enc : α → Value) (lt : α → α → Bool) (g : Nat) (lb : Array Value) (sf : Nat) (sb : Array Value) (blk off : Nat) (d : Array α) (W : World)
    (eg : ∀ args w, (callFunc g args).run P w = .ok (.enter g args) w) (hless : LessX P g lb enc lt blk off d.size W) (hswap : SwapSwaps P sf sb enc blk off d.size)
    (hH : Holds enc W blk off d) (hblk : blk < W.heap.size) (hh : d.size = 20) :
    Calls P (ρ.f 15) #[.agg #[.func (.func g) #[] lb, .func (.func sf) #[] sb], .int .i64 d.size] W fun e w' => e = .returned (.tuple #[]) ∧ SX enc W blk off (Sort.insertionSort lt d 0 d.size) w' := by
  have mixed := L.mixed; have t0 := L.t0; have a0 := L.a0; have z0 := L.z0; have v0 := L.v0; have t3 := L.t3; have a3 := L.a3; have z3 := L.z3; have v3 := L.v3; have t4 := L.t4; have a4 := L.a4; have z4 := L.z4; have v4 := L.v4; have t26 := L.t26; have a26 := L.a26; have z26 := L.z26; have v26 := L.v26; have t38 := L.t38; have a38 := L.a38; have z38 := L.z38; have v38 := L.v38; have t42 := L.t42; have a42 := L.a42; have z42 := L.z42; have v42 := L.v42; have t47 := L.t47; have a47 := L.a47; have z47 := L.z47; have v47 := L.v47
  have u42 := run_underlying L.t42
  have e29 : ∀ args w, (callFunc (ρ.f 29) args).run P w = .ok (.enter (ρ.f 29) args) w := enters_of L.f29 (by kernel_rfl) rfl
  have LI : LaysGt.n29 P ρ := { L with }
  have hHB : Holds enc (W.alloc (.cells #[.func (.func g) #[] lb, .func (.func sf) #[] sb] (ρ.t 42))) blk off d := by rw [alloc_eq_grow]; exact holds_grow enc W _ blk off d hblk hH
  have hSB : SX enc (W.alloc (.cells #[.func (.func g) #[] lb, .func (.func sf) #[] sb] (ρ.t 42))) blk off d (W.alloc (.cells #[.func (.func g) #[] lb, .func (.func sf) #[] sb] (ρ.t 42))) := SX.start hHB
  have hbB : blk < (W.alloc (.cells #[.func (.func g) #[] lb, .func (.func sf) #[] sb] (ρ.t 42))).heap.size := by simp; omega
  have b0 : (W.alloc (.cells #[.func (.func g) #[] lb, .func (.func sf) #[] sb] (ρ.t 42))).cell? ⟨W.heap.size, 0, none⟩ = some (.func (.func g) #[] lb) := by simp
  have b1 : (W.alloc (.cells #[.func (.func g) #[] lb, .func (.func sf) #[] sb] (ρ.t 42))).cell? ⟨W.heap.size, 1, none⟩ = some (.func (.func sf) #[] sb) := by simp
  have hlB : W.heap.size < (W.alloc (.cells #[.func (.func g) #[] lb, .func (.func sf) #[] sb] (ρ.t 42))).heap.size := by simp
  have fin : ∀ dk V, SX enc (W.alloc (.cells #[.func (.func g) #[] lb, .func (.func sf) #[] sb] (ρ.t 42))) blk off dk V → SX enc W blk off dk V := fun dk V h => SX_box h
  have hLB : LessX P g lb enc lt blk off d.size (W.alloc (.cells #[.func (.func g) #[] lb, .func (.func sf) #[] sb] (ρ.t 42))) := hless.box _
  have hsz : d.size < 4611686018427387904 := by omega
  have insz : ∀ (dk : Array α) (x y : Nat), (Sort.insertionSort lt dk x y).size = dk.size := fun dk x y => size_insertionSort lt dk x y
  have insc : ∀ (dk : Array α) (V : World) (x y : Nat), SX enc (W.alloc (.cells #[.func (.func g) #[] lb, .func (.func sf) #[] sb] (ρ.t 42))) blk off dk V → dk.size = d.size → x ≤ y → y ≤ d.size →
      Calls P (ρ.f 29) #[.agg #[.func (.func g) #[] lb, .func (.func sf) #[] sb], .int .i64 x, .int .i64 y] V fun e w' => e = .returned (.tuple #[]) ∧ Aside (SX enc (W.alloc (.cells #[.func (.func g) #[] lb, .func (.func sf) #[] sb] (ρ.t 42))) blk off (Sort.insertionSort lt dk x y) w') := fun dk V x y h hs h1 h2 =>
    (ins_w LI enc lt g lb sf sb blk off x y dk V eg (by rw [hs]; exact hLB.on hbB h hs) (by rw [hs]; exact hswap) (h.holds hbB hHB hs) (h.lt hbB) h1 (by omega) (by omega)).mono fun e w' ⟨he, h'⟩ => ⟨he, SX_trans h hbB (insz _ _ _) h'⟩
  have B0 : Aside _ := b0
  have B1 : Aside _ := b1
  have SB : Aside _ := hSB
  have FIN : Aside _ := fin
  have INSZ : Aside _ := insz
  have INS : Aside _ := insc
  clear hless hswap hH hSB hHB hLB insz insc fin LI
  have hn : ∀ w1 dk, SX enc (W.alloc (.cells #[.func (.func g) #[] lb, .func (.func sf) #[] sb] (ρ.t 42))) blk off dk w1 → Calls P (ρ.f 29) #[.agg #[.func (.func g) #[] lb, .func (.func sf) #[] sb], .int .i64 (20 : Nat), .int .i64 (20 : Nat)] w1 fun e w' => e = .returned (.tuple #[]) ∧ Aside (SX enc (W.alloc (.cells #[.func (.func g) #[] lb, .func (.func sf) #[] sb] (ρ.t 42))) blk off dk w') := fun w1 dk h =>
    (Any.insertionSort_func_none ({ L with } : LaysGt.n29 P ρ).elder (.func g) #[] lb sf sb 20 20 (by omega) (by omega) w1).mono fun e w' ⟨he, hw⟩ => ⟨he, by rw [hw]; exact (h.alloc _ : SX _ _ _ _ _ _)⟩
  have HN : Aside _ := hn
  clear hn
  have H : Aside (d.size = 20) := hh
  rw [hh]
  clear hh
  go_enter L.f15, BodyGt.n15_ntmps ρ
  go_wp2
  refine wp_loop_rounds 2 ?_
  rw [rounds_succ]
  go_wp2_with (go_at_fn_of (ρ.f 29) (Value.int .i64 0); refine (INS.out d _ 0 20 SB.out rfl (by omega) (by have := H.out; omega)).mono ?_; rintro e w1 ⟨rfl, S1⟩)
  have c0 := SX_cellB S1.out (by omega) hlB B0.out
  have c1 := SX_cellB S1.out (by omega) hlB B1.out
  rw [rounds_succ]
  go_wp2_with (go_at_fn (ρ.f 29); refine (HN.out _ _ S1.out).mono ?_; rintro e w2 ⟨rfl, S2⟩)
  refine wp_loop_rounds 1 ?_
  rw [rounds_succ]
  go_wp2
  go_end0
  exact ⟨rfl, FIN.out _ _ S2.out⟩

set_option maxHeartbeats 3200000 in
set_option maxRecDepth 100000 in
theorem stable_mid (L : LaysGt.n15 P ρ) (L30 : LaysGt.n30 P ρ) (enc : α → Value) (lt : α → α → Bool) (g : Nat) (lb : Array Value) (sf : Nat) (sb : Array Value) (blk off : Nat) (d : Array α) (W : World)
    (eg : ∀ args w, (callFunc g args).run P w = .ok (.enter g args) w) (hless : LessX P g lb enc lt blk off d.size W) (hswap : SwapSwaps P sf sb enc blk off d.size)
    (hH : Holds enc W blk off d) (hblk : blk < W.heap.size) (hh : 20 < d.size) (h40 : d.size < 40) :
    Calls P (ρ.f 15) #[.agg #[.func (.func g) #[] lb, .func (.func sf) #[] sb], .int .i64 d.size] W fun e w' => e = .returned (.tuple #[]) ∧ SX enc W blk off (symM lt 40 (Sort.insertionSort lt (Sort.insertionSort lt d 0 20) 20 d.size) 0 20 d.size) w' := by
  have mixed := L.mixed; have t0 := L.t0; have a0 := L.a0; have z0 := L.z0; have v0 := L.v0; have t3 := L.t3; have a3 := L.a3; have z3 := L.z3; have v3 := L.v3; have t4 := L.t4; have a4 := L.a4; have z4 := L.z4; have v4 := L.v4; have t26 := L.t26; have a26 := L.a26; have z26 := L.z26; have v26 := L.v26; have t38 := L.t38; have a38 := L.a38; have z38 := L.z38; have v38 := L.v38; have t42 := L.t42; have a42 := L.a42; have z42 := L.z42; have v42 := L.v42; have t47 := L.t47; have a47 := L.a47; have z47 := L.z47; have v47 := L.v47
  have u42 := run_underlying L.t42
  have e29 : ∀ args w, (callFunc (ρ.f 29) args).run P w = .ok (.enter (ρ.f 29) args) w := enters_of L.f29 (by kernel_rfl) rfl
  have LI : LaysGt.n29 P ρ := { L with }
  have hHB : Holds enc (W.alloc (.cells #[.func (.func g) #[] lb, .func (.func sf) #[] sb] (ρ.t 42))) blk off d := by rw [alloc_eq_grow]; exact holds_grow enc W _ blk off d hblk hH
  have hSB : SX enc (W.alloc (.cells #[.func (.func g) #[] lb, .func (.func sf) #[] sb] (ρ.t 42))) blk off d (W.alloc (.cells #[.func (.func g) #[] lb, .func (.func sf) #[] sb] (ρ.t 42))) := SX.start hHB
  have hbB : blk < (W.alloc (.cells #[.func (.func g) #[] lb, .func (.func sf) #[] sb] (ρ.t 42))).heap.size := by simp; omega
  have b0 : (W.alloc (.cells #[.func (.func g) #[] lb, .func (.func sf) #[] sb] (ρ.t 42))).cell? ⟨W.heap.size, 0, none⟩ = some (.func (.func g) #[] lb) := by simp
  have b1 : (W.alloc (.cells #[.func (.func g) #[] lb, .func (.func sf) #[] sb] (ρ.t 42))).cell? ⟨W.heap.size, 1, none⟩ = some (.func (.func sf) #[] sb) := by simp
  have hlB : W.heap.size < (W.alloc (.cells #[.func (.func g) #[] lb, .func (.func sf) #[] sb] (ρ.t 42))).heap.size := by simp
  have fin : ∀ dk V, SX enc (W.alloc (.cells #[.func (.func g) #[] lb, .func (.func sf) #[] sb] (ρ.t 42))) blk off dk V → SX enc W blk off dk V := fun dk V h => SX_box h
  have hLB : LessX P g lb enc lt blk off d.size (W.alloc (.cells #[.func (.func g) #[] lb, .func (.func sf) #[] sb] (ρ.t 42))) := hless.box _
  have hsz : d.size < 4611686018427387904 := by omega
  have insz : ∀ (dk : Array α) (x y : Nat), (Sort.insertionSort lt dk x y).size = dk.size := fun dk x y => size_insertionSort lt dk x y
  have insc : ∀ (dk : Array α) (V : World) (x y : Nat), SX enc (W.alloc (.cells #[.func (.func g) #[] lb, .func (.func sf) #[] sb] (ρ.t 42))) blk off dk V → dk.size = d.size → x ≤ y → y ≤ d.size →
      Calls P (ρ.f 29) #[.agg #[.func (.func g) #[] lb, .func (.func sf) #[] sb], .int .i64 x, .int .i64 y] V fun e w' => e = .returned (.tuple #[]) ∧ Aside (SX enc (W.alloc (.cells #[.func (.func g) #[] lb, .func (.func sf) #[] sb] (ρ.t 42))) blk off (Sort.insertionSort lt dk x y) w') := fun dk V x y h hs h1 h2 =>
    (ins_w LI enc lt g lb sf sb blk off x y dk V eg (by rw [hs]; exact hLB.on hbB h hs) (by rw [hs]; exact hswap) (h.holds hbB hHB hs) (h.lt hbB) h1 (by omega) (by omega)).mono fun e w' ⟨he, h'⟩ => ⟨he, SX_trans h hbB (insz _ _ _) h'⟩
  have e30 : ∀ args w, (callFunc (ρ.f 30) args).run P w = .ok (.enter (ρ.f 30) args) w := enters_of L.f30 (by kernel_rfl) rfl
  have mgc : ∀ (dk : Array α) (V : World) (x y z : Nat), SX enc (W.alloc (.cells #[.func (.func g) #[] lb, .func (.func sf) #[] sb] (ρ.t 42))) blk off dk V → dk.size = d.size → x < y → y < z → z ≤ d.size →
      Calls P (ρ.f 30) #[.agg #[.func (.func g) #[] lb, .func (.func sf) #[] sb], .int .i64 x, .int .i64 y, .int .i64 z] V fun e w' => e = .returned (.tuple #[]) ∧ Aside (SX enc (W.alloc (.cells #[.func (.func g) #[] lb, .func (.func sf) #[] sb] (ρ.t 42))) blk off (symM lt 40 dk x y z) w') := fun dk V x y z h hs h1 h2 h3 =>
    (symMerge_w L30 enc lt g lb sf sb blk off eg 40 x y z dk V (by rw [hs]; exact hswap) (by omega) (by rw [hs]; exact hLB.on hbB h hs) (h.holds hbB hHB hs) (h.lt hbB) (by omega) h1 h2 (by omega)).mono fun e w' ⟨he, h'⟩ => ⟨he, SX_trans h hbB (size_symM _ _ _ _ _ _) h'⟩
  have B0 : Aside _ := b0
  have B1 : Aside _ := b1
  have SB : Aside _ := hSB
  have FIN : Aside _ := fin
  have INSZ : Aside _ := insz
  have INS : Aside _ := insc
  have MG : Aside _ := mgc
  clear mgc
  clear hless hswap hH hSB hHB hLB insz insc fin LI
  have H : Aside (20 < d.size) := hh
  go_enter L.f15, BodyGt.n15_ntmps ρ
  go_wp2
  refine wp_loop_rounds 2 ?_
  rw [rounds_succ]
  go_wp2_with (go_at_fn_of (ρ.f 29) (Value.int .i64 0); refine (INS.out d _ 0 20 SB.out rfl (by omega) (by have := H.out; omega)).mono ?_; rintro e w1 ⟨rfl, S1⟩)
  have c0 := SX_cellB S1.out (by omega) hlB B0.out
  have c1 := SX_cellB S1.out (by omega) hlB B1.out
  rw [rounds_succ]
  go_wp2_with (go_at_fn (ρ.f 29); refine (INS.out _ _ 20 d.size S1.out (INSZ.out _ _ _) (by omega) (by omega)).mono ?_; rintro e w2 ⟨rfl, S2⟩)
  have c02 := SX_cellB S2.out (by omega) hlB B0.out
  have c12 := SX_cellB S2.out (by omega) hlB B1.out
  refine wp_loop_rounds 2 ?_
  rw [rounds_succ]
  go_wp2
  refine wp_loop_rounds 1 ?_
  rw [rounds_succ]
  go_wp2_with (go_at_fn (ρ.f 30); refine (MG.out _ _ 0 20 d.size S2.out (by rw [INSZ.out, INSZ.out]) (by omega) (by omega) (by omega)).mono ?_; rintro e w3 ⟨rfl, S3⟩)
  rw [rounds_succ]
  go_wp2
  go_end0
  exact ⟨rfl, FIN.out _ _ S3.out⟩

set_option maxHeartbeats 3200000 in
set_option maxRecDepth 100000 in
theorem stable_40 (L : LaysGt.n15 P ρ) (L30 : LaysGt.n30 P ρ) (enc : α → Value) (lt : α → α → Bool) (g : Nat) (lb : Array Value) (sf : Nat) (sb : Array Value) (blk off : Nat) (d : Array α) (W : World)
    (eg : ∀ args w, (callFunc g args).run P w = .ok (.enter g args) w) (hless : LessX P g lb enc lt blk off d.size W) (hswap : SwapSwaps P sf sb enc blk off d.size)
    (hH : Holds enc W blk off d) (hblk : blk < W.heap.size) (hh : d.size = 40) :
    Calls P (ρ.f 15) #[.agg #[.func (.func g) #[] lb, .func (.func sf) #[] sb], .int .i64 d.size] W fun e w' => e = .returned (.tuple #[]) ∧ SX enc W blk off (symM lt 40 (Sort.insertionSort lt (Sort.insertionSort lt d 0 20) 20 d.size) 0 20 d.size) w' := by
  have mixed := L.mixed; have t0 := L.t0; have a0 := L.a0; have z0 := L.z0; have v0 := L.v0; have t3 := L.t3; have a3 := L.a3; have z3 := L.z3; have v3 := L.v3; have t4 := L.t4; have a4 := L.a4; have z4 := L.z4; have v4 := L.v4; have t26 := L.t26; have a26 := L.a26; have z26 := L.z26; have v26 := L.v26; have t38 := L.t38; have a38 := L.a38; have z38 := L.z38; have v38 := L.v38; have t42 := L.t42; have a42 := L.a42; have z42 := L.z42; have v42 := L.v42; have t47 := L.t47; have a47 := L.a47; have z47 := L.z47; have v47 := L.v47
  have u42 := run_underlying L.t42
  have e29 : ∀ args w, (callFunc (ρ.f 29) args).run P w = .ok (.enter (ρ.f 29) args) w := enters_of L.f29 (by kernel_rfl) rfl
  have LI : LaysGt.n29 P ρ := { L with }
  have hHB : Holds enc (W.alloc (.cells #[.func (.func g) #[] lb, .func (.func sf) #[] sb] (ρ.t 42))) blk off d := by rw [alloc_eq_grow]; exact holds_grow enc W _ blk off d hblk hH
  have hSB : SX enc (W.alloc (.cells #[.func (.func g) #[] lb, .func (.func sf) #[] sb] (ρ.t 42))) blk off d (W.alloc (.cells #[.func (.func g) #[] lb, .func (.func sf) #[] sb] (ρ.t 42))) := SX.start hHB
  have hbB : blk < (W.alloc (.cells #[.func (.func g) #[] lb, .func (.func sf) #[] sb] (ρ.t 42))).heap.size := by simp; omega
  have b0 : (W.alloc (.cells #[.func (.func g) #[] lb, .func (.func sf) #[] sb] (ρ.t 42))).cell? ⟨W.heap.size, 0, none⟩ = some (.func (.func g) #[] lb) := by simp
  have b1 : (W.alloc (.cells #[.func (.func g) #[] lb, .func (.func sf) #[] sb] (ρ.t 42))).cell? ⟨W.heap.size, 1, none⟩ = some (.func (.func sf) #[] sb) := by simp
  have hlB : W.heap.size < (W.alloc (.cells #[.func (.func g) #[] lb, .func (.func sf) #[] sb] (ρ.t 42))).heap.size := by simp
  have fin : ∀ dk V, SX enc (W.alloc (.cells #[.func (.func g) #[] lb, .func (.func sf) #[] sb] (ρ.t 42))) blk off dk V → SX enc W blk off dk V := fun dk V h => SX_box h
  have hLB : LessX P g lb enc lt blk off d.size (W.alloc (.cells #[.func (.func g) #[] lb, .func (.func sf) #[] sb] (ρ.t 42))) := hless.box _
  have hsz : d.size < 4611686018427387904 := by omega
  have insz : ∀ (dk : Array α) (x y : Nat), (Sort.insertionSort lt dk x y).size = dk.size := fun dk x y => size_insertionSort lt dk x y
  have insc : ∀ (dk : Array α) (V : World) (x y : Nat), SX enc (W.alloc (.cells #[.func (.func g) #[] lb, .func (.func sf) #[] sb] (ρ.t 42))) blk off dk V → dk.size = d.size → x ≤ y → y ≤ d.size →
      Calls P (ρ.f 29) #[.agg #[.func (.func g) #[] lb, .func (.func sf) #[] sb], .int .i64 x, .int .i64 y] V fun e w' => e = .returned (.tuple #[]) ∧ Aside (SX enc (W.alloc (.cells #[.func (.func g) #[] lb, .func (.func sf) #[] sb] (ρ.t 42))) blk off (Sort.insertionSort lt dk x y) w') := fun dk V x y h hs h1 h2 =>
    (ins_w LI enc lt g lb sf sb blk off x y dk V eg (by rw [hs]; exact hLB.on hbB h hs) (by rw [hs]; exact hswap) (h.holds hbB hHB hs) (h.lt hbB) h1 (by omega) (by omega)).mono fun e w' ⟨he, h'⟩ => ⟨he, SX_trans h hbB (insz _ _ _) h'⟩
  have e30 : ∀ args w, (callFunc (ρ.f 30) args).run P w = .ok (.enter (ρ.f 30) args) w := enters_of L.f30 (by kernel_rfl) rfl
  have mgc : ∀ (dk : Array α) (V : World) (x y z : Nat), SX enc (W.alloc (.cells #[.func (.func g) #[] lb, .func (.func sf) #[] sb] (ρ.t 42))) blk off dk V → dk.size = d.size → x < y → y < z → z ≤ d.size →
      Calls P (ρ.f 30) #[.agg #[.func (.func g) #[] lb, .func (.func sf) #[] sb], .int .i64 x, .int .i64 y, .int .i64 z] V fun e w' => e = .returned (.tuple #[]) ∧ Aside (SX enc (W.alloc (.cells #[.func (.func g) #[] lb, .func (.func sf) #[] sb] (ρ.t 42))) blk off (symM lt 40 dk x y z) w') := fun dk V x y z h hs h1 h2 h3 =>
    (symMerge_w L30 enc lt g lb sf sb blk off eg 40 x y z dk V (by rw [hs]; exact hswap) (by omega) (by rw [hs]; exact hLB.on hbB h hs) (h.holds hbB hHB hs) (h.lt hbB) (by omega) h1 h2 (by omega)).mono fun e w' ⟨he, h'⟩ => ⟨he, SX_trans h hbB (size_symM _ _ _ _ _ _) h'⟩
  have B0 : Aside _ := b0
  have B1 : Aside _ := b1
  have SB : Aside _ := hSB
  have FIN : Aside _ := fin
  have INSZ : Aside _ := insz
  have INS : Aside _ := insc
  have MG : Aside _ := mgc
  clear mgc
  clear hless hswap hH hSB hHB hLB insz insc fin LI
  have hn : ∀ w1 dk, SX enc (W.alloc (.cells #[.func (.func g) #[] lb, .func (.func sf) #[] sb] (ρ.t 42))) blk off dk w1 → Calls P (ρ.f 29) #[.agg #[.func (.func g) #[] lb, .func (.func sf) #[] sb], .int .i64 (40 : Nat), .int .i64 (40 : Nat)] w1 fun e w' => e = .returned (.tuple #[]) ∧ Aside (SX enc (W.alloc (.cells #[.func (.func g) #[] lb, .func (.func sf) #[] sb] (ρ.t 42))) blk off dk w') := fun w1 dk h =>
    (Any.insertionSort_func_none ({ L with } : LaysGt.n29 P ρ).elder (.func g) #[] lb sf sb 40 40 (by omega) (by omega) w1).mono fun e w' ⟨he, hw⟩ => ⟨he, by rw [hw]; exact (h.alloc _ : SX _ _ _ _ _ _)⟩
  have HN : Aside _ := hn
  clear hn
  have H : Aside (d.size = 40) := hh
  rw [hh]
  clear hh
  go_enter L.f15, BodyGt.n15_ntmps ρ
  go_wp2
  refine wp_loop_rounds 3 ?_
  rw [rounds_succ]
  go_wp2_with (go_at_fn_of (ρ.f 29) (Value.int .i64 0); refine (INS.out d _ 0 20 SB.out rfl (by omega) (by have := H.out; omega)).mono ?_; rintro e w1 ⟨rfl, S1⟩)
  have c0 := SX_cellB S1.out (by omega) hlB B0.out
  have c1 := SX_cellB S1.out (by omega) hlB B1.out
  rw [rounds_succ]
  go_wp2_with (go_at_fn_of (ρ.f 29) (Value.int .i64 20); refine (INS.out _ _ 20 40 S1.out (INSZ.out _ _ _) (by omega) (by have := H.out; omega)).mono ?_; rintro e w2 ⟨rfl, S2⟩)
  have c02 := SX_cellB S2.out (by omega) hlB B0.out
  have c12 := SX_cellB S2.out (by omega) hlB B1.out
  rw [rounds_succ]
  go_wp2_with (go_at_fn (ρ.f 29); refine (HN.out _ _ S2.out).mono ?_; rintro e w3 ⟨rfl, S3⟩)
  have c03 := SX_cellB S3.out (by omega) hlB B0.out
  have c13 := SX_cellB S3.out (by omega) hlB B1.out
  refine wp_loop_rounds 2 ?_
  rw [rounds_succ]
  go_wp2
  refine wp_loop_rounds 2 ?_
  rw [rounds_succ]
  go_wp2_with (go_at_fn (ρ.f 30); refine (MG.out _ _ 0 20 40 S3.out (by rw [INSZ.out, INSZ.out]) (by omega) (by omega) (by have := H.out; omega)).mono ?_; rintro e w4 ⟨rfl, S4⟩)
  rw [rounds_succ]
  go_wp2
  rw [rounds_succ]
  go_wp2
  go_end0
  exact ⟨rfl, FIN.out _ _ S4.out⟩
end
end
section
open Go Go.Proofs Go.Shelf Go.RowKit Go.Lib Go.Sort
/-! The stable sort of up to 40: what the merging computes, on lists. -/
section
variable {α : Type} [Inhabited α]
theorem getL {d : Array α} {pre post : List α} {x : α} (h : d.toList = pre ++ x :: post) : d[pre.length]! = x := by
  have h1 : d.toList[pre.length]? = some x := by rw [h, List.getElem?_append_right (Nat.le_refl _)]; simp
  have h2 : d[pre.length]? = some x := by simpa using h1
  simp [getElem!_def, h2]
theorem swp_list {d : Array α} {pre mid post : List α} {x y : α} {a b : Nat} (h : d.toList = pre ++ x :: (mid ++ y :: post)) (ha : a = pre.length) (hb : b = pre.length + 1 + mid.length) : (Sort.swp d a b).toList = pre ++ y :: (mid ++ x :: post) := by
  subst ha hb
  have h1 : d[pre.length]! = x := getL h
  have h2 : d[pre.length + 1 + mid.length]! = y := by
    have := getL (d := d) (pre := pre ++ x :: mid) (post := post) (x := y) (by simpa using h)
    simpa [Nat.add_assoc, Nat.add_comm 1] using this
  unfold Sort.swp
  simp only [Array.toList_setIfInBounds, h, h1, h2]
  rw [List.set_append_right _ _ (Nat.le_refl _)]
  simp only [Nat.sub_self, List.set_cons_zero]
  rw [List.set_append_right _ _ (by omega)]
  rw [show pre.length + 1 + mid.length - pre.length = mid.length + 1 from by omega, List.set_cons_succ, List.set_append_right _ _ (Nat.le_refl _)]
  simp
theorem swp_list' {d : Array α} {pre mid post : List α} {x y : α} {a b : Nat} (h : d.toList = pre ++ x :: (mid ++ y :: post)) (ha : a = pre.length) (hb : b = pre.length + 1 + mid.length) : (Sort.swp d b a).toList = pre ++ y :: (mid ++ x :: post) := by
  subst ha hb
  have h1 : d[pre.length]! = x := getL h
  have h2 : d[pre.length + 1 + mid.length]! = y := by
    have := getL (d := d) (pre := pre ++ x :: mid) (post := post) (x := y) (by simpa using h)
    simpa [Nat.add_assoc, Nat.add_comm 1] using this
  unfold Sort.swp
  simp only [Array.toList_setIfInBounds, h, h1, h2]
  rw [List.set_append_right _ _ (by omega)]
  rw [show pre.length + 1 + mid.length - pre.length = mid.length + 1 from by omega, List.set_cons_succ, List.set_append_right _ _ (Nat.le_refl _)]
  rw [List.set_append_right _ _ (Nat.le_refl _)]
  simp
theorem swapR_list : ∀ (X Y : List α) (d : Array α) (pre mid post : List α) (a b : Nat), X.length = Y.length → d.toList = pre ++ (X ++ (mid ++ (Y ++ post))) → a = pre.length → b = pre.length + X.length + mid.length → (swapR d a b X.length).toList = pre ++ (Y ++ (mid ++ (X ++ post)))
  | [], [], d, pre, mid, post, a, b, _, h, _, _ => by simpa [swapR] using h
  | x :: X, y :: Y, d, pre, mid, post, a, b, hl, h, ha, hb => by
    simp only [List.length_cons] at hl hb ⊢
    rw [swapR]
    have h1 := swp_list (d := d) (pre := pre) (mid := X ++ mid) (post := Y ++ post) (x := x) (y := y) (a := a) (b := b) (by simpa using h) ha (by simp; omega)
    have h2 := swapR_list X Y (Sort.swp d a b) (pre ++ [y]) (mid ++ [x]) post (a + 1) (b + 1) (by omega) (by simpa using h1) (by simp; omega) (by simp; omega)
    simpa using h2
theorem rotL_list : ∀ (f : Nat) (d : Array α) (pre X Y post : List α) (m : Nat), 0 < X.length → 0 < Y.length → X.length + Y.length ≤ f → d.toList = pre ++ (X ++ (Y ++ post)) → m = pre.length + X.length → (rotL f d m X.length Y.length).toList = pre ++ (Y ++ (X ++ post))
  | 0, d, pre, X, Y, post, m, hx, hy, hf, h, hm => by omega
  | f + 1, d, pre, X, Y, post, m, hx, hy, hf, h, hm => by
    rw [rotL]
    by_cases e : X.length = Y.length
    · rw [if_pos e]
      have := swapR_list X Y d pre [] post (m - X.length) m e (by simpa using h) (by omega) (by simp; omega)
      simpa using this
    · rw [if_neg e]
      by_cases hlt : Y.length < X.length
      · rw [if_pos hlt]
        have h1 := swapR_list (X.take Y.length) Y d pre (X.drop Y.length) post (m - X.length) m (by simp; omega) (by rw [← List.append_assoc (X.take _), List.take_append_drop]; exact h) (by omega) (by simp; omega)
        rw [List.length_take_of_le (by omega)] at h1
        have h2 := rotL_list f _ (pre ++ Y) (X.drop Y.length) (X.take Y.length) post m (by simp; omega) (by simp; omega) (by simp; omega) (by simpa using h1) (by simp; omega)
        rw [List.length_drop, List.length_take_of_le (by omega)] at h2
        rw [h2, List.append_assoc, ← List.append_assoc (X.take _), List.take_append_drop]
      · rw [if_neg hlt]
        have h1 := swapR_list X (Y.drop (Y.length - X.length)) d pre (Y.take (Y.length - X.length)) post (m - X.length) (m + Y.length - X.length) (by simp; omega) (by rw [← List.append_assoc (Y.take _), List.take_append_drop]; exact h) (by omega) (by simp; omega)
        have h2 := rotL_list f _ pre (Y.drop (Y.length - X.length)) (Y.take (Y.length - X.length)) (X ++ post) m (by simp; omega) (by simp; omega) (by simp; omega) h1 (by simp; omega)
        rw [List.length_drop, List.length_take_of_le (by omega), show Y.length - (Y.length - X.length) = X.length from by omega] at h2
        rw [h2, ← List.append_assoc (Y.take _), List.take_append_drop]
theorem shR_list : ∀ (B : List α) (d : Array α) (pre post : List α) (x : α) (k : Nat), d.toList = pre ++ x :: (B ++ post) → k = pre.length → (shR d k B.length).toList = pre ++ (B ++ x :: post)
  | [], d, pre, post, x, k, h, _ => by simpa [shR] using h
  | y :: B, d, pre, post, x, k, h, hk => by
    rw [List.length_cons, shR]
    have h1 := swp_list (d := d) (pre := pre) (mid := []) (post := B ++ post) (x := x) (y := y) (a := k) (b := k + 1) (by simpa using h) hk (by simp; omega)
    have h2 := shR_list B _ (pre ++ [y]) post x (k + 1) (by simpa using h1) (by simp; omega)
    simpa using h2
theorem shL_list : ∀ (n : Nat) (B : List α) (d : Array α) (pre post : List α) (x : α) (k : Nat), B.length = n → d.toList = pre ++ (B ++ x :: post) → k = pre.length + n → (shL d k n).toList = pre ++ x :: (B ++ post)
  | 0, B, d, pre, post, x, k, hn, h, _ => by
    have : B = [] := List.length_eq_zero_iff.1 hn
    subst this; simpa [shL] using h
  | n + 1, B, d, pre, post, x, k, hn, h, hk => by
    rw [shL]
    have hB : B ≠ [] := fun e => by subst e; simp at hn
    have hBe : B = B.dropLast ++ [B.getLast hB] := (List.dropLast_concat_getLast hB).symm
    have hBl : B.dropLast.length = n := by simp [hn]
    generalize B.dropLast = C at hBe hBl
    generalize B.getLast hB = y at hBe
    subst hBe
    have h1 := swp_list' (d := d) (pre := pre ++ C) (mid := []) (post := post) (x := y) (y := x) (a := k - 1) (b := k) (by simpa using h) (by simp; omega) (by simp; omega)
    have h2 := shL_list n C _ pre (y :: post) x (k - 1) hBl (by simpa using h1) (by omega)
    simpa using h2

variable (lt : α → α → Bool)
def smg : List α → List α → List α
  | [], B => B
  | a :: A, [] => a :: A
  | a :: A, b :: B => if lt b a then b :: smg (a :: A) B else a :: smg A (b :: B)
termination_by A B => A.length + B.length
theorem smg_nil_right (A : List α) : smg lt A [] = A := by cases A <;> simp [smg]
theorem smg_nil_left (B : List α) : smg lt [] B = B := by simp [smg]
theorem smg_split : ∀ (A1 A2 B1 B2 : List α), (∀ a ∈ A2, ∀ b ∈ B1, lt b a = true) → (∀ a ∈ A1, ∀ b ∈ B2, lt b a = false) → smg lt (A1 ++ A2) (B1 ++ B2) = smg lt A1 B1 ++ smg lt A2 B2
  | [], A2, [], B2, _, _ => by simp [smg]
  | [], [], b :: B1, B2, _, _ => by simp [smg_nil_left]
  | [], a :: A2, b :: B1, B2, h1, h2 => by
    have := smg_split [] (a :: A2) B1 B2 (fun x hx y hy => h1 x hx y (by simp [hy])) h2
    simp only [List.nil_append, smg_nil_left, List.cons_append] at this ⊢
    rw [smg, if_pos (h1 a (by simp) b (by simp)), this]
  | a :: A1, A2, [], [], _, _ => by simp [smg_nil_right]
  | a :: A1, A2, [], b :: B2, h1, h2 => by
    have := smg_split A1 A2 [] (b :: B2) h1 (fun x hx y hy => h2 x (by simp [hx]) y hy)
    simp only [List.nil_append, smg_nil_right, List.cons_append] at this ⊢
    rw [smg, if_neg (by rw [h2 a (by simp) b (by simp)]; simp), this]
  | a :: A1, A2, b :: B1, B2, h1, h2 => by
    simp only [List.cons_append]
    rw [smg, smg]
    by_cases h : lt b a = true
    · rw [if_pos h, if_pos h]
      have := smg_split (a :: A1) A2 B1 B2 (fun x hx y hy => h1 x hx y (by simp [hy])) h2
      simp only [List.cons_append] at this ⊢
      rw [this]
    · rw [if_neg h, if_neg h]
      have := smg_split A1 A2 (b :: B1) B2 h1 (fun x hx y hy => h2 x (by simp [hx]) y hy)
      simp only [List.cons_append] at this ⊢
      rw [this]
termination_by A1 A2 B1 B2 => A1.length + B1.length
theorem smg_len : ∀ (A B : List α), (smg lt A B).length = A.length + B.length
  | [], B => by simp [smg]
  | a :: A, [] => by simp [smg]
  | a :: A, b :: B => by
    rw [smg]
    split
    · simp only [List.length_cons, smg_len (a :: A) B]; omega
    · simp only [List.length_cons, smg_len A (b :: B)]; omega
termination_by A B => A.length + B.length
end
end
section
open Go Go.Proofs Go.Shelf Go.RowKit Go.Lib Go.Sort
section
variable {α : Type} [Inhabited α]
theorem bs_spec (p : Nat → Bool) : ∀ (f lo hi : Nat), lo ≤ hi → hi - lo ≤ f → (lo < bs p f lo hi → p (bs p f lo hi - 1) = true) ∧ (bs p f lo hi < hi → p (bs p f lo hi) = false)
  | 0, lo, hi, h, hf => by
    rw [bs]; exact ⟨fun h => by omega, fun h => by omega⟩
  | f + 1, lo, hi, h, hf => by
    rw [bs]
    by_cases hlt : lo < hi
    · rw [if_pos hlt]
      cases hp : p ((lo + hi) / 2) with
      | true =>
        rw [if_pos rfl]
        obtain ⟨i1, i2⟩ := bs_spec p f ((lo + hi) / 2 + 1) hi (by omega) (by omega)
        have hin := bs_in p f ((lo + hi) / 2 + 1) hi (by omega)
        refine ⟨fun h => ?_, i2⟩
        by_cases e : bs p f ((lo + hi) / 2 + 1) hi = (lo + hi) / 2 + 1
        · rw [e]; exact hp
        · exact i1 (by omega)
      | false =>
        rw [if_neg (by simp)]
        obtain ⟨i1, i2⟩ := bs_spec p f lo ((lo + hi) / 2) (by omega) (by omega)
        have hin := bs_in p f lo ((lo + hi) / 2) (by omega)
        refine ⟨i1, fun h => ?_⟩
        by_cases e : bs p f lo ((lo + hi) / 2) = (lo + hi) / 2
        · rw [e]; exact hp
        · exact i2 (by omega)
    · rw [if_neg hlt]; exact ⟨fun h => by omega, fun h => by omega⟩
variable (lt : α → α → Bool)
def Srt (l : List α) : Prop := l.Pairwise fun x y => lt y x = false
variable (hN : ∀ x y z, lt x y = true → lt z y = false → lt x z = true) (hA : ∀ x y, lt x y = true → lt y x = false)
include hN
theorem ltT2 {x y z : α} (h1 : lt y x = false) (h2 : lt y z = true) : lt x z = true := by
  cases h : lt x z with
  | true => rfl
  | false => rw [hN y z x h2 h] at h1; cases h1
theorem ltT3 {x y z : α} (h1 : lt y x = false) (h2 : lt z y = false) : lt z x = false := by
  cases h : lt z x with
  | false => rfl
  | true => rw [hN z x y h h1] at h2; cases h2
theorem srt_getElem {l : List α} (h : Srt lt l) {i j : Nat} (hij : i < j) (hj : j < l.length) : lt l[j] l[i] = false := (List.pairwise_iff_getElem.1 h) i j (by omega) hj hij
include hA
theorem srt_le {l : List α} (h : Srt lt l) {i j : Nat} (hij : i ≤ j) (hj : j < l.length) : lt l[j] l[i] = false := by
  by_cases e : i = j
  · subst e
    cases hc : lt l[i] l[i] with
    | false => rfl
    | true => have := hA _ _ hc; rw [hc] at this; cases this
  · exact srt_getElem lt hN h (by omega) hj
/-- what is before the place that the search finds, and what is behind it -/
theorem srt_take {l : List α} (h : Srt lt l) {r : Nat} {x : α} (hr : r ≤ l.length) (h1 : ∀ (h0 : 0 < r), lt (l[r - 1]'(by omega)) x = true) : ∀ b ∈ l.take r, lt b x = true := by
  intro b hb
  obtain ⟨i, hi, e⟩ := List.mem_iff_getElem.1 hb
  simp only [List.length_take] at hi
  rw [List.getElem_take] at e
  subst e
  exact ltT2 lt hN (srt_le lt hN hA h (by omega : i ≤ r - 1) (by omega)) (h1 (by omega))
theorem srt_drop {l : List α} (h : Srt lt l) {r : Nat} {x : α} (h1 : ∀ (h0 : r < l.length), lt l[r] x = false) : ∀ b ∈ l.drop r, lt b x = false := by
  intro b hb
  obtain ⟨i, hi, e⟩ := List.mem_iff_getElem.1 hb
  simp only [List.length_drop] at hi
  rw [List.getElem_drop] at e
  subst e
  exact ltT3 lt hN (h1 (by omega)) (srt_le lt hN hA h (by omega : r ≤ r + i) (by omega))
theorem srt_take' {l : List α} (h : Srt lt l) {r : Nat} {x : α} (hr : r ≤ l.length) (h1 : ∀ (h0 : 0 < r), lt x (l[r - 1]'(by omega)) = false) : ∀ b ∈ l.take r, lt x b = false := by
  intro b hb
  obtain ⟨i, hi, e⟩ := List.mem_iff_getElem.1 hb
  simp only [List.length_take] at hi
  rw [List.getElem_take] at e
  subst e
  exact ltT3 lt hN (srt_le lt hN hA h (by omega : i ≤ r - 1) (by omega)) (h1 (by omega))
theorem srt_drop' {l : List α} (h : Srt lt l) {r : Nat} {x : α} (h1 : ∀ (h0 : r < l.length), lt x l[r] = true) : ∀ b ∈ l.drop r, lt x b = true := by
  intro b hb
  obtain ⟨i, hi, e⟩ := List.mem_iff_getElem.1 hb
  simp only [List.length_drop] at hi
  rw [List.getElem_drop] at e
  subst e
  exact hN _ _ _ (h1 (by omega)) (srt_le lt hN hA h (by omega : r ≤ r + i) (by omega))
theorem srt_sub {l l' : List α} (h : Srt lt l) (hs : List.Sublist l' l) : Srt lt l' := h.sublist hs
omit hN hA in
theorem getP {d : Array α} {pre l post : List α} (h : d.toList = pre ++ (l ++ post)) {i : Nat} (hi : i < l.length) : d[pre.length + i]! = l[i] := by
  have h1 : d.toList[pre.length + i]? = some l[i] := by rw [h, List.getElem?_append_right (by omega), List.getElem?_append_left (by omega)]; simp
  have h2 : d[pre.length + i]? = some l[i] := by simpa using h1
  simp [getElem!_def, h2]

theorem symM_list : ∀ (k : Nat) (d : Array α) (pre A B post : List α) (a m b : Nat), d.toList = pre ++ (A ++ (B ++ post)) → a = pre.length → m = a + A.length → b = m + B.length → 0 < A.length → 0 < B.length → b - a ≤ k → Srt lt A → Srt lt B →
    (symM lt k d a m b).toList = pre ++ (smg lt A B ++ post)
  | 0, d, pre, A, B, post, a, m, b, h, ha, hm, hb, hAl, hBl, hk, _, _ => by omega
  | k + 1, d, pre, A, B, post, a, m, b, h, ha, hm, hb, hAl, hBl, hk, sA, sB => by
    rw [symM]
    have hBg : ∀ (i : Nat) (hi : i < B.length), d[m + i]! = B[i] := fun i hi => by
      have := getP (d := d) (pre := pre ++ A) (l := B) (post := post) (by simpa using h) hi
      rw [← this]; congr 1; simp; omega
    have hAg : ∀ (i : Nat) (hi : i < A.length), d[a + i]! = A[i] := fun i hi => by
      have := getP (d := d) (pre := pre) (l := A) (post := B ++ post) h hi
      rw [← this]; congr 1; omega
    by_cases h1 : m = a + 1
    · rw [if_pos h1]
      obtain ⟨x, rfl⟩ := List.length_eq_one_iff.1 (by omega : A.length = 1)
      · skip
        have hx : d[a]! = x := by have := hAg 0 (by simp); simpa using this
        rw [hx]
        have hin := bs_in (fun h => lt d[h]! x) (b - m) m b (by omega)
        obtain ⟨s1, s2⟩ := bs_spec (fun h => lt d[h]! x) (b - m) m b (by omega) (Nat.le_refl _)
        generalize bs (fun h => lt d[h]! x) (b - m) m b = i at hin s1 s2
        obtain ⟨r, rfl⟩ : ∃ r, i = m + r := ⟨i - m, by omega⟩
        have hrB : r ≤ B.length := by omega
        have t1 := srt_take lt hN hA sB (r := r) (x := x) hrB (fun h0 => by
          have := s1 (by omega)
          rw [← hBg (r - 1) (by omega)]
          rw [show m + r - 1 = m + (r - 1) from by omega] at this
          exact this)
        have t2 := srt_drop lt hN hA sB (r := r) (x := x) (fun h0 => by
          have := s2 (by omega)
          rw [← hBg r (by omega)]
          exact this)
        have e1 : smg lt [x] B = B.take r ++ x :: B.drop r := by
          have g1 := smg_split lt [] [x] (B.take r) (B.drop r) (fun a ha b hb => by
            simp only [List.mem_singleton] at ha; subst ha; exact t1 b hb) (fun a ha => by simp at ha)
          have g2 := smg_split lt [x] [] [] (B.drop r) (fun a ha => by simp at ha) (fun a ha b hb => by
            simp only [List.mem_singleton] at ha; subst ha; exact t2 b hb)
          simp only [List.nil_append, List.append_nil, smg_nil_left, smg_nil_right, List.take_append_drop] at g1 g2
          rw [g1, g2]; rfl
        rw [e1]
        have h3 := shR_list (B.take r) d pre (B.drop r ++ post) x a (by rw [← List.append_assoc (B.take r), List.take_append_drop]; simpa using h) ha
        rw [List.length_take_of_le hrB] at h3
        rw [show m + r - 1 - a = r from by omega, h3]
        simp
    · rw [if_neg h1]
      by_cases h2 : b = m + 1
      · rw [if_pos h2]
        obtain ⟨x, rfl⟩ := List.length_eq_one_iff.1 (by omega : B.length = 1)
        · skip
          have hx : d[m]! = x := by have := hBg 0 (by simp); simpa using this
          rw [hx]
          have hin := bs_in (fun h => !lt x d[h]!) (m - a) a m (by omega)
          obtain ⟨s1, s2⟩ := bs_spec (fun h => !lt x d[h]!) (m - a) a m (by omega) (Nat.le_refl _)
          generalize bs (fun h => !lt x d[h]!) (m - a) a m = i at hin s1 s2
          obtain ⟨r, rfl⟩ : ∃ r, i = a + r := ⟨i - a, by omega⟩
          have hrA : r ≤ A.length := by omega
          have t1 := srt_take' lt hN hA sA (r := r) (x := x) hrA (fun h0 => by
            have := s1 (by omega)
            rw [← hAg (r - 1) (by omega)]
            rw [show a + r - 1 = a + (r - 1) from by omega] at this
            simpa using this)
          have t2 := srt_drop' lt hN hA sA (r := r) (x := x) (fun h0 => by
            have := s2 (by omega)
            rw [← hAg r (by omega)]
            simpa using this)
          have e1 : smg lt A [x] = A.take r ++ x :: A.drop r := by
            have g1 := smg_split lt (A.take r) (A.drop r) [] [x] (fun a ha b hb => by simp at hb) (fun a ha b hb => by
              simp only [List.mem_singleton] at hb; subst hb; exact t1 a ha)
            have g2 := smg_split lt [] (A.drop r) [x] [] (fun a ha b hb => by
              simp only [List.mem_singleton] at hb; subst hb; exact t2 a ha) (fun a ha => by simp at ha)
            simp only [List.nil_append, List.append_nil, smg_nil_left, smg_nil_right, List.take_append_drop] at g1 g2
            rw [g1, g2]; rfl
          rw [e1]
          have h3 := shL_list (m - (a + r)) (A.drop r) d (pre ++ A.take r) post x m (by simp; omega) (by rw [List.append_assoc, ← List.append_assoc (A.take r), List.take_append_drop]; simpa using h) (by simp; omega)
          rw [h3]
          simp
      · rw [if_neg h2]
        generalize hmid : (a + b) / 2 = mid
        have q1 : a < mid := by omega
        have q2 : mid < b := by omega
        -- the place
        have key : ∃ r s : Nat, symStart lt d a m b mid = a + r ∧ r ≤ A.length ∧ s ≤ B.length ∧ r + s = mid - a ∧
            (∀ (h0 : s ≤ B.length) (h1 : 0 < s) (h2 : r < A.length), lt (B[s - 1]'(by omega)) A[r] = true) ∧ (∀ (h0 : r ≤ A.length) (h1 : 0 < r) (h2 : s < B.length), lt B[s] (A[r - 1]'(by omega)) = false) := by
          have gen : ∀ s0 r0 f, s0 ≤ r0 → r0 - s0 ≤ f → a ≤ s0 → r0 ≤ m → mid + m - b ≤ s0 → r0 ≤ mid → (s0 = a ∨ s0 = mid + m - b) → (r0 = m ∨ r0 = mid) → ∃ r s : Nat, bs (fun c => !lt d[mid + m - 1 - c]! d[c]!) f s0 r0 = a + r ∧ r ≤ A.length ∧ s ≤ B.length ∧ r + s = mid - a ∧
              (∀ (h0 : s ≤ B.length) (h1 : 0 < s) (h2 : r < A.length), lt (B[s - 1]'(by omega)) A[r] = true) ∧ (∀ (h0 : r ≤ A.length) (h1 : 0 < r) (h2 : s < B.length), lt B[s] (A[r - 1]'(by omega)) = false) := by
            intro s0 r0 f g1 g2 g3 g4 g5 g6 g7 g8
            have hin := bs_in (fun c => !lt d[mid + m - 1 - c]! d[c]!) f s0 r0 g1
            obtain ⟨t1, t2⟩ := bs_spec (fun c => !lt d[mid + m - 1 - c]! d[c]!) f s0 r0 g1 g2
            generalize bs (fun c => !lt d[mid + m - 1 - c]! d[c]!) f s0 r0 = i at hin t1 t2
            obtain ⟨r, rfl⟩ : ∃ r, i = a + r := ⟨i - a, by omega⟩
            refine ⟨r, mid - a - r, rfl, by omega, by omega, by omega, fun _ k1 k2 => ?_, fun _ k1 k2 => ?_⟩
            · have := t2 (by omega)
              rw [show mid + m - 1 - (a + r) = m + (mid - a - r - 1) from by omega, hBg _ (by omega), hAg r (by omega)] at this
              simpa using this
            · have := t1 (by omega)
              rw [show mid + m - 1 - (a + r - 1) = m + (mid - a - r) from by omega, hBg _ (by omega), show a + r - 1 = a + (r - 1) from by omega, hAg (r - 1) (by omega)] at this
              simpa using this
          unfold symStart
          by_cases hc : mid < m
          · rw [if_pos hc]
            exact gen _ _ _ (by omega) (by omega) (by omega) (by omega) (by omega) (by omega) (Or.inr rfl) (Or.inr rfl)
          · rw [if_neg hc]
            exact gen _ _ _ (by omega) (by omega) (by omega) (by omega) (by omega) (by omega) (Or.inl rfl) (Or.inl rfl)
        obtain ⟨r, s, hst, hr, hs, hrs, k1, k2⟩ := key
        rw [hst]
        rw [show mid + m - (a + r) = m + s from by omega]
        have spl : smg lt A B = smg lt (A.take r) (B.take s) ++ smg lt (A.drop r) (B.drop s) := by
          have := smg_split lt (A.take r) (A.drop r) (B.take s) (B.drop s) (fun x hx y hy => by
              have hrl : r < A.length := by
                by_cases e : r < A.length
                · exact e
                · rw [List.drop_eq_nil_of_le (by omega)] at hx; simp at hx
              refine srt_take lt hN hA sB hs (fun h0 => ?_) y hy
              have z1 := k1 hs h0 hrl
              obtain ⟨i, hi, e⟩ := List.mem_iff_getElem.1 hx
              simp only [List.length_drop] at hi
              rw [List.getElem_drop] at e
              subst e
              exact hN _ _ _ z1 (srt_le lt hN hA sA (by omega : r ≤ r + i) (by omega)))
            (fun x hx y hy => by
              have hsl : s < B.length := by
                by_cases e : s < B.length
                · exact e
                · rw [List.drop_eq_nil_of_le (by omega)] at hy; simp at hy
              refine srt_drop lt hN hA sB (r := s) (fun h0 => ?_) y hy
              obtain ⟨i, hi, e⟩ := List.mem_iff_getElem.1 hx
              simp only [List.length_take] at hi
              rw [List.getElem_take] at e
              subst e
              have z1 := k2 hr (by omega) h0
              exact ltT3 lt hN (srt_le lt hN hA sA (by omega : i ≤ r - 1) (by omega)) z1)
          simpa using this
        have s1 : Srt lt (A.take r) := srt_sub lt hN hA sA (List.take_sublist _ _)
        have s2 : Srt lt (A.drop r) := srt_sub lt hN hA sA (List.drop_sublist _ _)
        have s3 : Srt lt (B.take s) := srt_sub lt hN hA sB (List.take_sublist _ _)
        have s4 : Srt lt (B.drop s) := srt_sub lt hN hA sB (List.drop_sublist _ _)
        have l1 : (A.take r).length = r := List.length_take_of_le hr
        have l2 : (A.drop r).length = A.length - r := List.length_drop
        have l3 : (B.take s).length = s := List.length_take_of_le hs
        have l4 : (B.drop s).length = B.length - s := List.length_drop
        have h0 : d.toList = pre ++ (A.take r ++ (A.drop r ++ (B.take s ++ (B.drop s ++ post)))) := by
          rw [← List.append_assoc (A.take r), List.take_append_drop, ← List.append_assoc (B.take s), List.take_append_drop]; exact h
        rw [spl]
        generalize A.take r = A1 at *
        generalize A.drop r = A2 at *
        generalize B.take s = B1 at *
        generalize B.drop s = B2 at *
        unfold symTail
        -- the rotation
        have d1 : ∃ d1 : Array α, (if a + r < m ∧ a + r < mid then rotL (m - (a + r) + (m + s - m)) d m (m - (a + r)) (m + s - m) else d) = d1 ∧ d1.toList = pre ++ (A1 ++ (B1 ++ (A2 ++ (B2 ++ post)))) := by
          refine ⟨_, rfl, ?_⟩
          split
          · next hc =>
            have := rotL_list (m - (a + r) + (m + s - m)) d (pre ++ A1) A2 B1 (B2 ++ post) m (by omega) (by omega) (by omega) (by simpa using h0) (by simp; omega)
            rw [show A2.length = m - (a + r) from by omega, show B1.length = m + s - m from by omega] at this
            simpa using this
          · next hc =>
            rw [h0]
            by_cases e : r < A.length
            · have : B1 = [] := List.length_eq_zero_iff.1 (by omega)
              subst this; simp
            · have : A2 = [] := List.length_eq_zero_iff.1 (by omega)
              subst this; simp
        obtain ⟨d1, e1, h1'⟩ := d1
        dsimp only
        rw [e1]
        have d2 : ∃ d2 : Array α, (if a < a + r ∧ a + r < mid then symM lt k d1 a (a + r) mid else d1) = d2 ∧ d2.toList = pre ++ (smg lt A1 B1 ++ (A2 ++ (B2 ++ post))) := by
          refine ⟨_, rfl, ?_⟩
          split
          · next hc => exact symM_list k d1 pre A1 B1 (A2 ++ (B2 ++ post)) a (a + r) mid h1' ha (by omega) (by omega) (by omega) (by omega) (by omega) s1 s3
          · next hc =>
            rw [h1']
            by_cases e : 0 < r
            · have : B1 = [] := List.length_eq_zero_iff.1 (by omega)
              subst this; simp [smg_nil_right]
            · have : A1 = [] := List.length_eq_zero_iff.1 (by omega)
              subst this; simp [smg_nil_left]
        obtain ⟨d2, e2, h2'⟩ := d2
        rw [e2]
        have lq := smg_len lt A1 B1
        split
        · next hc =>
          have := symM_list k d2 (pre ++ smg lt A1 B1) A2 B2 post mid (m + s) b (by simpa using h2') (by simp; omega) (by omega) (by omega) (by omega) (by omega) (by omega) s2 s4
          simpa using this
        · next hc =>
          rw [h2']
          by_cases e : r < A.length
          · have : B2 = [] := List.length_eq_zero_iff.1 (by omega)
            subst this; simp [smg_nil_right]
          · have : A2 = [] := List.length_eq_zero_iff.1 (by omega)
            subst this; simp [smg_nil_left]
end
end
section
open Go Go.Proofs Go.Shelf Go.RowKit Go.Lib Go.Sort
section
variable {α : Type} [Inhabited α] (lt : α → α → Bool)
theorem insInner_pre (pre : List α) : ∀ (r : List α) (d : Array α) (x : α) (rest : List α), d.toList = pre ++ (r.reverse ++ x :: rest) →
    (Sort.insInner lt pre.length (pre.length + r.length) d).toList = pre ++ ((insB lt x r).reverse ++ rest)
  | [], d, x, rest, h => by
    have : Sort.insInner lt pre.length (pre.length + ([] : List α).length) d = d := by
      cases hp : pre.length with
      | zero => rfl
      | succ k => simp [Sort.insInner]
    rw [this, h]; simp [insB]
  | y :: r, d, x, rest, h => by
    have hx : d[pre.length + r.length + 1]! = x := by
      have := getL (d := d) (pre := pre ++ (y :: r).reverse) (post := rest) (x := x) (by simpa using h)
      rw [← this]; congr 1; simp; omega
    have hy : d[pre.length + r.length]! = y := by
      have := getL (d := d) (pre := pre ++ r.reverse) (post := x :: rest) (x := y) (by simpa using h)
      rw [← this]; congr 1; simp
    rw [List.length_cons, show pre.length + (r.length + 1) = pre.length + r.length + 1 from by omega, Sort.insInner, hx, hy]
    have hj : decide (pre.length + r.length + 1 > pre.length) = true := by simp; omega
    rw [hj, Bool.true_and, insB]
    cases hlt : lt x y with
    | false => simpa using h
    | true =>
      have hs := swp_list' (d := d) (pre := pre ++ r.reverse) (mid := []) (post := rest) (x := y) (y := x) (a := pre.length + r.length) (b := pre.length + r.length + 1) (by simpa using h) (by simp) (by simp)
      have := insInner_pre pre r _ x (y :: rest) (by simpa using hs)
      simp only [if_true, cond_true]
      rw [this]; simp
theorem insB_len (x : α) : ∀ (r : List α), (insB lt x r).length = r.length + 1
  | [] => rfl
  | y :: r => by
    simp only [insB]
    cases lt x y
    · simp
    · simp [insB_len x r]
theorem insOuter_pre (pre post : List α) : ∀ (rest : List α) (d : Array α) (r : List α), d.toList = pre ++ (r.reverse ++ (rest ++ post)) →
    (Sort.insOuter lt pre.length (pre.length + r.length + rest.length) (pre.length + r.length) d).toList = pre ++ ((isortB lt r rest).reverse ++ post)
  | [], d, r, h => by
    unfold Sort.insOuter
    rw [if_neg (by simp)]
    simpa [isortB] using h
  | x :: rest, d, r, h => by
    unfold Sort.insOuter
    rw [if_pos (by simp)]
    have h1 := insInner_pre lt pre r d x (rest ++ post) (by simpa using h)
    have h2 := insOuter_pre pre post rest _ (insB lt x r) h1
    rw [insB_len] at h2
    rw [show pre.length + r.length + (x :: rest).length = pre.length + (r.length + 1) + rest.length from by simp; omega, show pre.length + r.length + 1 = pre.length + (r.length + 1) from by omega]
    simpa [isortB] using h2
theorem ins_pre (pre l post : List α) (d : Array α) (h : d.toList = pre ++ (l ++ post)) (h0 : l ≠ []) (a b : Nat) (ha : a = pre.length) (hb : b = a + l.length) : (Sort.insertionSort lt d a b).toList = pre ++ (isort lt l ++ post) := by
  subst ha hb
  cases l with
  | nil => exact (h0 rfl).elim
  | cons x rest =>
    have := insOuter_pre lt pre post rest d [x] (by simpa using h)
    unfold Sort.insertionSort
    rw [show pre.length + (x :: rest).length = pre.length + [x].length + rest.length from by simp; omega, show pre.length + 1 = pre.length + [x].length from rfl, this]
    simp [isort, isortB, insB]
def insF (x : α) : List α → List α
  | [] => [x]
  | y :: r => if lt x y then x :: y :: r else y :: insF x r
variable (hN : ∀ x y z, lt x y = true → lt z y = false → lt x z = true) (hA : ∀ x y, lt x y = true → lt y x = false)
theorem insF_snoc (x y : α) (h : lt x y = true) : ∀ L, insF lt x (L ++ [y]) = insF lt x L ++ [y]
  | [] => by simp [insF, h]
  | z :: L => by
    simp only [List.cons_append, insF]
    split
    · rfl
    · rw [insF_snoc x y h L]; rfl
theorem insF_all (x : α) : ∀ L, (∀ z ∈ L, lt x z = false) → insF lt x L = L ++ [x]
  | [], _ => rfl
  | z :: L, h => by
    simp only [insF, h z (by simp), List.cons_append]
    rw [if_neg (by simp), insF_all x L (fun y hy => h y (by simp [hy]))]
theorem insF_mem (x w : α) : ∀ L, w ∈ insF lt x L → w = x ∨ w ∈ L
  | [], h => Or.inl (by simpa [insF] using h)
  | z :: L, h => by
    simp only [insF] at h
    split at h
    · rcases List.mem_cons.1 h with h | h
      · exact Or.inl h
      · exact Or.inr h
    · rcases List.mem_cons.1 h with h | h
      · exact Or.inr (by simp [h])
      · rcases insF_mem x w L h with h | h
        · exact Or.inl h
        · exact Or.inr (by simp [h])
include hN
theorem insF_rev (x : α) : ∀ acc : List α, Srt lt acc.reverse → (insB lt x acc).reverse = insF lt x acc.reverse
  | [], _ => rfl
  | y :: r, h => by
    simp only [insB, List.reverse_cons] at h ⊢
    have h1 : Srt lt r.reverse := h.sublist (List.sublist_append_left _ _)
    cases hlt : lt x y with
    | true =>
      simp only [cond_true, List.reverse_cons]
      rw [insF_rev x r h1, insF_snoc lt x y hlt]
    | false =>
      simp only [cond_false, List.reverse_cons]
      rw [insF_all]
      intro z hz
      rcases List.mem_append.1 hz with hz | hz
      · have := (List.pairwise_append.1 h).2.2 z hz y (by simp)
        exact ltT3 lt hN this hlt
      · simp only [List.mem_singleton] at hz; subst hz; exact hlt
include hA
theorem insF_srt (x : α) : ∀ L, Srt lt L → Srt lt (insF lt x L)
  | [], _ => by simp [insF, Srt]
  | z :: L, h => by
    simp only [insF]
    have h1 : Srt lt L := (List.pairwise_cons.1 h).2
    have h2 := (List.pairwise_cons.1 h).1
    split
    · next hc =>
      refine List.pairwise_cons.2 ⟨fun w hw => ?_, h⟩
      rcases List.mem_cons.1 hw with hw | hw
      · subst hw; exact hA _ _ hc
      · exact ltT3 lt hN (hA _ _ hc) (h2 w hw)
    · next hc =>
      refine List.pairwise_cons.2 ⟨fun w hw => ?_, insF_srt x L h1⟩
      rcases insF_mem lt x w L hw with hw | hw
      · subst hw; simpa using hc
      · exact h2 w hw
theorem smg_insF (x : α) : ∀ (A B : List α), smg lt A (insF lt x B) = insF lt x (smg lt A B)
  | [], B => by simp [smg_nil_left]
  | a :: A, [] => by
    simp only [insF, smg_nil_right]
    rw [smg]
    split
    · simp [smg_nil_right]
    · rw [show [x] = insF lt x [] from rfl, smg_insF x A [], smg_nil_right]
  | a :: A, b :: B => by
    have ih1 := smg_insF x (a :: A) B
    have ih2 := smg_insF x A (b :: B)
    rw [smg]
    simp only [insF] at ih2 ⊢
    by_cases c1 : lt x b = true
    · rw [if_pos c1] at ih2 ⊢
      rw [smg]
      by_cases c2 : lt b a = true
      · have c3 : lt x a = true := hN x b a c1 (hA _ _ c2)
        rw [if_pos c2, if_pos c3, insF, if_pos c1, smg, if_pos c2]
      · rw [if_neg c2, insF]
        by_cases c3 : lt x a = true
        · rw [if_pos c3, if_pos c3, smg, if_neg c2]
        · rw [if_neg c3, if_neg c3, ih2]
    · rw [if_neg c1] at ih2 ⊢
      rw [smg]
      by_cases c2 : lt b a = true
      · rw [if_pos c2, if_pos c2, insF, if_neg c1, ih1]
      · rw [if_neg c2, if_neg c2, insF]
        have c3 : lt x a = false := ltT3 lt hN (by simpa using c2) (by simpa using c1)
        rw [if_neg (by simp [c3]), ih2]
termination_by A B => A.length + B.length
theorem isortB_smg (S : List α) : ∀ (B acc acc2 : List α), acc.reverse = smg lt S acc2.reverse → Srt lt acc.reverse → Srt lt acc2.reverse → (isortB lt acc B).reverse = smg lt S (isortB lt acc2 B).reverse
  | [], acc, acc2, h, _, _ => h
  | x :: B, acc, acc2, h, h1, h2 => by
    simp only [isortB]
    refine isortB_smg S B _ _ ?_ ?_ ?_
    · rw [insF_rev lt hN x acc h1, insF_rev lt hN x acc2 h2, h, smg_insF lt hN hA]
    · rw [insF_rev lt hN x acc h1]; exact insF_srt lt hN hA x _ h1
    · rw [insF_rev lt hN x acc2 h2]; exact insF_srt lt hN hA x _ h2
theorem isortB_srt : ∀ (B acc : List α), Srt lt acc.reverse → Srt lt (isortB lt acc B).reverse
  | [], acc, h => h
  | x :: B, acc, h => by
    simp only [isortB]
    exact isortB_srt B _ (by rw [insF_rev lt hN x acc h]; exact insF_srt lt hN hA x _ h)
theorem isort_srt (l : List α) : Srt lt (isort lt l) := isortB_srt lt hN hA l [] (by simp [Srt])
omit hN hA in
theorem isortB_append : ∀ (A B acc : List α), isortB lt acc (A ++ B) = isortB lt (isortB lt acc A) B
  | [], B, acc => rfl
  | x :: A, B, acc => by simp only [List.cons_append, isortB]; exact isortB_append A B _
theorem isort_append (A B : List α) : isort lt (A ++ B) = smg lt (isort lt A) (isort lt B) := by
  unfold isort
  rw [isortB_append]
  exact isortB_smg lt hN hA _ B _ [] (by simp [smg_nil_right]) (isort_srt lt hN hA A) (by simp [Srt])
omit hN hA in
theorem isort_len (l : List α) : (isort lt l).length = l.length := by
  have h9 : ∀ r acc : List α, (isortB lt acc r).length = acc.length + r.length := fun r => by
    induction r with
    | nil => intro acc; simp [isortB]
    | cons x r ih => intro acc; simp only [isortB, ih, insB_len, List.length_cons]; omega
  simp [isort, h9]
theorem stable_list (d : Array α) (h20 : 20 < d.size) (h40 : d.size ≤ 40) : (symM lt 40 (Sort.insertionSort lt (Sort.insertionSort lt d 0 20) 20 d.size) 0 20 d.size).toList = isort lt d.toList := by
  have hl : d.toList.length = d.size := by simp
  have t0 : (d.toList.take 20).length = 20 := by simp; omega
  have t1 : (d.toList.drop 20).length = d.size - 20 := by simp
  have e0 := ins_pre lt [] (d.toList.take 20) (d.toList.drop 20) d (by simp) (fun e => by rw [e] at t0; simp at t0) 0 20 rfl (by rw [t0])
  have e1 := ins_pre lt (isort lt (d.toList.take 20)) (d.toList.drop 20) [] _ (by simpa using e0) (fun e => by rw [e] at t1; simp at t1; omega) 20 d.size (by rw [isort_len, t0]) (by rw [t1]; omega)
  have e2 := symM_list lt hN hA 40 _ [] (isort lt (d.toList.take 20)) (isort lt (d.toList.drop 20)) [] 0 20 d.size (by simpa using e1) rfl (by rw [isort_len, t0]) (by rw [isort_len, t1]; omega) (by rw [isort_len, t0]; omega) (by rw [isort_len, t1]; omega) (by omega) (isort_srt lt hN hA _) (isort_srt lt hN hA _)
  rw [e2]
  simp only [List.nil_append, List.append_nil]
  rw [← isort_append lt hN hA, List.take_append_drop]
end
end
section
open Go Go.Proofs Go.Shelf Go.RowKit Go.Lib Go.Sort
section
variable {P : Program} {ρ : Ren} {α : Type} [Inhabited α]
theorem SX_of_same {enc : α → Value} {w w1 W : World} {blk off : Nat} {dk : Array α} (h : Same w w1) (k : SX enc w1 blk off dk W) : SX enc w blk off dk W := same_trans (same_mapBlock h blk (putCells enc off dk)) k
theorem stableM (L : LaysGt.n15 P ρ) (L30 : LaysGt.n30 P ρ) (enc : α → Value) (lt : α → α → Bool) (g : Nat) (lb : Array Value) (sf : Nat) (sb : Array Value) (blk off : Nat) (d : Array α) (W : World)
    (eg : ∀ args w, (callFunc g args).run P w = .ok (.enter g args) w) (hless : LessX P g lb enc lt blk off d.size W) (hswap : SwapSwaps P sf sb enc blk off d.size)
    (hH : Holds enc W blk off d) (hblk : blk < W.heap.size) (h2 : 2 ≤ d.size) (h40 : d.size ≤ 40) (hord : 20 < d.size → (∀ x y z, lt x y = true → lt z y = false → lt x z = true) ∧ ∀ x y, lt x y = true → lt y x = false) :
    Calls P (ρ.f 15) #[.agg #[.func (.func g) #[] lb, .func (.func sf) #[] sb], .int .i64 d.size] W fun e w' => e = .returned (.tuple #[]) ∧ ∃ zs : Array α, zs.toList = isort lt d.toList ∧ SX enc W blk off zs w' := by
  by_cases h20 : d.size ≤ 20
  · have hz : (Sort.insertionSort lt d 0 d.size).toList = isort lt d.toList := by
      have := ins_pre lt [] d.toList [] d (by simp) (fun e0 => by have := congrArg List.length e0; simp at this; rw [this] at h2; simp at h2) 0 d.size rfl (by simp)
      simpa using this
    by_cases h : d.size = 20
    · exact (stable_at20 L enc lt g lb sf sb blk off d W eg hless hswap hH hblk h).mono fun e w' ⟨he, hs⟩ => ⟨he, _, hz, hs⟩
    · exact (stable_under20 L enc lt g lb sf sb blk off d W eg hless hswap hH hblk (by omega)).mono fun e w' ⟨he, hs⟩ => ⟨he, _, hz, hs⟩
  · obtain ⟨hN, hA⟩ := hord (by omega)
    by_cases h : d.size = 40
    · exact (stable_40 L L30 enc lt g lb sf sb blk off d W eg hless hswap hH hblk h).mono fun e w' ⟨he, hs⟩ => ⟨he, _, stable_list lt hN hA d (by omega) h40, hs⟩
    · exact (stable_mid L L30 enc lt g lb sf sb blk off d W eg hless hswap hH hblk (by omega) (by omega)).mono fun e w' ⟨he, hs⟩ => ⟨he, _, stable_list lt hN hA d (by omega) h40, hs⟩

/-- a call of the sort at a row of n elements answers as the call behind it does -/
def Via (P : Program) (ρ : Ren) (t e : TypeId) (ie : TypeInfo) (ke n f : Nat) : Prop :=
  ∀ (p : Option Addr) (c : Nat) (lf : Fn) (la lb : Array Value) (w : World) (R : World → Prop),
    Calls P (ρ.f 15) #[.agg #[.func lf la lb, .func (.func f) #[] (sliceBound P e ie ke p n c)], .int .i64 n] (stableWorld P ρ t p n c w) (fun e w' => e = .returned (.tuple #[]) ∧ R w') →
    Calls P (ρ.f 8) #[.iface t (.slice p n c), .func lf la lb] w fun e w' => e = .returned (.tuple #[]) ∧ R w'
theorem tiny_via (L : LaysGt.n8 P ρ) (t e : TypeId) (ie : TypeInfo) (ke n f : Nat) (hn : n ≤ 1) (hf : Via P ρ t e ie ke n f) (p : Option Addr) (c : Nat) (lf : Fn) (la lb : Array Value) (w : World) :
    Calls P (ρ.f 8) #[.iface t (.slice p n c), .func lf la lb] w fun e w' => e = .returned (.tuple #[]) ∧ ∃ os, w' = grow w os := by
  refine hf p c lf la lb w _ ?_
  refine (Any.stable_func_tiny (P := P) (ρ := ρ) { L with } lf la lb f _ n hn _).mono ?_
  rintro e w' ⟨rfl, os, rfl⟩
  exact ⟨rfl, _, by unfold stableWorld; rw [alloc_eq_grow, alloc_eq_grow, grow_grow, grow_grow]⟩

theorem sliceStable_40 (L : LaysGt.n8 P ρ) (t e : TypeId) (i ie : TypeInfo) (hi : P.info? t = some i) (hd : i.desc = .slice e) (hpk : P.packed t = false) (hie : P.info? e = some ie) (ke : Nat) (hke : ∀ w, (Extern.Rtype.kind e).run P w = .ok ke w)
    (hs1 : ie.size = 1) (hagg : ∀ w, (isAgg e).run P w = .ok false w) (enc : α → Value) (h1 : ∀ x, (enc x).oneCell' = true) (lt : α → α → Bool) (g : Nat) (lb : Array Value)
    (eg : ∀ args w, (callFunc g args).run P w = .ok (.enter g args) w) (blk off c : Nat) (d : Array α) (h2 : 2 ≤ d.size) (h40 : d.size ≤ 40) (hord : 20 < d.size → (∀ x y z, lt x y = true → lt z y = false → lt x z = true) ∧ ∀ x y, lt x y = true → lt y x = false)
    (f : Nat) (hf : Via P ρ t e ie ke d.size f)
    (gS : Bool) (hx : ∀ args W, (callFunc f args).run P W = ((Extern.ReflectliteSwapper.swap gS args).run P W).andThen fun v w' => .ok (.value v) w')
    (w : World) (hless : LessX P g lb enc lt blk off d.size w) (hH : Holds enc w blk off d) (hblk : blk < w.heap.size) :
    Calls P (ρ.f 8) #[.iface t (.slice (some ⟨blk, off, none⟩) d.size c), .func (.func g) #[] lb] w fun e w' =>
      e = .returned (.tuple #[]) ∧ ∃ zs : Array α, zs.toList = isort lt d.toList ∧ SX enc w blk off zs w' := by
  refine hf _ c (.func g) #[] lb w _ ?_
  have hB : sliceBound P e ie ke (some ⟨blk, off, none⟩) d.size c = #[.slice (some ⟨blk, off, none⟩) d.size c, typeHandle P e] := by
    unfold sliceBound; rw [if_neg (swapperK_gt _ _ _ h2)]
  have hW : stableWorld P ρ t (some ⟨blk, off, none⟩) d.size c w = grow w #[.cells #[.slice (some ⟨blk, off, none⟩) d.size c] t, .cells #[.pointer (some ⟨P.globals.size, t, none⟩), .pointer (some ⟨w.heap.size, 0, none⟩), .int .u64 151] (ρ.t 36)] := by
    unfold stableWorld; rw [alloc_eq_grow, alloc_eq_grow, grow_grow]; rfl
  generalize (#[.cells #[.slice (some ⟨blk, off, none⟩) d.size c] t, .cells #[.pointer (some ⟨P.globals.size, t, none⟩), .pointer (some ⟨w.heap.size, 0, none⟩), .int .u64 151] (ρ.t 36)] : Array Obj) = os0 at hW
  have hg : Same w (grow w os0) := ⟨rfl, rfl, rfl, by simp [grow], fun b hb _ => Sort.heap_grow_old _ _ hb⟩
  rw [hB, hW]
  have hp := stableM (P := P) (ρ := ρ) { L with } { L with } enc lt g lb f _ blk off d (grow w os0) eg (fun dk W hWd => hless dk W (SX_of_same hg hWd))
    (swapSwaps_of_literal gS f hx e ie hie hs1 hagg enc h1 blk off d.size c) (holds_grow enc w _ blk off d hblk hH) (by rw [size_grow]; omega) h2 h40 hord
  refine hp.mono ?_
  rintro e w' ⟨rfl, zs, hz, hs⟩
  exact ⟨rfl, zs, hz, SX_of_same hg hs⟩
end

/-! What is asked of 'less' beyond one block, and the sort's plain form. -/
def ordB {α : Type} (lt : α → α → Bool) (l : List α) : Bool := l.all fun x => l.all fun y => (!(lt x y) || !(lt y x)) && l.all fun z => !(lt x y) || lt z y || lt x z
def srtS {α : Type} (less : Int → Int → List α → Option Bool) (l : List α) : Option (List α) :=
  bif decide (l.length ≤ 40) && (l.all fun x => l.all fun y => (less 0 1 [x, y]).isSome) && (decide (l.length ≤ 20) || ordB (ltOf less) l) then some (isort (ltOf less) l) else none
/-- what is known of the library's stable sort at a slice of numbers -/
def SortS (P : Program) (f t : Nat) : Prop :=
  (∀ (p : Option Addr) (n c : Nat) (lf : Fn) (la lb : Array Value) (w : World), n ≤ 1 → Calls P f #[.iface t (.slice p n c), .func lf la lb] w fun e w' => e = .returned (.tuple #[]) ∧ ∃ os, w' = Sort.grow w os) ∧
  ∀ (α : Type) [Inhabited α] (enc : α → Value) (lt : α → α → Bool) (g : Nat) (lb : Array Value) (blk off c : Nat) (d : Array α) (w : World), (∀ x, (enc x).oneCell' = true) →
    (∀ args w, (callFunc g args).run P w = .ok (.enter g args) w) → 2 ≤ d.size → d.size ≤ 40 → (20 < d.size → (∀ x y z, lt x y = true → lt z y = false → lt x z = true) ∧ ∀ x y, lt x y = true → lt y x = false) →
    LessX P g lb enc lt blk off d.size w →
    Sort.Holds enc w blk off d → blk < w.heap.size →
    Calls P f #[.iface t (.slice (some ⟨blk, off, none⟩) d.size c), .func (.func g) #[] lb] w fun e w' => e = .returned (.tuple #[]) ∧ ∃ zs : Array α, zs.toList = isort lt d.toList ∧ SX enc w blk off zs w'
theorem sortS_of {P : Program} {ρ : Ren} (L : LaysGt.n8 P ρ) (t e : TypeId) (i ie : TypeInfo) (hi : P.info? t = some i) (hd : i.desc = .slice e) (hpk : P.packed t = false) (hie : P.info? e = some ie) (ke : Nat) (hke : ∀ w, (Extern.Rtype.kind e).run P w = .ok ke w)
    (hs1 : ie.size = 1) (hagg : ∀ w, (isAgg e).run P w = .ok false w) (f : Nat) (hf : ∀ n, 2 ≤ n → n < 4611686018427387904 → Via P ρ t e ie ke n f)
    (f0 f1 : Nat) (hf0 : Via P ρ t e ie ke 0 f0) (hf1 : Via P ρ t e ie ke 1 f1)
    (hx : ∀ args W, (callFunc f args).run P W = ((Extern.ReflectliteSwapper.swap true args).run P W).andThen fun v w' => .ok (.value v) w') : SortS P (ρ.f 8) t := by
  refine ⟨fun p n c lf la lb w hn => ?_, fun α _ enc lt g lb blk off c d w h1 heg h2 h40 hord hless hH hblk => ?_⟩
  · match n, hn with
    | 0, _ => exact tiny_via L t e ie ke 0 f0 (by omega) hf0 p c lf la lb w
    | 1, _ => exact tiny_via L t e ie ke 1 f1 (by omega) hf1 p c lf la lb w
  · exact sliceStable_40 L t e i ie hi hd hpk hie ke hke hs1 hagg enc h1 lt g lb heg blk off c d h2 h40 hord f (hf _ h2 (by omega)) true hx w hless hH hblk

section
variable {P : Program} {Q : Exit → Act → World → Prop} {c : Cx} {n : Nat} {m : List (Nat × Value)} {L L' : List Asn} {ops : Array Oper} {l : List Oper} {v : Value}
theorem insB_map {α β : Type} (f : α → β) (lt : β → β → Bool) (x : α) : ∀ r : List α, (insB (fun a b => lt (f a) (f b)) x r).map f = insB lt (f x) (r.map f)
  | [] => rfl
  | y :: r => by
    simp only [insB, List.map_cons]
    cases lt (f x) (f y)
    · rfl
    · simp [insB_map f lt x r]
theorem isortB_map {α β : Type} (f : α → β) (lt : β → β → Bool) : ∀ (r acc : List α), (isortB (fun a b => lt (f a) (f b)) acc r).map f = isortB lt (acc.map f) (r.map f)
  | [], acc => rfl
  | x :: r, acc => by simp only [isortB, List.map_cons]; rw [isortB_map f lt r, insB_map]
theorem isort_map' {α β : Type} (f : α → β) (lt : β → β → Bool) (l : List α) : (isort (fun a b => lt (f a) (f b)) l).map f = isort lt (l.map f) := by
  unfold isort; rw [List.map_reverse, isortB_map]; rfl

theorem putSame {α : Type} [Inhabited α] {w W : World} {k e g cap : Nat} {xs ys : List Int} {val : α → Int} {dk : Array α} (hw : St c w L) (hk : L[k]? = some (row (.slice (some ⟨g, 0, none⟩) xs.length cap) e fI64 xs)) (hy : dk.toList.map val = ys) (hl : ys.length = xs.length) (hW : SX (fun a => Value.int .i64 (val a)) w g 0 dk W) :
    St c W (L.set k (row (.slice (some ⟨g, 0, none⟩) xs.length cap) e fI64 ys)) := by
  have h1 := hw.reput (dk := dk) (q := 0) (os := #[]) (val := val) hk hy hl
  rw [Sort.grow_empty] at h1
  exact h1.grow hW
theorem Ret.same {g : Nat} {vs : Array Value} {w : World} {b : Bool} (h : Calls P g vs w (Ret (cx w) (.bool b))) : Calls P g vs w fun e w' => e = .returned (.bool b) ∧ Same w w' :=
  h.mono fun e w' ⟨v, L', he, ⟨hv, _⟩, hst⟩ => ⟨by rw [he, hv], hst.chg⟩
theorem sort_callS {f t e g k : Nat} {v : Value} {xs zs : List Int} {lb : List Value} {less : Int → Int → List Int → Option Bool} (hC : SortS P f t) (heg : ∀ args w, (callFunc g args).run P w = .ok (.enter g args) w) (hz : srtS less xs = some zs)
    (hun : ∀ dk i j x y, idx dk i = some x → idx dk j = some y → less i j dk = less 0 1 [x, y]) (hk : L[k]? = some (row v e fI64 xs))
    (hless : ∀ w dk, St c w (L.set k (row v e fI64 dk)) → ∀ i j b, less i j dk = some b → Calls P g (.int .i64 i :: .int .i64 j :: lb).toArray w fun e w' => e = .returned (.bool b) ∧ Same w w') :
    ∀ w, St c w L → Calls P f #[.iface t v, .func (.func g) #[] lb.toArray] w fun e' w' => e' = .returned (.tuple #[]) ∧ St c w' (L.set k (row v e fI64 zs)) := fun w hw => by
  unfold srtS at hz
  cases hb : decide (xs.length ≤ 40) && (xs.all fun x => xs.all fun y => (less 0 1 [x, y]).isSome) && (decide (xs.length ≤ 20) || ordB (ltOf less) xs) with
  | false => rw [hb] at hz; cases hz
  | true =>
    rw [hb] at hz
    obtain rfl := Option.some.inj hz
    rw [Bool.and_eq_true, Bool.and_eq_true] at hb
    obtain ⟨⟨h40, hall⟩, hord⟩ := hb
    have h40 := of_decide_eq_true h40
    obtain ⟨S, hA, _⟩ := hw.at hk
    obtain ⟨a, cap, hv⟩ := row_lt hA
    by_cases h2 : xs.length ≤ 1
    · subst hv
      refine (hC.1 a xs.length cap (.func g) #[] lb.toArray w h2).mono fun e' w' ⟨he, os, hw'⟩ => ⟨he, ?_⟩
      have hzs : isort (ltOf less) xs = xs := by
        match xs, h2 with
        | [], _ => rfl
        | [x], _ => rfl
      have hL : L.set k (row (.slice a xs.length cap) e fI64 xs) = L := by
        refine List.ext_getElem? fun i => ?_
        rw [List.getElem?_set]
        by_cases hik : k = i
        · subst hik; rw [if_pos rfl, if_pos (lt_of_some hk), hk]
        · simp [hik]
      rw [hzs, hL, hw']
      exact hw.grow ⟨rfl, rfl, rfl, by simp, fun b hb _ => Sort.heap_grow_old _ _ hb⟩
    · have h2 : 2 ≤ xs.length := by omega
      have h0 : xs ≠ [] := fun h => by subst h; simp at h2
      have hx0 : xs[0]? = some (xs.head h0) := by cases xs with
        | nil => simp at h0
        | cons x r => rfl
      obtain ⟨g0, cap', cur, hv', hg, hS, _, _, hcs, _, _⟩ := row_at hA hx0
      rw [hv] at hv'
      injection hv' with e1 _ e3
      subst e1 hv
      letI : Inhabited { x // x ∈ xs } := ⟨⟨xs.head h0, List.head_mem h0⟩⟩
      have hgl : g0 < w.heap.size := (Array.getElem?_eq_some_iff.1 hg).1
      have hds : xs.attach.toArray.size = xs.length := by simp
      have hH : Sort.Holds (fun a : { x // x ∈ xs } => Value.int .i64 a.1) w g0 0 xs.attach.toArray := fun j hj => by
        rw [hds] at hj
        have hj2 : xs[j]? = some xs[j] := List.getElem?_eq_getElem hj
        obtain ⟨g1, cap1, cur1, hv1, hg1, _, _, _, _, _, hcell⟩ := row_at hA hj2
        injection hv1 with e4 _ _
        injection e4 with e4
        injection e4 with e4
        subst e4
        refine ⟨?_, ?_⟩
        · rw [cell_of_row w g0 _ cur1 e _ hg1]
          have h3 := hcell 0 (.int .i64 xs[j]) rfl
          have hR : fI64.size = 1 := rfl
          rw [hR, Nat.mul_one, Nat.add_zero] at h3
          rw [Nat.zero_add, h3]
          have h4 : xs.attach.toArray[j]! = ⟨xs[j], List.getElem_mem hj⟩ := by
            rw [getElem!_pos _ _ (by simpa using hj)]; simp
          rw [h4]
        · simp [World.frozen?, hg1]
      have ord : 20 < xs.attach.toArray.size → (∀ x y z : { x // x ∈ xs }, ltOf less x.1 y.1 = true → ltOf less z.1 y.1 = false → ltOf less x.1 z.1 = true) ∧ ∀ x y : { x // x ∈ xs }, ltOf less x.1 y.1 = true → ltOf less y.1 x.1 = false := fun h20 => by
        rw [hds] at h20
        have hno : decide (xs.length ≤ 20) = false := by simp; omega
        rw [hno, Bool.false_or] at hord
        unfold ordB at hord
        have key : ∀ x y : { x // x ∈ xs }, _ := fun x y => List.all_eq_true.1 (List.all_eq_true.1 hord _ x.2) _ y.2
        refine ⟨fun x y z h3 h4 => ?_, fun x y h3 => ?_⟩
        · have h5 := (Bool.and_eq_true _ _ |>.mp (key x y)).2
          have h6 := List.all_eq_true.1 h5 _ z.2
          rw [h3, h4] at h6
          simpa using h6
        · have h5 := (Bool.and_eq_true _ _ |>.mp (key x y)).1
          rw [h3] at h5
          simpa using h5
      have key := hC.2 { x // x ∈ xs } (fun a => Value.int .i64 a.1) (fun a b => ltOf less a.1 b.1) g lb.toArray g0 0 cap xs.attach.toArray w (fun _ => rfl) heg (by rw [hds]; exact h2) (by rw [hds]; exact h40) ord
        (fun dk W hW hdk i j hi hj => by
          rw [hds] at hdk hi hj
          have hst := putSame (hw := hw) (val := fun a : { x // x ∈ xs } => a.1) hk rfl (by simp [hdk]) hW
          have hxi : idx (dk.toList.map fun a => a.1) (i : Int) = some dk[i]!.1 := idx_some (by
            rw [List.getElem?_map, Array.getElem?_toList, Array.getElem?_eq_getElem (by omega), getElem!_pos _ _ (by omega)]; rfl)
          have hxj : idx (dk.toList.map fun a => a.1) (j : Int) = some dk[j]!.1 := idx_some (by
            rw [List.getElem?_map, Array.getElem?_toList, Array.getElem?_eq_getElem (by omega), getElem!_pos _ _ (by omega)]; rfl)
          have hs := hun _ _ _ _ _ hxi hxj
          have hsome : (less 0 1 [dk[i]!.1, dk[j]!.1]).isSome = true := by
            have := List.all_eq_true.1 hall _ dk[i]!.2
            exact List.all_eq_true.1 this _ dk[j]!.2
          obtain ⟨b, hb⟩ := Option.isSome_iff_exists.1 hsome
          rw [hb] at hs
          have h6 := hless _ _ hst i j b hs
          have h7 : (fun a b : { x // x ∈ xs } => ltOf less a.1 b.1) dk[i]! dk[j]! = b := by show ltOf less dk[i]!.1 dk[j]!.1 = b; unfold ltOf; rw [hb]; rfl
          have h8 : (#[Value.int .i64 (i : Int), Value.int .i64 (j : Int)] ++ lb.toArray) = (Value.int .i64 (i : Int) :: Value.int .i64 (j : Int) :: lb).toArray := by simp
          rw [h8, h7]
          exact h6) hH hgl
      rw [hds] at key
      refine key.mono fun e' w' ⟨he, zs, hzl, hw'⟩ => ⟨he, ?_⟩
      have hm : zs.toList.map (fun a : { x // x ∈ xs } => a.1) = isort (ltOf less) xs := by
        rw [hzl, isort_map' (fun a : { x // x ∈ xs } => a.1) (ltOf less)]; simp
      refine putSame (hw := hw) (val := fun a : { x // x ∈ xs } => a.1) hk hm ?_ hw'
      have h9 : ∀ r acc : List Int, (isortB (ltOf less) acc r).length = acc.length + r.length := fun r => by
        induction r with
        | nil => intro acc; simp [isortB]
        | cons x r ih =>
          intro acc
          have hl : ∀ a : List Int, (insB (ltOf less) x a).length = a.length + 1 := fun a => by
            induction a with
            | nil => rfl
            | cons y a ih => simp only [insB]; cases ltOf less x y <;> simp [ih]
          simp only [isortB, ih, hl, List.length_cons]; omega
      simp [isort, h9]

theorem SJ.sortS {d t e g k f : Nat} {ty : TypeId} {ps : String} {af : Array Edge} {os : List Operand} {ts : Array TypeId} {xs zs : List Int} {lb : List Value} {less : Int → Int → List Int → Option Bool} (hC : SortS P f t) (hf : ∀ (vs : Array Value) w, (callFunc f vs).run P w = .ok (.enter f vs) w) (heg : ∀ args w, (callFunc g args).run P w = .ok (.enter g args) w) (hz : srtS less xs = some zs)
    (hun : ∀ dk i j x y, idx dk i = some x → idx dk j = some y → less i j dk = less 0 1 [x, y]) (hk : L[k]? = some (row v e fI64 xs)) (hx : evs m os = some [.iface t v, .func (.func g) #[] lb.toArray])
    (hless : ∀ w dk, St c w (L.set k (row v e fI64 dk)) → ∀ i j b, less i j dk = some b → Calls P g (.int .i64 i :: .int .i64 j :: lb).toArray w fun e w' => e = .returned (.bool b) ∧ Same w w') (hd : Nat.blt d n = true)
    (h : SJ P ops Q c n l ((d, .tuple #[]) :: m) (L.set k (row v e fI64 zs))) :
    SJ P ops Q c n (⟨some d, .call { callee := .value (.func f), args := os.toArray, argTypes := ts }, ty, ps, af, none⟩ :: l) m L := fun a w ha hw => by
  have h1 := ha.evs hx
  have h2 : (execOp a.eval ⟨some d, .call { callee := .value (.func f), args := os.toArray, argTypes := ts }, ty, ps, af, none⟩).run P w = .ok (.enter f #[.iface t v, .func (.func g) #[] lb.toArray]) w := by
    simp [execOp, resolve, Act.eval, Deferred.ofValue, invoke, ← h1, hf]
  unfold wpList
  simp only [Region.wanted, if_true]
  refine .inl ?_
  unfold Oper.wp
  rw [h2]
  exact (sort_callS hC heg hz hun hk hless w hw).mono fun e' w' ⟨he, hst⟩ => by
    subst he
    exact h _ _ (ha.put hd _) hst
end
end
end Go.Proofs.YtikkolkickclhaaDoor
