/- The reference's arithmetic in digits of 32 bits (mintageref02): of, by, wide as contracts. -/
import Derived.Test.YtbbfnpfkbbpjgaaOBMBase
import Derived.Test.YtbbfnpfkbbpjgaaOBSlEl
import Derived.Test.YtbbfnpfkbbpjgaaOBMCells
namespace Go.Proofs.Ytbbfnpfkbbpjgaa
open Go.RowKit Go.Lib

/-- mintageref02.of -/
theorem of02_any (hi lo : Int) (w : World) (h1 : Word hi) (h2 : Word lo) :
    Calls Try.prog 194 #[.agg #[.int .u64 hi, .int .u64 lo]] w fun e w' => ∃ v, e = .returned v ∧
      Digs w' w.heap.size v [lo % 4294967296, lo / 4294967296, hi % 4294967296, hi / 4294967296] ∧ Below w.heap.size w w' := by
  obtain ⟨a0, a1⟩ := h1; obtain ⟨b0, b1⟩ := h2
  go_enter Try.func194, Try.ntmps194
  go_wp2_with fail
  go_ret
  refine ⟨_, rfl, ?_, below2 _ _ _⟩
  have := World.ownsRow_lit (w := w.alloc (Obj.cells #[.int .u64 hi, .int .u64 lo] 223)) (base := w.heap.size) (e := 23) (size := 1) #[.int .u64 (lo % 4294967296), .int .u64 (lo / 4294967296), .int .u64 (hi % 4294967296), .int .u64 (hi / 4294967296)] 4 (by simp) (by unfold maxLen; omega) rfl
  unfold Digs
  simpa using this

/-! ### by -/
/-! ### wide -/
set_option maxRecDepth 100000 in
set_option maxHeartbeats 1000000 in
/-- mintageref02.wide, where the digits from the fourth on are noughts. -/
theorem wide_any (g cap : Nat) (d0 d1 d2 d3 : Int) (k : Nat) (w : World) (hk : k ≤ 60) (hd : Digs w 0 (.slice (some ⟨g, 0, none⟩) (k + 4) cap) (d0 :: d1 :: d2 :: d3 :: List.replicate k 0))
    (a0 : 0 ≤ d0 ∧ d0 < 4294967296) (a1 : 0 ≤ d1 ∧ d1 < 4294967296) (a2 : 0 ≤ d2 ∧ d2 < 4294967296) (a3 : 0 ≤ d3 ∧ d3 < 4294967296) :
    Calls Try.prog 195 #[.slice (some ⟨g, 0, none⟩) (k + 4) cap] w fun e w' => e = .returned (.tuple #[.agg #[.int .u64 (d3 * 4294967296 + d2), .int .u64 (d1 * 4294967296 + d0)], .bool true]) ∧ Below w.heap.size w w' := by
  unfold Digs at hd
  have hl : (d0 :: d1 :: d2 :: d3 :: List.replicate k 0).length = k + 4 := by simp
  rw [hl] at hd
  have c0 : w.cell? ⟨g, 0, none⟩ = some (.int .u64 d0) := digs_cell hd 0 (by omega) hl
  have c1 : w.cell? ⟨g, 1, none⟩ = some (.int .u64 d1) := digs_cell hd 1 (by omega) hl
  have c2 : w.cell? ⟨g, 2, none⟩ = some (.int .u64 d2) := digs_cell hd 2 (by omega) hl
  have c3 : w.cell? ⟨g, 3, none⟩ = some (.int .u64 d3) := digs_cell hd 3 (by omega) hl
  have hz := hide (show ∀ j, 4 ≤ j → j < k + 4 → w.cell? ⟨g, j, none⟩ = some (.int .u64 0) from fun j h1 h2 => by
    rw [digs_cell hd j h2 hl]
    obtain ⟨i, rfl⟩ : ∃ i, j = i + 4 := ⟨j - 4, by omega⟩
    simp [List.getD, show i < k by omega])
  have hgl := World.block_lt_of_cell? w _ c0
  dsimp only at hgl
  clear hd hl
  obtain ⟨x0, y0⟩ := a0; obtain ⟨x1, y1⟩ := a1; obtain ⟨x2, y2⟩ := a2; obtain ⟨x3, y3⟩ := a3
  go_enter Try.func195, Try.ntmps195
  go_wp2_with fail
  go_loop [4] (fun i => ∃ j : Nat, 4 ≤ j ∧ j ≤ k + 4 ∧ i = .int .i64 j) (fun i => k + 4 - (RowKit.intOf i).toNat)
  case atStart => exact ⟨4, by omega, by omega, rfl⟩
  case round =>
    obtain ⟨j, hj, hj2, rfl⟩ := hrel
    by_cases hlt : j < k + 4
    · have hc : (w.alloc (Obj.cells #[.int .u64 0, .int .u64 0] 223)).cell? ⟨g, j, none⟩ = some (.int .u64 0) := by
        rw [World.cell?_alloc_past _ _ _ hgl]; exact hz.out j hj hlt
      go_wp2_with fail
      go_round
      case rel => exact ⟨j + 1, by omega, by omega, by go_num⟩
      case measure => simp [RowKit.intOf]; omega
    · go_wp2_with fail
      have f0 := Since.cell (w0 := w.alloc (Obj.cells #[.int .u64 0, .int .u64 0] 223)) (by rw [World.cell?_alloc_past _ _ _ hgl]; exact c0)
      have f1 := Since.cell (w0 := w.alloc (Obj.cells #[.int .u64 0, .int .u64 0] 223)) (by rw [World.cell?_alloc_past _ _ _ hgl]; exact c1)
      have f2 := Since.cell (w0 := w.alloc (Obj.cells #[.int .u64 0, .int .u64 0] 223)) (by rw [World.cell?_alloc_past _ _ _ hgl]; exact c2)
      have f3 := Since.cell (w0 := w.alloc (Obj.cells #[.int .u64 0, .int .u64 0] 223)) (by rw [World.cell?_alloc_past _ _ _ hgl]; exact c3)
      have i0 : (0 : Int) < (k : Int) + 4 := by omega
      have i1 : (1 : Int) < (k : Int) + 4 := by omega
      have i2 : (2 : Int) < (k : Int) + 4 := by omega
      have i3 : (3 : Int) < (k : Int) + 4 := by omega
      refine region_since_tail 17 (by kernel_rfl) (by kernel_rfl) ?_
      simp only [List.take_succ_cons, List.take_zero]
      repeat (first | go_big_quiet_skip | (go_big_quiet_want; go_big_quiet_op; go_big_quiet_on))
      refine wpQuiet_nil ?_
      intro w' hw'
      simp only [List.drop_succ_cons, List.drop_zero]
      clear f0 f1 f2 f3 c0 c1 c2 c3
      have hbc := bcell hw'; obtain ⟨hc, hf⟩ := hbc
      go_wp2_with fail
      simp [bodyPost, results, Try.results195, go_sem, hc]
      exact (((Below.refl w.heap.size w).alloc (Nat.le_refl _) _).trans (hw'.mono (by simp)) |>.setCell (Nat.le_refl _) _).setCell (Nat.le_refl _) _
end Go.Proofs.Ytbbfnpfkbbpjgaa

/- The reference of layer 3: times, less. -/
namespace Go.Proofs.Ytbbfnpfkbbpjgaa
open Go.RowKit Go.Lib
set_option linter.unusedVariables false
set_option linter.unusedSimpArgs false

def numC (n : Nat) : List Value := [.int .u64 n]
def numsC (l : List Nat) : List (List Value) := l.map numC
theorem numElem : ElemOf Try.prog 111 23 1 8 := elOf Try.underlying111 (by decide) (by kernel_rfl)
theorem numC_one (n : Nat) : ∀ v ∈ numC n, v.oneCell' = true := by intro v hv; simp [numC] at hv; subst hv; rfl
theorem Cells.num {w : World} {b k i n : Nat} (h : Cells w b (k + i * 1) (numC n)) : w.cell? ⟨b, k + i, none⟩ = some (.int .u64 n) := by
  have := Cells.one h
  rwa [Nat.mul_one] at this
end Go.Proofs.Ytbbfnpfkbbpjgaa

/- mintageref02.Plus, where the sum is a number. -/
namespace Go.Proofs.Ytbbfnpfkbbpjgaa
open Go.RowKit Go.Lib
set_option linter.unusedVariables false
set_option linter.unusedSimpArgs false

theorem digElem : ElemOf Try.prog 234 23 1 8 := elOf Try.underlying234 (by decide) (by kernel_rfl)
/-- The digits of a number. -/
def dig4 (h l : Nat) : List Nat := [l % 4294967296, l / 4294967296, h % 4294967296, h / 4294967296]
theorem numsC_flat (l : List Nat) : (numsC l).flatten = (l.map fun n : Nat => (n : Int)).map (Value.int .u64) := by
  induction l with
  | nil => rfl
  | cons x r ih =>
    have e : numsC (x :: r) = numC x :: numsC r := rfl
    rw [e, List.flatten_cons, ih]
    rfl
theorem numsC_els (l : List Nat) : Els 1 (numsC l) := by
  intro x hx
  obtain ⟨n, _, rfl⟩ := List.mem_map.1 hx
  exact ⟨rfl, numC_one n⟩
theorem digs_own {w : World} {B : Nat} {v : Value} {l : List Nat} (h : Digs w B v (l.map fun n : Nat => (n : Int))) : OwnR w B 23 1 v (numsC l) [] := by
  refine ⟨?_, numsC_els l, by simp⟩
  unfold Digs at h
  rw [List.length_map] at h
  rw [numsC_flat, show (numsC l).length = l.length from List.length_map ..]
  exact h
theorem own_digs {w : World} {B : Nat} {v : Value} {l : List Nat} (h : OwnR w B 23 1 v (numsC l) []) : Digs w B v (l.map fun n : Nat => (n : Int)) := by
  have h1 := h.1
  rw [numsC_flat, show (numsC l).length = l.length from List.length_map ..] at h1
  unfold Digs
  rw [List.length_map]
  exact h1
theorem halves (a b : Nat) : (a / 4294967296 + b / 4294967296) * 4294967296 + (a % 4294967296 + b % 4294967296) = a + b := by omega
theorem high_fin {x3 o3 x2 o2 r T : Nat} (h : o3 * 4294967296 + r = x2 + o2) (e : x3 * 4294967296 + x2 = T) : (x3 + o3) * 4294967296 + r = T + o2 := by rw [Nat.add_mul, Nat.add_assoc, h, ← Nat.add_assoc, e]
theorem low_div {x0 x1 o1 S : Nat} (h : o1 = x0 / 4294967296) (e : x1 * 4294967296 + x0 = S) : x0 % 4294967296 = S % 4294967296 ∧ x1 + o1 = S / 4294967296 := by omega
theorem high_lt {x3 o3 x2 o2 T : Nat} (h : o3 = (x2 + o2) / 4294967296) (e : x3 * 4294967296 + x2 = T) (hf : T + o2 < 18446744073709551616) : x3 + o3 < 4294967296 := by omega
set_option maxRecDepth 100000 in
/-- What comes of two numbers' digits. -/
theorem plus_digits (ah al bh bl : Nat) (h1 : U64 ah) (h2 : U64 al) (h3 : U64 bh) (h4 : U64 bl) (hf : ah + bh + (al + bl) / 18446744073709551616 < 18446744073709551616) :
    ∃ d0 d1 d2 d3 : Nat, d0 < 4294967296 ∧ d1 < 4294967296 ∧ d2 < 4294967296 ∧ d3 < 4294967296 ∧
      carryL (([al % 4294967296 + bl % 4294967296, al / 4294967296 + bl / 4294967296, ah % 4294967296 + bh % 4294967296, ah / 4294967296 + bh / 4294967296] : List Nat).map fun n : Nat => (n : Int)) 0 = ([d0, d1, d2, d3, 0] : List Nat).map (fun n : Nat => (n : Int)) ∧
      d1 * 4294967296 + d0 = (al + bl) % 18446744073709551616 ∧ d3 * 4294967296 + d2 = ah + bh + (al + bl) / 18446744073709551616 := by
  unfold U64 at h1 h2 h3 h4
  obtain ⟨x0, hx0⟩ : ∃ x, x = al % 4294967296 + bl % 4294967296 := ⟨_, rfl⟩
  obtain ⟨x1, hx1⟩ : ∃ x, x = al / 4294967296 + bl / 4294967296 := ⟨_, rfl⟩
  obtain ⟨x2, hx2⟩ : ∃ x, x = ah % 4294967296 + bh % 4294967296 := ⟨_, rfl⟩
  obtain ⟨x3, hx3⟩ : ∃ x, x = ah / 4294967296 + bh / 4294967296 := ⟨_, rfl⟩
  obtain ⟨o1, ho1⟩ : ∃ o, o = x0 / 4294967296 := ⟨_, rfl⟩
  obtain ⟨o2, ho2⟩ : ∃ o, o = (x1 + o1) / 4294967296 := ⟨_, rfl⟩
  obtain ⟨o3, ho3⟩ : ∃ o, o = (x2 + o2) / 4294967296 := ⟨_, rfl⟩
  have e0 : x1 * 4294967296 + x0 = al + bl := by rw [hx1, hx0]; exact halves al bl
  have e1 : x3 * 4294967296 + x2 = ah + bh := by rw [hx3, hx2]; exact halves ah bh
  obtain ⟨f0, f1⟩ := low_div ho1 e0
  have e2 : o2 = (al + bl) / 18446744073709551616 := by rw [ho2, f1, Nat.div_div_eq_div_mul]
  rw [← e2] at hf ⊢
  have e3 : x3 + o3 < 4294967296 := high_lt ho3 e1 hf
  refine ⟨x0 % 4294967296, (x1 + o1) % 4294967296, (x2 + o2) % 4294967296, (x3 + o3) % 4294967296, Nat.mod_lt _ (by decide), Nat.mod_lt _ (by decide), Nat.mod_lt _ (by decide), Nat.mod_lt _ (by decide), ?_, ?_, ?_⟩
  case refine_2 =>
    rw [show (18446744073709551616 : Nat) = 4294967296 * 4294967296 from rfl, Nat.mod_mul, ← f1, ← f0, Nat.mul_comm, Nat.add_comm]
  case refine_3 =>
    rw [Nat.mod_eq_of_lt e3]
    exact high_fin (by rw [ho3]; exact Nat.div_add_mod' _ _) e1
  rw [← hx0, ← hx1, ← hx2, ← hx3]
  simp only [List.map_cons, List.map_nil, carryL, List.cons.injEq, and_true]
  clear f0 f1 e2 e0 e1 hf hx0 hx1 hx2 hx3 h1 h2 h3 h4
  refine ⟨by omega, by omega, by omega, by omega, by omega⟩
end Go.Proofs.Ytbbfnpfkbbpjgaa
