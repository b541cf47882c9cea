/- api.In: its cells, in memory, made, boxed, filled, loaded, compared. -/
import Derived.Test.YtbbfnpfkbbpjgaaKTDig8
namespace Go.Proofs.Ytbbfnpfkbbpjgaa
open Go.RowKit Go.Lib
set_option linter.unusedVariables false
set_option linter.unusedSimpArgs false

def inCs (x : InT) : List Value := bvs x.tx ++ ([.int .u64 x.index])
def inV (x : InT) : Value := .agg (inCs x).toArray
theorem inCs_length {x : InT} (h : x.Ok) : (inCs x).length = 33 := by
  have q0 : x.tx.length = 32 := h.1
  unfold inCs; simp [bvs_length, q0]
theorem inCs_one (x : InT) : ∀ v ∈ inCs x, v.oneCell' = true := by
  intro v hv
  unfold inCs at hv
  simp only [List.mem_cons, List.mem_append, List.not_mem_nil, or_false] at hv
  rcases hv with hv | rfl
  · exact List.all_eq_true.1 (bvs_one x.tx) v hv
  · rfl
structure InAt (w : World) (g : Nat) (x : InT) : Prop where
  ok : x.Ok
  arr : Arr w g 60 (inCs x)
section
variable {w w' : World} {g bb kk : Nat} {x : InT}
theorem InAt.lt (h : InAt w g x) : g < w.heap.size := Arr.lt h.arr
theorem InAt.later (h : InAt w g x) (hb : Below w.heap.size w w') : InAt w' g x := ⟨h.ok, h.arr.later hb⟩
theorem InAt.below {B : Nat} (h : InAt w g x) (hb : Below B w w') (hB : g < B) : InAt w' g x := ⟨h.ok, Arr.below h.arr hb hB⟩
theorem InAt.touch {S : Nat → Prop} (h : InAt w g x) (ht : Touch S w w') (hS : ¬ S g) : InAt w' g x := ⟨h.ok, h.arr.touch ht hS⟩
theorem InAt.tt {g' : Nat} (h : InAt w g x) (ht : Touch (fun y => y = g') w w') (hS : ¬ g = g' := by omega) : InAt w' g x := h.touch ht hS
theorem InAt.cells (h : InAt w g x) : Cells w g 0 (inCs x) := Cells.arr h.arr
theorem inR0 (h : Cells w bb kk (inCs x)) : Cells w bb kk (bvs x.tx ++ ([.int .u64 x.index])) := h
theorem InAt.tx (h : InAt w g x) : Cells w g 0 (bvs x.tx) := Cells.left (inR0 h.cells)
theorem inR1 (h : Cells w bb kk (inCs x)) (ok : x.Ok) : Cells w bb (kk + 32) ([.int .u64 x.index]) := Cells.right (n := 32) (inR0 h) (by rw [bvs_length, show x.tx.length = 32 from ok.1])
theorem InAt.index (h : InAt w g x) : w.cell? ⟨g, 32, none⟩ = some (.int .u64 x.index) := by
  have := (inR1 h.cells h.ok).one
  rwa [Nat.zero_add] at this
end
theorem inSize : (Try.prog.info? 60).map (·.size) = some 33 := by kernel_rfl
theorem inSz {x : InT} (h : x.Ok) : (Try.prog.info? 60).map (·.size) = some (inCs x).length := by rw [inCs_length h]; exact inSize
def in0 : InT := ⟨zero32, 0⟩
theorem in0_ok : in0.Ok := ⟨rfl, by decide⟩
theorem inZero : (Try.prog.info? 60).bind (·.zero) = some (inV in0) := by kernel_rfl
section
variable {ops : Array Oper} {rest : List Oper} {o : Oper} {a : Act} {w w0 : World} {Q : Exit → Act → World → Prop} {K : Act → Prop}
theorem wpl_box_in (hw : Region.wanted o (yielded ops a.tmps) = true) (x : Operand) (ho : o.op = .box 60 x) {d : InT} (hx : a.eval x = inV d) (hr : d.Ok)
    (hk : ∀ w2 g, w.heap.size ≤ g → InAt w2 g d → Below w.heap.size w w2 → wpList Try.prog ops Q rest (a.put o.dst (.pointer (some ⟨g, 0, none⟩))) w2) : wpList Try.prog ops Q (o :: rest) a w :=
  wpl_box hw 60 x ho hx (cs := inCs d) (by simp [inV, Value.cells]) (fun w2 g hg h hb => hk w2 g hg ⟨hr, h⟩ hb)
theorem wpl_mk_in (hw : Region.wanted o (yielded ops a.tmps) = true) (ho : o.op = .alloc 60)
    (hk : ∀ w2 g, w.heap.size ≤ g → InAt w2 g in0 → Below w.heap.size w w2 → wpList Try.prog ops Q rest (a.put o.dst (.pointer (some ⟨g, 0, none⟩))) w2) : wpList Try.prog ops Q (o :: rest) a w :=
  wpl_mk hw 60 ho inZero (cs := inCs in0) (by simp [inV, Value.cells]) (fun w2 g hg h hb => hk w2 g hg ⟨in0_ok, h⟩ hb)
theorem wpl_set_in (hgd : o.guard = none) (x y : Operand) (ho : o.op = .store 60 x y) {g : Nat} {d0 d : InT} (hx : a.eval x = .pointer (some ⟨g, 0, none⟩)) (hy : a.eval y = inV d) (hr : d.Ok) (h : InAt w g d0)
    (hk : ∀ w2, InAt w2 g d → Touch (fun b => b = g) w w2 → wpList Try.prog ops Q rest (a.put o.dst undef) w2) : wpList Try.prog ops Q (o :: rest) a w :=
  wpl_fill hgd 60 x y ho hx hy h.arr (inSz hr) (by rw [inCs_length hr, inCs_length h.ok]) (inCs_one d) (fun w2 ha ht => hk w2 ⟨hr, ha⟩ ht)
theorem wpl_ld_in (hw : Region.wanted o (yielded ops a.tmps) = true) (x : Operand) (ho : o.op = .load 60 x) {b k : Nat} {d : InT} (hx : a.eval x = .pointer (some ⟨b, k, none⟩)) (h : Cells w b k (inCs d)) (hr : d.Ok)
    (hk : wpList Try.prog ops Q rest (a.put o.dst (inV d)) w) : wpList Try.prog ops Q (o :: rest) a w :=
  wpl_load_cells hw 60 x ho hx h _ Try.underlying60 rfl (inSz hr) hk
theorem since_ld_in (x : Operand) (ho : o.op = .load 60 x) {b k : Nat} {d : InT} (hx : a.eval x = .pointer (some ⟨b, k, none⟩)) (h : Cells w0 b k (inCs d)) (hr : d.Ok) (hk : K (a.put o.dst (inV d))) :
    o.quiet Try.prog a (fun w' => ∃ s : Since w0, w' = s.w) K := since_load_cells 60 x ho hx h _ Try.underlying60 rfl (inSz hr) hk
set_option maxRecDepth 100000 in
theorem run_eq_in (x y : InT) (hx : x.Ok) (hy : y.Ok) (w : World) : (Op.equalIn 10000 60 (inV x) (inV y)).run Try.prog w = .ok (sameIn x y) w := by
  unfold inV
  rw [run_equalIn_struct w 9999 60 _ _ (by kernel_rfl) (by kernel_rfl)]
  have bx0 : (bvs x.tx).length = 32 := by rw [bvs_length, hx.1]
  have dx0 : (inCs x).drop 0 = bvs x.tx ++ ([.int .u64 x.index]) := rfl
  have ex0 : ((inCs x).drop 0).take 32 = bvs x.tx := by rw [dx0]; exact take_left bx0
  have dx1 : (inCs x).drop 32 = [.int .u64 x.index] := by
    rw [show 32 = 0 + 32 by rfl, ← List.drop_drop, dx0, drop_left bx0]
  have ex1 := at_of dx1
  have by0 : (bvs y.tx).length = 32 := by rw [bvs_length, hy.1]
  have dy0 : (inCs y).drop 0 = bvs y.tx ++ ([.int .u64 y.index]) := rfl
  have ey0 : ((inCs y).drop 0).take 32 = bvs y.tx := by rw [dy0]; exact take_left by0
  have dy1 : (inCs y).drop 32 = [.int .u64 y.index] := by
    rw [show 32 = 0 + 32 by rfl, ← List.drop_drop, dy0, drop_left by0]
  have ey1 := at_of dy1
  unfold Program.fieldsOf
  rw [Try.underlying60]
  unfold sameIn
  refine field_two (by decide) (part_hash ex0 w) (part_hash ey0 w) (run_two_hash 9997 x.tx y.tx hx.1 hy.1 w) ?_
  exact field_last (by decide) (run_part_plain w plain_u64 ex1) (run_part_plain w plain_u64 ey1) (by rw [run_equalIn_int w 9998 23 .u64 .u64 _ _ Try.underlying23, nat_beq])
theorem quiet_ne_in {C : World → Prop} (p q : Operand) (ho : o.op = .binOp .neq 60 p q 60) {x y : InT} (hx : a.eval p = inV x) (hy : a.eval q = inV y) (kx : x.Ok) (ky : y.Ok) (hk : K (a.put o.dst (.bool (!(sameIn x y))))) : o.quiet Try.prog a C K :=
  quiet_value _ (fun w _ => exec_ne 60 p q ho hx hy (by kernel_rfl) (run_eq_in x y kx ky) w) hk
end
theorem ret_in {fn : Func} {q : Tmp} (hr : fn.results = #[.cell q 60]) (tmps : Array Value) (w : World) {g : Nat} {d : InT} (hp : tmps.getD q undef = .pointer (some ⟨g, 0, none⟩)) (h : InAt w g d) :
    (results fn tmps).run Try.prog w = .ok (inV d) w :=
  results_cell_row hr tmps w g 60 (inCs d).toArray (0, 0) _ hp h.arr Try.underlying60 rfl (by rw [List.size_toArray]; exact inSz h.ok)
end Go.Proofs.Ytbbfnpfkbbpjgaa

/- api.Out: its cells, in memory, made, boxed, filled, loaded, compared. -/
namespace Go.Proofs.Ytbbfnpfkbbpjgaa
open Go.RowKit Go.Lib
set_option linter.unusedVariables false
set_option linter.unusedSimpArgs false

def outCs (x : OutT) : List Value := bvs x.dst ++ (bvs x.stake ++ ([.int .u64 x.amount]))
def outV (x : OutT) : Value := .agg (outCs x).toArray
theorem outCs_length {x : OutT} (h : x.Ok) : (outCs x).length = 65 := by
  have q0 : x.dst.length = 32 := h.1
  have q1 : x.stake.length = 32 := h.2.1
  unfold outCs; simp [bvs_length, q0, q1]
theorem outCs_one (x : OutT) : ∀ v ∈ outCs x, v.oneCell' = true := by
  intro v hv
  unfold outCs at hv
  simp only [List.mem_cons, List.mem_append, List.not_mem_nil, or_false] at hv
  rcases hv with hv | hv | rfl
  · exact List.all_eq_true.1 (bvs_one x.dst) v hv
  · exact List.all_eq_true.1 (bvs_one x.stake) v hv
  · rfl
structure OutAt (w : World) (g : Nat) (x : OutT) : Prop where
  ok : x.Ok
  arr : Arr w g 48 (outCs x)
section
variable {w w' : World} {g bb kk : Nat} {x : OutT}
theorem OutAt.lt (h : OutAt w g x) : g < w.heap.size := Arr.lt h.arr
theorem OutAt.later (h : OutAt w g x) (hb : Below w.heap.size w w') : OutAt w' g x := ⟨h.ok, h.arr.later hb⟩
theorem OutAt.below {B : Nat} (h : OutAt w g x) (hb : Below B w w') (hB : g < B) : OutAt w' g x := ⟨h.ok, Arr.below h.arr hb hB⟩
theorem OutAt.touch {S : Nat → Prop} (h : OutAt w g x) (ht : Touch S w w') (hS : ¬ S g) : OutAt w' g x := ⟨h.ok, h.arr.touch ht hS⟩
theorem OutAt.tt {g' : Nat} (h : OutAt w g x) (ht : Touch (fun y => y = g') w w') (hS : ¬ g = g' := by omega) : OutAt w' g x := h.touch ht hS
theorem OutAt.cells (h : OutAt w g x) : Cells w g 0 (outCs x) := Cells.arr h.arr
theorem outR0 (h : Cells w bb kk (outCs x)) : Cells w bb kk (bvs x.dst ++ (bvs x.stake ++ ([.int .u64 x.amount]))) := h
theorem OutAt.dst (h : OutAt w g x) : Cells w g 0 (bvs x.dst) := Cells.left (outR0 h.cells)
theorem outR1 (h : Cells w bb kk (outCs x)) (ok : x.Ok) : Cells w bb (kk + 32) (bvs x.stake ++ ([.int .u64 x.amount])) := Cells.right (n := 32) (outR0 h) (by rw [bvs_length, show x.dst.length = 32 from ok.1])
theorem OutAt.stake (h : OutAt w g x) : Cells w g 32 (bvs x.stake) := by
  have := outR1 h.cells h.ok
  rw [Nat.zero_add] at this
  exact Cells.left this
theorem outR2 (h : Cells w bb kk (outCs x)) (ok : x.Ok) : Cells w bb (kk + 64) ([.int .u64 x.amount]) := by
  have := Cells.right (n := 32) (outR1 h ok) (by rw [bvs_length, ok.2.1])
  rwa [Nat.add_assoc] at this
theorem OutAt.amount (h : OutAt w g x) : w.cell? ⟨g, 64, none⟩ = some (.int .u64 x.amount) := by
  have := (outR2 h.cells h.ok).one
  rwa [Nat.zero_add] at this
end
theorem outSize : (Try.prog.info? 48).map (·.size) = some 65 := by kernel_rfl
theorem outSz {x : OutT} (h : x.Ok) : (Try.prog.info? 48).map (·.size) = some (outCs x).length := by rw [outCs_length h]; exact outSize
def out0 : OutT := ⟨zero32, zero32, 0⟩
theorem out0_ok : out0.Ok := ⟨rfl, rfl, by decide⟩
theorem outZero : (Try.prog.info? 48).bind (·.zero) = some (outV out0) := by kernel_rfl
section
variable {ops : Array Oper} {rest : List Oper} {o : Oper} {a : Act} {w w0 : World} {Q : Exit → Act → World → Prop} {K : Act → Prop}
theorem wpl_box_out (hw : Region.wanted o (yielded ops a.tmps) = true) (x : Operand) (ho : o.op = .box 48 x) {d : OutT} (hx : a.eval x = outV d) (hr : d.Ok)
    (hk : ∀ w2 g, w.heap.size ≤ g → OutAt w2 g d → Below w.heap.size w w2 → wpList Try.prog ops Q rest (a.put o.dst (.pointer (some ⟨g, 0, none⟩))) w2) : wpList Try.prog ops Q (o :: rest) a w :=
  wpl_box hw 48 x ho hx (cs := outCs d) (by simp [outV, Value.cells]) (fun w2 g hg h hb => hk w2 g hg ⟨hr, h⟩ hb)
theorem wpl_mk_out (hw : Region.wanted o (yielded ops a.tmps) = true) (ho : o.op = .alloc 48)
    (hk : ∀ w2 g, w.heap.size ≤ g → OutAt w2 g out0 → Below w.heap.size w w2 → wpList Try.prog ops Q rest (a.put o.dst (.pointer (some ⟨g, 0, none⟩))) w2) : wpList Try.prog ops Q (o :: rest) a w :=
  wpl_mk hw 48 ho outZero (cs := outCs out0) (by simp [outV, Value.cells]) (fun w2 g hg h hb => hk w2 g hg ⟨out0_ok, h⟩ hb)
theorem wpl_set_out (hgd : o.guard = none) (x y : Operand) (ho : o.op = .store 48 x y) {g : Nat} {d0 d : OutT} (hx : a.eval x = .pointer (some ⟨g, 0, none⟩)) (hy : a.eval y = outV d) (hr : d.Ok) (h : OutAt w g d0)
    (hk : ∀ w2, OutAt w2 g d → Touch (fun b => b = g) w w2 → wpList Try.prog ops Q rest (a.put o.dst undef) w2) : wpList Try.prog ops Q (o :: rest) a w :=
  wpl_fill hgd 48 x y ho hx hy h.arr (outSz hr) (by rw [outCs_length hr, outCs_length h.ok]) (outCs_one d) (fun w2 ha ht => hk w2 ⟨hr, ha⟩ ht)
theorem wpl_ld_out (hw : Region.wanted o (yielded ops a.tmps) = true) (x : Operand) (ho : o.op = .load 48 x) {b k : Nat} {d : OutT} (hx : a.eval x = .pointer (some ⟨b, k, none⟩)) (h : Cells w b k (outCs d)) (hr : d.Ok)
    (hk : wpList Try.prog ops Q rest (a.put o.dst (outV d)) w) : wpList Try.prog ops Q (o :: rest) a w :=
  wpl_load_cells hw 48 x ho hx h _ Try.underlying48 rfl (outSz hr) hk
theorem since_ld_out (x : Operand) (ho : o.op = .load 48 x) {b k : Nat} {d : OutT} (hx : a.eval x = .pointer (some ⟨b, k, none⟩)) (h : Cells w0 b k (outCs d)) (hr : d.Ok) (hk : K (a.put o.dst (outV d))) :
    o.quiet Try.prog a (fun w' => ∃ s : Since w0, w' = s.w) K := since_load_cells 48 x ho hx h _ Try.underlying48 rfl (outSz hr) hk
set_option maxRecDepth 100000 in
theorem run_eq_out (x y : OutT) (hx : x.Ok) (hy : y.Ok) (w : World) : (Op.equalIn 10000 48 (outV x) (outV y)).run Try.prog w = .ok (sameOut x y) w := by
  unfold outV
  rw [run_equalIn_struct w 9999 48 _ _ (by kernel_rfl) (by kernel_rfl)]
  have bx0 : (bvs x.dst).length = 32 := by rw [bvs_length, hx.1]
  have bx1 : (bvs x.stake).length = 32 := by rw [bvs_length, hx.2.1]
  have dx0 : (outCs x).drop 0 = bvs x.dst ++ (bvs x.stake ++ ([.int .u64 x.amount])) := rfl
  have ex0 : ((outCs x).drop 0).take 32 = bvs x.dst := by rw [dx0]; exact take_left bx0
  have dx1 : (outCs x).drop 32 = bvs x.stake ++ ([.int .u64 x.amount]) := by
    rw [show 32 = 0 + 32 by rfl, ← List.drop_drop, dx0, drop_left bx0]
  have ex1 : ((outCs x).drop 32).take 32 = bvs x.stake := by rw [dx1]; exact take_left bx1
  have dx2 : (outCs x).drop 64 = [.int .u64 x.amount] := by
    rw [show 64 = 32 + 32 by rfl, ← List.drop_drop, dx1, drop_left bx1]
  have ex2 := at_of dx2
  have by0 : (bvs y.dst).length = 32 := by rw [bvs_length, hy.1]
  have by1 : (bvs y.stake).length = 32 := by rw [bvs_length, hy.2.1]
  have dy0 : (outCs y).drop 0 = bvs y.dst ++ (bvs y.stake ++ ([.int .u64 y.amount])) := rfl
  have ey0 : ((outCs y).drop 0).take 32 = bvs y.dst := by rw [dy0]; exact take_left by0
  have dy1 : (outCs y).drop 32 = bvs y.stake ++ ([.int .u64 y.amount]) := by
    rw [show 32 = 0 + 32 by rfl, ← List.drop_drop, dy0, drop_left by0]
  have ey1 : ((outCs y).drop 32).take 32 = bvs y.stake := by rw [dy1]; exact take_left by1
  have dy2 : (outCs y).drop 64 = [.int .u64 y.amount] := by
    rw [show 64 = 32 + 32 by rfl, ← List.drop_drop, dy1, drop_left by1]
  have ey2 := at_of dy2
  unfold Program.fieldsOf
  rw [Try.underlying48]
  unfold sameOut
  refine field_two (by decide) (part_hash ex0 w) (part_hash ey0 w) (run_two_hash 9997 x.dst y.dst hx.1 hy.1 w) ?_
  refine field_two (by decide) (part_hash ex1 w) (part_hash ey1 w) (run_two_hash 9997 x.stake y.stake hx.2.1 hy.2.1 w) ?_
  exact field_last (by decide) (run_part_plain w plain_u64 ex2) (run_part_plain w plain_u64 ey2) (by rw [run_equalIn_int w 9998 23 .u64 .u64 _ _ Try.underlying23, nat_beq])
theorem quiet_ne_out {C : World → Prop} (p q : Operand) (ho : o.op = .binOp .neq 48 p q 48) {x y : OutT} (hx : a.eval p = outV x) (hy : a.eval q = outV y) (kx : x.Ok) (ky : y.Ok) (hk : K (a.put o.dst (.bool (!(sameOut x y))))) : o.quiet Try.prog a C K :=
  quiet_value _ (fun w _ => exec_ne 48 p q ho hx hy (by kernel_rfl) (run_eq_out x y kx ky) w) hk
end
theorem ret_out {fn : Func} {q : Tmp} (hr : fn.results = #[.cell q 48]) (tmps : Array Value) (w : World) {g : Nat} {d : OutT} (hp : tmps.getD q undef = .pointer (some ⟨g, 0, none⟩)) (h : OutAt w g d) :
    (results fn tmps).run Try.prog w = .ok (outV d) w :=
  results_cell_row hr tmps w g 48 (outCs d).toArray (0, 0) _ hp h.arr Try.underlying48 rfl (by rw [List.size_toArray]; exact outSz h.ok)
end Go.Proofs.Ytbbfnpfkbbpjgaa
