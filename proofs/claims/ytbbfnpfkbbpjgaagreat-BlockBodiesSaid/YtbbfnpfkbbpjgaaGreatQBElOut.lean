/- api.Out: its cells, in memory, made, boxed, filled, loaded, compared. -/
import Derived.Test.YtbbfnpfkbbpjgaaGreatQBHdEq
namespace Go.Proofs.YtbbfnpfkbbpjgaaGreat
open Go.RowKit Go.Lib
set_option linter.unusedVariables false
set_option linter.unusedSimpArgs false
set_option maxRecDepth 100000
set_option maxHeartbeats 4000000
def outCs (x : OutT) : List Value := bvs x.dst ++ (bvs x.stake ++ ([.int .u64 x.amount]))
def outV (x : OutT) : Value := .agg (outCs x).toArray
theorem q6l {x : OutT} (h : x.Ok) : (outCs x).length = 65 := by
  have q0 : x.dst.length = 32 := h.1
  have q1 : x.stake.length = 32 := h.2.1
  unfold outCs; simp [q0e, q0, q1]
theorem j7c (x : OutT) : ∀ v ∈ outCs x, v.oneCell' = true := by
  intro v hv
  unfold outCs at hv
  simp only [List.mem_cons, List.mem_append, List.not_mem_nil, or_false] at hv
  rcases hv with hv | hv | rfl
  · exact List.all_eq_true.1 (q1v x.dst) v hv
  · exact List.all_eq_true.1 (q1v x.stake) v hv
  · rfl
structure OutAt (w : World) (g : Nat) (x : OutT) : Prop where
  ok : x.Ok
  arr : Arr w g 84 (outCs x)
section
variable {w w' : World} {g bb kk : Nat} {x : OutT}
theorem OutAt.lt (h : OutAt w g x) : g < w.heap.size := Arr.lt h.arr
theorem OutAt.later (h : OutAt w g x) (hb : Below w.heap.size w w') : OutAt w' g x := ⟨h.ok, h.arr.later hb⟩
theorem OutAt.below {B : Nat} (h : OutAt w g x) (hb : Below B w w') (hB : g < B) : OutAt w' g x := ⟨h.ok, Arr.below h.arr hb hB⟩
theorem OutAt.touch {S : Nat → Prop} (h : OutAt w g x) (ht : Touch S w w') (hS : ¬ S g) : OutAt w' g x := ⟨h.ok, h.arr.touch ht hS⟩
theorem OutAt.tt {g' : Nat} (h : OutAt w g x) (ht : Touch (fun y => y = g') w w') (hS : ¬ g = g' := by omega) : OutAt w' g x := h.touch ht hS
theorem OutAt.cells (h : OutAt w g x) : Cells w g 0 (outCs x) := Cells.arr h.arr
theorem outR0 (h : Cells w bb kk (outCs x)) : Cells w bb kk (bvs x.dst ++ (bvs x.stake ++ ([.int .u64 x.amount]))) := h
theorem OutAt.dst (h : OutAt w g x) : Cells w g 0 (bvs x.dst) := Cells.left (outR0 h.cells)
theorem outR1 (h : Cells w bb kk (outCs x)) (ok : x.Ok) : Cells w bb (kk + 32) (bvs x.stake ++ ([.int .u64 x.amount])) := Cells.right (n := 32) (outR0 h) (by rw [q0e, show x.dst.length = 32 from ok.1])
theorem OutAt.stake (h : OutAt w g x) : Cells w g 32 (bvs x.stake) := by
  have := outR1 h.cells h.ok
  rw [Nat.zero_add] at this
  exact Cells.left this
theorem outR2 (h : Cells w bb kk (outCs x)) (ok : x.Ok) : Cells w bb (kk + 64) ([.int .u64 x.amount]) := by
  have := Cells.right (n := 32) (outR1 h ok) (by rw [q0e, ok.2.1])
  rwa [Nat.add_assoc] at this
theorem OutAt.amount (h : OutAt w g x) : w.cell? ⟨g, 64, none⟩ = some (.int .u64 x.amount) := by
  have := (outR2 h.cells h.ok).one
  rwa [Nat.zero_add] at this
end
theorem outSize : (Tryz.prog.info? 84).map (·.size) = some 65 := by kernel_rfl
theorem outSz {x : OutT} (h : x.Ok) : (Tryz.prog.info? 84).map (·.size) = some (outCs x).length := by rw [q6l h]; exact outSize
def out0 : OutT := ⟨zero32, zero32, 0⟩
theorem x9t : out0.Ok := ⟨rfl, rfl, by decide⟩
theorem outZero : (Tryz.prog.info? 84).bind (·.zero) = some (outV out0) := by kernel_rfl
section
variable {ops : Array Oper} {rest : List Oper} {o : Oper} {a : Act} {w w0 : World} {Q : Exit → Act → World → Prop} {K : Act → Prop}
theorem j2d (hw : Region.wanted o (yielded ops a.tmps) = true) (x : Operand) (ho : o.op = .box 84 x) {d : OutT} (hx : a.eval x = outV d) (hr : d.Ok)
    (hk : ∀ w2 g, w.heap.size ≤ g → OutAt w2 g d → Below w.heap.size w w2 → wpList Tryz.prog ops Q rest (a.put o.dst (.pointer (some ⟨g, 0, none⟩))) w2) : wpList Tryz.prog ops Q (o :: rest) a w :=
  q4k hw 84 x ho hx (cs := outCs d) (by simp [outV, Value.cells]) (fun w2 g hg h hb => hk w2 g hg ⟨hr, h⟩ hb)
theorem j3w (hw : Region.wanted o (yielded ops a.tmps) = true) (ho : o.op = .alloc 84)
    (hk : ∀ w2 g, w.heap.size ≤ g → OutAt w2 g out0 → Below w.heap.size w w2 → wpList Tryz.prog ops Q rest (a.put o.dst (.pointer (some ⟨g, 0, none⟩))) w2) : wpList Tryz.prog ops Q (o :: rest) a w :=
  q4s hw 84 ho outZero (cs := outCs out0) (by simp [outV, Value.cells]) (fun w2 g hg h hb => hk w2 g hg ⟨x9t, h⟩ hb)
theorem j1i (hgd : o.guard = none) (x y : Operand) (ho : o.op = .store 84 x y) {g : Nat} {d0 d : OutT} (hx : a.eval x = .pointer (some ⟨g, 0, none⟩)) (hy : a.eval y = outV d) (hr : d.Ok) (h : OutAt w g d0)
    (hk : ∀ w2, OutAt w2 g d → Touch (fun b => b = g) w w2 → wpList Tryz.prog ops Q rest (a.put o.dst undef) w2) : wpList Tryz.prog ops Q (o :: rest) a w :=
  q5i hgd 84 x y ho hx hy h.arr (outSz hr) (by rw [q6l hr, q6l h.ok]) (j7c d) (fun w2 ha ht => hk w2 ⟨hr, ha⟩ ht)
theorem q8i (hw : Region.wanted o (yielded ops a.tmps) = true) (x : Operand) (ho : o.op = .load 84 x) {b k : Nat} {d : OutT} (hx : a.eval x = .pointer (some ⟨b, k, none⟩)) (h : Cells w b k (outCs d)) (hr : d.Ok)
    (hk : wpList Tryz.prog ops Q rest (a.put o.dst (outV d)) w) : wpList Tryz.prog ops Q (o :: rest) a w :=
  q1f hw 84 x ho hx h _ Tryz.underlying84 rfl (outSz hr) hk
theorem q6p (x : Operand) (ho : o.op = .load 84 x) {b k : Nat} {d : OutT} (hx : a.eval x = .pointer (some ⟨b, k, none⟩)) (h : Cells w0 b k (outCs d)) (hr : d.Ok) (hk : K (a.put o.dst (outV d))) :
    o.quiet Tryz.prog a (fun w' => ∃ s : Since w0, w' = s.w) K := q1t 84 x ho hx h _ Tryz.underlying84 rfl (outSz hr) hk
theorem x1r (x y : OutT) (hx : x.Ok) (hy : y.Ok) (w : World) : (Op.equalIn 10000 84 (outV x) (outV y)).run Tryz.prog w = .ok (sameOut x y) w := by
  unfold outV
  rw [run_equalIn_struct w 9999 84 _ _ (by kernel_rfl) (by kernel_rfl)]
  have bx0 : (bvs x.dst).length = 32 := by rw [q0e, hx.1]
  have bx1 : (bvs x.stake).length = 32 := by rw [q0e, hx.2.1]
  have dx0 : (outCs x).drop 0 = bvs x.dst ++ (bvs x.stake ++ ([.int .u64 x.amount])) := rfl
  have ex0 : ((outCs x).drop 0).take 32 = bvs x.dst := by rw [dx0]; exact take_left bx0
  have dx1 : (outCs x).drop 32 = bvs x.stake ++ ([.int .u64 x.amount]) := by
    rw [show 32 = 0 + 32 by rfl, ← List.drop_drop, dx0, drop_left bx0]
  have ex1 : ((outCs x).drop 32).take 32 = bvs x.stake := by rw [dx1]; exact take_left bx1
  have dx2 : (outCs x).drop 64 = [.int .u64 x.amount] := by
    rw [show 64 = 32 + 32 by rfl, ← List.drop_drop, dx1, drop_left bx1]
  have ex2 := q5f dx2
  have by0 : (bvs y.dst).length = 32 := by rw [q0e, hy.1]
  have by1 : (bvs y.stake).length = 32 := by rw [q0e, hy.2.1]
  have dy0 : (outCs y).drop 0 = bvs y.dst ++ (bvs y.stake ++ ([.int .u64 y.amount])) := rfl
  have ey0 : ((outCs y).drop 0).take 32 = bvs y.dst := by rw [dy0]; exact take_left by0
  have dy1 : (outCs y).drop 32 = bvs y.stake ++ ([.int .u64 y.amount]) := by
    rw [show 32 = 0 + 32 by rfl, ← List.drop_drop, dy0, drop_left by0]
  have ey1 : ((outCs y).drop 32).take 32 = bvs y.stake := by rw [dy1]; exact take_left by1
  have dy2 : (outCs y).drop 64 = [.int .u64 y.amount] := by
    rw [show 64 = 32 + 32 by rfl, ← List.drop_drop, dy1, drop_left by1]
  have ey2 := q5f dy2
  unfold Program.fieldsOf
  rw [Tryz.underlying84]
  unfold sameOut
  refine q1o (by decide) (q1p ex0 w) (q1p ey0 w) (q2h 9997 x.dst y.dst hx.1 hy.1 w) ?_
  refine q1o (by decide) (q1p ex1 w) (q1p ey1 w) (q2h 9997 x.stake y.stake hx.2.1 hy.2.1 w) ?_
  exact q4w (by decide) (run_part_plain w q1j ex2) (run_part_plain w q1j ey2) (by rw [run_equalIn_int w 9998 24 .u64 .u64 _ _ Tryz.underlying24, q3m])
theorem j0s {C : World → Prop} (p q : Operand) (ho : o.op = .binOp .neq 84 p q 84) {x y : OutT} (hx : a.eval p = outV x) (hy : a.eval q = outV y) (kx : x.Ok) (ky : y.Ok) (hk : K (a.put o.dst (.bool (!(sameOut x y))))) : o.quiet Tryz.prog a C K :=
  q2x _ (fun w _ => j0e 84 p q ho hx hy (by kernel_rfl) (x1r x y kx ky) w) hk
end
theorem z0f {fn : Func} {q : Tmp} (hr : fn.results = #[.cell q 84]) (tmps : Array Value) (w : World) {g : Nat} {d : OutT} (hp : tmps.getD q undef = .pointer (some ⟨g, 0, none⟩)) (h : OutAt w g d) :
    (results fn tmps).run Tryz.prog w = .ok (outV d) w :=
  results_cell_row hr tmps w g 84 (outCs d).toArray (0, 0) _ hp h.arr Tryz.underlying84 rfl (by rw [List.size_toArray]; exact outSz h.ok)
end Go.Proofs.YtbbfnpfkbbpjgaaGreat
/- api.Cert: its cells, in memory, made, boxed, filled, loaded, compared. -/
namespace Go.Proofs.YtbbfnpfkbbpjgaaGreat
open Go.RowKit Go.Lib
set_option linter.unusedVariables false
set_option linter.unusedSimpArgs false
set_option maxRecDepth 100000
set_option maxHeartbeats 4000000
def certCs (x : CertT) : List Value := .int .u8 x.kind :: (bvs x.key ++ (bvs x.pool ++ (.int .u64 x.a :: (.int .u64 x.b :: ([.int .u64 x.c])))))
def certV (x : CertT) : Value := .agg (certCs x).toArray
theorem q3g {x : CertT} (h : x.Ok) : (certCs x).length = 68 := by
  have q1 : x.key.length = 32 := h.2.1
  have q2 : x.pool.length = 32 := h.2.2.1
  unfold certCs; simp [q0e, q1, q2]
theorem j3e (x : CertT) : ∀ v ∈ certCs x, v.oneCell' = true := by
  intro v hv
  unfold certCs at hv
  simp only [List.mem_cons, List.mem_append, List.not_mem_nil, or_false] at hv
  rcases hv with rfl | hv | hv | rfl | rfl | rfl
  · rfl
  · exact List.all_eq_true.1 (q1v x.key) v hv
  · exact List.all_eq_true.1 (q1v x.pool) v hv
  · rfl
  · rfl
  · rfl
structure CertAt (w : World) (g : Nat) (x : CertT) : Prop where
  ok : x.Ok
  arr : Arr w g 87 (certCs x)
section
variable {w w' : World} {g bb kk : Nat} {x : CertT}
theorem CertAt.lt (h : CertAt w g x) : g < w.heap.size := Arr.lt h.arr
theorem CertAt.later (h : CertAt w g x) (hb : Below w.heap.size w w') : CertAt w' g x := ⟨h.ok, h.arr.later hb⟩
theorem CertAt.below {B : Nat} (h : CertAt w g x) (hb : Below B w w') (hB : g < B) : CertAt w' g x := ⟨h.ok, Arr.below h.arr hb hB⟩
theorem CertAt.touch {S : Nat → Prop} (h : CertAt w g x) (ht : Touch S w w') (hS : ¬ S g) : CertAt w' g x := ⟨h.ok, h.arr.touch ht hS⟩
theorem CertAt.tt {g' : Nat} (h : CertAt w g x) (ht : Touch (fun y => y = g') w w') (hS : ¬ g = g' := by omega) : CertAt w' g x := h.touch ht hS
theorem CertAt.cells (h : CertAt w g x) : Cells w g 0 (certCs x) := Cells.arr h.arr
theorem certR0 (h : Cells w bb kk (certCs x)) : Cells w bb kk (.int .u8 x.kind :: (bvs x.key ++ (bvs x.pool ++ (.int .u64 x.a :: (.int .u64 x.b :: ([.int .u64 x.c])))))) := h
theorem CertAt.kind (h : CertAt w g x) : w.cell? ⟨g, 0, none⟩ = some (.int .u8 x.kind) := (certR0 h.cells).one
theorem certR1 (h : Cells w bb kk (certCs x)) (ok : x.Ok) : Cells w bb (kk + 1) (bvs x.key ++ (bvs x.pool ++ (.int .u64 x.a :: (.int .u64 x.b :: ([.int .u64 x.c]))))) := (certR0 h).tail
theorem CertAt.key (h : CertAt w g x) : Cells w g 1 (bvs x.key) := by
  have := certR1 h.cells h.ok
  rw [Nat.zero_add] at this
  exact Cells.left this
theorem certR2 (h : Cells w bb kk (certCs x)) (ok : x.Ok) : Cells w bb (kk + 33) (bvs x.pool ++ (.int .u64 x.a :: (.int .u64 x.b :: ([.int .u64 x.c])))) := by
  have := Cells.right (n := 32) (certR1 h ok) (by rw [q0e, ok.2.1])
  rwa [Nat.add_assoc] at this
theorem CertAt.pool (h : CertAt w g x) : Cells w g 33 (bvs x.pool) := by
  have := certR2 h.cells h.ok
  rw [Nat.zero_add] at this
  exact Cells.left this
theorem certR3 (h : Cells w bb kk (certCs x)) (ok : x.Ok) : Cells w bb (kk + 65) (.int .u64 x.a :: (.int .u64 x.b :: ([.int .u64 x.c]))) := by
  have := Cells.right (n := 32) (certR2 h ok) (by rw [q0e, ok.2.2.1])
  rwa [Nat.add_assoc] at this
theorem CertAt.a (h : CertAt w g x) : w.cell? ⟨g, 65, none⟩ = some (.int .u64 x.a) := by
  have := (certR3 h.cells h.ok).one
  rwa [Nat.zero_add] at this
theorem certR4 (h : Cells w bb kk (certCs x)) (ok : x.Ok) : Cells w bb (kk + 66) (.int .u64 x.b :: ([.int .u64 x.c])) := by
  have := (certR3 h ok).tail
  rwa [Nat.add_assoc] at this
theorem CertAt.b (h : CertAt w g x) : w.cell? ⟨g, 66, none⟩ = some (.int .u64 x.b) := by
  have := (certR4 h.cells h.ok).one
  rwa [Nat.zero_add] at this
theorem certR5 (h : Cells w bb kk (certCs x)) (ok : x.Ok) : Cells w bb (kk + 67) ([.int .u64 x.c]) := by
  have := (certR4 h ok).tail
  rwa [Nat.add_assoc] at this
theorem CertAt.c (h : CertAt w g x) : w.cell? ⟨g, 67, none⟩ = some (.int .u64 x.c) := by
  have := (certR5 h.cells h.ok).one
  rwa [Nat.zero_add] at this
end
theorem certSize : (Tryz.prog.info? 87).map (·.size) = some 68 := by kernel_rfl
theorem certSz {x : CertT} (h : x.Ok) : (Tryz.prog.info? 87).map (·.size) = some (certCs x).length := by rw [q3g h]; exact certSize
def cert0 : CertT := ⟨0, zero32, zero32, 0, 0, 0⟩
theorem x6v : cert0.Ok := ⟨by decide, rfl, rfl, by decide, by decide, by decide⟩
theorem certZero : (Tryz.prog.info? 87).bind (·.zero) = some (certV cert0) := by kernel_rfl
section
variable {ops : Array Oper} {rest : List Oper} {o : Oper} {a : Act} {w w0 : World} {Q : Exit → Act → World → Prop} {K : Act → Prop}
theorem q1r (hw : Region.wanted o (yielded ops a.tmps) = true) (x : Operand) (ho : o.op = .box 87 x) {d : CertT} (hx : a.eval x = certV d) (hr : d.Ok)
    (hk : ∀ w2 g, w.heap.size ≤ g → CertAt w2 g d → Below w.heap.size w w2 → wpList Tryz.prog ops Q rest (a.put o.dst (.pointer (some ⟨g, 0, none⟩))) w2) : wpList Tryz.prog ops Q (o :: rest) a w :=
  q4k hw 87 x ho hx (cs := certCs d) (by simp [certV, Value.cells]) (fun w2 g hg h hb => hk w2 g hg ⟨hr, h⟩ hb)
theorem q3o (hw : Region.wanted o (yielded ops a.tmps) = true) (ho : o.op = .alloc 87)
    (hk : ∀ w2 g, w.heap.size ≤ g → CertAt w2 g cert0 → Below w.heap.size w w2 → wpList Tryz.prog ops Q rest (a.put o.dst (.pointer (some ⟨g, 0, none⟩))) w2) : wpList Tryz.prog ops Q (o :: rest) a w :=
  q4s hw 87 ho certZero (cs := certCs cert0) (by simp [certV, Value.cells]) (fun w2 g hg h hb => hk w2 g hg ⟨x6v, h⟩ hb)
theorem q2u (hgd : o.guard = none) (x y : Operand) (ho : o.op = .store 87 x y) {g : Nat} {d0 d : CertT} (hx : a.eval x = .pointer (some ⟨g, 0, none⟩)) (hy : a.eval y = certV d) (hr : d.Ok) (h : CertAt w g d0)
    (hk : ∀ w2, CertAt w2 g d → Touch (fun b => b = g) w w2 → wpList Tryz.prog ops Q rest (a.put o.dst undef) w2) : wpList Tryz.prog ops Q (o :: rest) a w :=
  q5i hgd 87 x y ho hx hy h.arr (certSz hr) (by rw [q3g hr, q3g h.ok]) (j3e d) (fun w2 ha ht => hk w2 ⟨hr, ha⟩ ht)
theorem q1m (hw : Region.wanted o (yielded ops a.tmps) = true) (x : Operand) (ho : o.op = .load 87 x) {b k : Nat} {d : CertT} (hx : a.eval x = .pointer (some ⟨b, k, none⟩)) (h : Cells w b k (certCs d)) (hr : d.Ok)
    (hk : wpList Tryz.prog ops Q rest (a.put o.dst (certV d)) w) : wpList Tryz.prog ops Q (o :: rest) a w :=
  q1f hw 87 x ho hx h _ Tryz.underlying87 rfl (certSz hr) hk
theorem q5k (x : Operand) (ho : o.op = .load 87 x) {b k : Nat} {d : CertT} (hx : a.eval x = .pointer (some ⟨b, k, none⟩)) (h : Cells w0 b k (certCs d)) (hr : d.Ok) (hk : K (a.put o.dst (certV d))) :
    o.quiet Tryz.prog a (fun w' => ∃ s : Since w0, w' = s.w) K := q1t 87 x ho hx h _ Tryz.underlying87 rfl (certSz hr) hk
theorem j2b (x y : CertT) (hx : x.Ok) (hy : y.Ok) (w : World) : (Op.equalIn 10000 87 (certV x) (certV y)).run Tryz.prog w = .ok (sameCert x y) w := by
  unfold certV
  rw [run_equalIn_struct w 9999 87 _ _ (by kernel_rfl) (by kernel_rfl)]
  have bx1 : (bvs x.key).length = 32 := by rw [q0e, hx.2.1]
  have bx2 : (bvs x.pool).length = 32 := by rw [q0e, hx.2.2.1]
  have dx0 : (certCs x).drop 0 = .int .u8 x.kind :: (bvs x.key ++ (bvs x.pool ++ (.int .u64 x.a :: (.int .u64 x.b :: ([.int .u64 x.c]))))) := rfl
  have ex0 := q5f dx0
  have dx1 : (certCs x).drop 1 = bvs x.key ++ (bvs x.pool ++ (.int .u64 x.a :: (.int .u64 x.b :: ([.int .u64 x.c])))) := by
    rw [show 1 = 0 + 1 by rfl, ← List.drop_drop, dx0]; rfl
  have ex1 : ((certCs x).drop 1).take 32 = bvs x.key := by rw [dx1]; exact take_left bx1
  have dx2 : (certCs x).drop 33 = bvs x.pool ++ (.int .u64 x.a :: (.int .u64 x.b :: ([.int .u64 x.c]))) := by
    rw [show 33 = 1 + 32 by rfl, ← List.drop_drop, dx1, drop_left bx1]
  have ex2 : ((certCs x).drop 33).take 32 = bvs x.pool := by rw [dx2]; exact take_left bx2
  have dx3 : (certCs x).drop 65 = .int .u64 x.a :: (.int .u64 x.b :: ([.int .u64 x.c])) := by
    rw [show 65 = 33 + 32 by rfl, ← List.drop_drop, dx2, drop_left bx2]
  have ex3 := q5f dx3
  have dx4 : (certCs x).drop 66 = .int .u64 x.b :: ([.int .u64 x.c]) := by
    rw [show 66 = 65 + 1 by rfl, ← List.drop_drop, dx3]; rfl
  have ex4 := q5f dx4
  have dx5 : (certCs x).drop 67 = [.int .u64 x.c] := by
    rw [show 67 = 66 + 1 by rfl, ← List.drop_drop, dx4]; rfl
  have ex5 := q5f dx5
  have by1 : (bvs y.key).length = 32 := by rw [q0e, hy.2.1]
  have by2 : (bvs y.pool).length = 32 := by rw [q0e, hy.2.2.1]
  have dy0 : (certCs y).drop 0 = .int .u8 y.kind :: (bvs y.key ++ (bvs y.pool ++ (.int .u64 y.a :: (.int .u64 y.b :: ([.int .u64 y.c]))))) := rfl
  have ey0 := q5f dy0
  have dy1 : (certCs y).drop 1 = bvs y.key ++ (bvs y.pool ++ (.int .u64 y.a :: (.int .u64 y.b :: ([.int .u64 y.c])))) := by
    rw [show 1 = 0 + 1 by rfl, ← List.drop_drop, dy0]; rfl
  have ey1 : ((certCs y).drop 1).take 32 = bvs y.key := by rw [dy1]; exact take_left by1
  have dy2 : (certCs y).drop 33 = bvs y.pool ++ (.int .u64 y.a :: (.int .u64 y.b :: ([.int .u64 y.c]))) := by
    rw [show 33 = 1 + 32 by rfl, ← List.drop_drop, dy1, drop_left by1]
  have ey2 : ((certCs y).drop 33).take 32 = bvs y.pool := by rw [dy2]; exact take_left by2
  have dy3 : (certCs y).drop 65 = .int .u64 y.a :: (.int .u64 y.b :: ([.int .u64 y.c])) := by
    rw [show 65 = 33 + 32 by rfl, ← List.drop_drop, dy2, drop_left by2]
  have ey3 := q5f dy3
  have dy4 : (certCs y).drop 66 = .int .u64 y.b :: ([.int .u64 y.c]) := by
    rw [show 66 = 65 + 1 by rfl, ← List.drop_drop, dy3]; rfl
  have ey4 := q5f dy4
  have dy5 : (certCs y).drop 67 = [.int .u64 y.c] := by
    rw [show 67 = 66 + 1 by rfl, ← List.drop_drop, dy4]; rfl
  have ey5 := q5f dy5
  unfold Program.fieldsOf
  rw [Tryz.underlying87]
  unfold sameCert
  refine q1o (by decide) (run_part_plain w j8y ex0) (run_part_plain w j8y ey0) (by rw [run_equalIn_int w 9998 5 .u8 .u8 _ _ Tryz.underlying5, q3m]) ?_
  refine q1o (by decide) (q1p ex1 w) (q1p ey1 w) (q2h 9997 x.key y.key hx.2.1 hy.2.1 w) ?_
  refine q1o (by decide) (q1p ex2 w) (q1p ey2 w) (q2h 9997 x.pool y.pool hx.2.2.1 hy.2.2.1 w) ?_
  refine q1o (by decide) (run_part_plain w q1j ex3) (run_part_plain w q1j ey3) (by rw [run_equalIn_int w 9998 24 .u64 .u64 _ _ Tryz.underlying24, q3m]) ?_
  refine q1o (by decide) (run_part_plain w q1j ex4) (run_part_plain w q1j ey4) (by rw [run_equalIn_int w 9998 24 .u64 .u64 _ _ Tryz.underlying24, q3m]) ?_
  exact q4w (by decide) (run_part_plain w q1j ex5) (run_part_plain w q1j ey5) (by rw [run_equalIn_int w 9998 24 .u64 .u64 _ _ Tryz.underlying24, q3m])
theorem q6a (hw : Region.wanted o (yielded ops a.tmps) = true) (p q : Operand) (ho : o.op = .binOp .eql 87 p q 87) {x y : CertT} (hx : a.eval p = certV x) (hy : a.eval q = certV y) (kx : x.Ok) (ky : y.Ok) (hk : wpList Tryz.prog ops Q rest (a.put o.dst (.bool (sameCert x y))) w) : wpList Tryz.prog ops Q (o :: rest) a w :=
  q3v hw _ (j7o 87 p q ho hx hy (by kernel_rfl) (j2b x y kx ky) w) hk
theorem q9m {C : World → Prop} (p q : Operand) (ho : o.op = .binOp .neq 87 p q 87) {x y : CertT} (hx : a.eval p = certV x) (hy : a.eval q = certV y) (kx : x.Ok) (ky : y.Ok) (hk : K (a.put o.dst (.bool (!(sameCert x y))))) : o.quiet Tryz.prog a C K :=
  q2x _ (fun w _ => j0e 87 p q ho hx hy (by kernel_rfl) (j2b x y kx ky) w) hk
end
theorem x6q {fn : Func} {q : Tmp} (hr : fn.results = #[.cell q 87]) (tmps : Array Value) (w : World) {g : Nat} {d : CertT} (hp : tmps.getD q undef = .pointer (some ⟨g, 0, none⟩)) (h : CertAt w g d) :
    (results fn tmps).run Tryz.prog w = .ok (certV d) w :=
  results_cell_row hr tmps w g 87 (certCs d).toArray (0, 0) _ hp h.arr Tryz.underlying87 rfl (by rw [List.size_toArray]; exact certSz h.ok)
end Go.Proofs.YtbbfnpfkbbpjgaaGreat
/- api.Pay: its cells, in memory, made, boxed, filled, loaded, compared. -/
namespace Go.Proofs.YtbbfnpfkbbpjgaaGreat
open Go.RowKit Go.Lib
set_option linter.unusedVariables false
set_option linter.unusedSimpArgs false
set_option maxRecDepth 100000
set_option maxHeartbeats 4000000
def payCs (x : PayT) : List Value := bvs x.key ++ ([.int .u64 x.amount])
def payV (x : PayT) : Value := .agg (payCs x).toArray
theorem q6k {x : PayT} (h : x.Ok) : (payCs x).length = 33 := by
  have q0 : x.key.length = 32 := h.1
  unfold payCs; simp [q0e, q0]
theorem j7a (x : PayT) : ∀ v ∈ payCs x, v.oneCell' = true := by
  intro v hv
  unfold payCs at hv
  simp only [List.mem_cons, List.mem_append, List.not_mem_nil, or_false] at hv
  rcases hv with hv | rfl
  · exact List.all_eq_true.1 (q1v x.key) v hv
  · rfl
structure PayAt (w : World) (g : Nat) (x : PayT) : Prop where
  ok : x.Ok
  arr : Arr w g 89 (payCs x)
section
variable {w w' : World} {g bb kk : Nat} {x : PayT}
theorem PayAt.lt (h : PayAt w g x) : g < w.heap.size := Arr.lt h.arr
theorem PayAt.later (h : PayAt w g x) (hb : Below w.heap.size w w') : PayAt w' g x := ⟨h.ok, h.arr.later hb⟩
theorem PayAt.below {B : Nat} (h : PayAt w g x) (hb : Below B w w') (hB : g < B) : PayAt w' g x := ⟨h.ok, Arr.below h.arr hb hB⟩
theorem PayAt.touch {S : Nat → Prop} (h : PayAt w g x) (ht : Touch S w w') (hS : ¬ S g) : PayAt w' g x := ⟨h.ok, h.arr.touch ht hS⟩
theorem PayAt.tt {g' : Nat} (h : PayAt w g x) (ht : Touch (fun y => y = g') w w') (hS : ¬ g = g' := by omega) : PayAt w' g x := h.touch ht hS
theorem PayAt.cells (h : PayAt w g x) : Cells w g 0 (payCs x) := Cells.arr h.arr
theorem payR0 (h : Cells w bb kk (payCs x)) : Cells w bb kk (bvs x.key ++ ([.int .u64 x.amount])) := h
theorem PayAt.key (h : PayAt w g x) : Cells w g 0 (bvs x.key) := Cells.left (payR0 h.cells)
theorem payR1 (h : Cells w bb kk (payCs x)) (ok : x.Ok) : Cells w bb (kk + 32) ([.int .u64 x.amount]) := Cells.right (n := 32) (payR0 h) (by rw [q0e, show x.key.length = 32 from ok.1])
theorem PayAt.amount (h : PayAt w g x) : w.cell? ⟨g, 32, none⟩ = some (.int .u64 x.amount) := by
  have := (payR1 h.cells h.ok).one
  rwa [Nat.zero_add] at this
end
theorem paySize : (Tryz.prog.info? 89).map (·.size) = some 33 := by kernel_rfl
theorem paySz {x : PayT} (h : x.Ok) : (Tryz.prog.info? 89).map (·.size) = some (payCs x).length := by rw [q6k h]; exact paySize
def pay0 : PayT := ⟨zero32, 0⟩
theorem z0g : pay0.Ok := ⟨rfl, by decide⟩
theorem payZero : (Tryz.prog.info? 89).bind (·.zero) = some (payV pay0) := by kernel_rfl
section
variable {ops : Array Oper} {rest : List Oper} {o : Oper} {a : Act} {w w0 : World} {Q : Exit → Act → World → Prop} {K : Act → Prop}
theorem q8v (hw : Region.wanted o (yielded ops a.tmps) = true) (x : Operand) (ho : o.op = .box 89 x) {d : PayT} (hx : a.eval x = payV d) (hr : d.Ok)
    (hk : ∀ w2 g, w.heap.size ≤ g → PayAt w2 g d → Below w.heap.size w w2 → wpList Tryz.prog ops Q rest (a.put o.dst (.pointer (some ⟨g, 0, none⟩))) w2) : wpList Tryz.prog ops Q (o :: rest) a w :=
  q4k hw 89 x ho hx (cs := payCs d) (by simp [payV, Value.cells]) (fun w2 g hg h hb => hk w2 g hg ⟨hr, h⟩ hb)
theorem j3y (hw : Region.wanted o (yielded ops a.tmps) = true) (ho : o.op = .alloc 89)
    (hk : ∀ w2 g, w.heap.size ≤ g → PayAt w2 g pay0 → Below w.heap.size w w2 → wpList Tryz.prog ops Q rest (a.put o.dst (.pointer (some ⟨g, 0, none⟩))) w2) : wpList Tryz.prog ops Q (o :: rest) a w :=
  q4s hw 89 ho payZero (cs := payCs pay0) (by simp [payV, Value.cells]) (fun w2 g hg h hb => hk w2 g hg ⟨z0g, h⟩ hb)
theorem j2r (hgd : o.guard = none) (x y : Operand) (ho : o.op = .store 89 x y) {g : Nat} {d0 d : PayT} (hx : a.eval x = .pointer (some ⟨g, 0, none⟩)) (hy : a.eval y = payV d) (hr : d.Ok) (h : PayAt w g d0)
    (hk : ∀ w2, PayAt w2 g d → Touch (fun b => b = g) w w2 → wpList Tryz.prog ops Q rest (a.put o.dst undef) w2) : wpList Tryz.prog ops Q (o :: rest) a w :=
  q5i hgd 89 x y ho hx hy h.arr (paySz hr) (by rw [q6k hr, q6k h.ok]) (j7a d) (fun w2 ha ht => hk w2 ⟨hr, ha⟩ ht)
theorem q8f (hw : Region.wanted o (yielded ops a.tmps) = true) (x : Operand) (ho : o.op = .load 89 x) {b k : Nat} {d : PayT} (hx : a.eval x = .pointer (some ⟨b, k, none⟩)) (h : Cells w b k (payCs d)) (hr : d.Ok)
    (hk : wpList Tryz.prog ops Q rest (a.put o.dst (payV d)) w) : wpList Tryz.prog ops Q (o :: rest) a w :=
  q1f hw 89 x ho hx h _ Tryz.underlying89 rfl (paySz hr) hk
theorem q1g (x : Operand) (ho : o.op = .load 89 x) {b k : Nat} {d : PayT} (hx : a.eval x = .pointer (some ⟨b, k, none⟩)) (h : Cells w0 b k (payCs d)) (hr : d.Ok) (hk : K (a.put o.dst (payV d))) :
    o.quiet Tryz.prog a (fun w' => ∃ s : Since w0, w' = s.w) K := q1t 89 x ho hx h _ Tryz.underlying89 rfl (paySz hr) hk
theorem x2b (x y : PayT) (hx : x.Ok) (hy : y.Ok) (w : World) : (Op.equalIn 10000 89 (payV x) (payV y)).run Tryz.prog w = .ok (samePay x y) w := by
  unfold payV
  rw [run_equalIn_struct w 9999 89 _ _ (by kernel_rfl) (by kernel_rfl)]
  have bx0 : (bvs x.key).length = 32 := by rw [q0e, hx.1]
  have dx0 : (payCs x).drop 0 = bvs x.key ++ ([.int .u64 x.amount]) := rfl
  have ex0 : ((payCs x).drop 0).take 32 = bvs x.key := by rw [dx0]; exact take_left bx0
  have dx1 : (payCs x).drop 32 = [.int .u64 x.amount] := by
    rw [show 32 = 0 + 32 by rfl, ← List.drop_drop, dx0, drop_left bx0]
  have ex1 := q5f dx1
  have by0 : (bvs y.key).length = 32 := by rw [q0e, hy.1]
  have dy0 : (payCs y).drop 0 = bvs y.key ++ ([.int .u64 y.amount]) := rfl
  have ey0 : ((payCs y).drop 0).take 32 = bvs y.key := by rw [dy0]; exact take_left by0
  have dy1 : (payCs y).drop 32 = [.int .u64 y.amount] := by
    rw [show 32 = 0 + 32 by rfl, ← List.drop_drop, dy0, drop_left by0]
  have ey1 := q5f dy1
  unfold Program.fieldsOf
  rw [Tryz.underlying89]
  unfold samePay
  refine q1o (by decide) (q1p ex0 w) (q1p ey0 w) (q2h 9997 x.key y.key hx.1 hy.1 w) ?_
  exact q4w (by decide) (run_part_plain w q1j ex1) (run_part_plain w q1j ey1) (by rw [run_equalIn_int w 9998 24 .u64 .u64 _ _ Tryz.underlying24, q3m])
theorem j0y {C : World → Prop} (p q : Operand) (ho : o.op = .binOp .neq 89 p q 89) {x y : PayT} (hx : a.eval p = payV x) (hy : a.eval q = payV y) (kx : x.Ok) (ky : y.Ok) (hk : K (a.put o.dst (.bool (!(samePay x y))))) : o.quiet Tryz.prog a C K :=
  q2x _ (fun w _ => j0e 89 p q ho hx hy (by kernel_rfl) (x2b x y kx ky) w) hk
end
theorem x9r {fn : Func} {q : Tmp} (hr : fn.results = #[.cell q 89]) (tmps : Array Value) (w : World) {g : Nat} {d : PayT} (hp : tmps.getD q undef = .pointer (some ⟨g, 0, none⟩)) (h : PayAt w g d) :
    (results fn tmps).run Tryz.prog w = .ok (payV d) w :=
  results_cell_row hr tmps w g 89 (payCs d).toArray (0, 0) _ hp h.arr Tryz.underlying89 rfl (by rw [List.size_toArray]; exact paySz h.ok)
end Go.Proofs.YtbbfnpfkbbpjgaaGreat
