/- api.Cert: its cells, in memory, made, boxed, filled, loaded, compared. -/
import Derived.Test.YtbbfnpfkbbpjgaaGreatQHRowE
import Derived.Test.YtbbfnpfkbbpjgaaGreatQHTakeL
namespace Go.Proofs.YtbbfnpfkbbpjgaaGreat
open Go.RowKit Go.Lib
set_option linter.unusedVariables false
set_option linter.unusedSimpArgs false
set_option maxRecDepth 100000
set_option maxHeartbeats 4000000
def certCs (x : CertT) : List Value := .int .u8 x.kind :: (bvs x.key ++ (bvs x.pool ++ (.int .u64 x.a :: (.int .u64 x.b :: ([.int .u64 x.c])))))
def certV (x : CertT) : Value := .agg (certCs x).toArray
theorem q1w {x : CertT} (h : x.Ok) : (certCs x).length = 68 := by
 have q1 : x.key.length = 32 := h.2.1
 have q2 : x.pool.length = 32 := h.2.2.1
 unfold certCs; simp [q0c, q1, q2]
theorem j1g (x : CertT) : ∀ v ∈ certCs x, v.oneCell' = true := by
 intro v hv
 unfold certCs at hv
 simp only [List.mem_cons, List.mem_append, List.not_mem_nil, or_false] at hv
 rcases hv with rfl | hv | hv | rfl | rfl | rfl
 ·rfl
 ·exact List.all_eq_true.1 (q1f x.key) v hv
 ·exact List.all_eq_true.1 (q1f x.pool) v hv
 ·rfl
 ·rfl
 ·rfl
structure CertAt (w : World) (g : Nat) (x : CertT) : Prop where
 ok : x.Ok
 arr : Arr w g 87 (certCs x)
section
variable {w w' : World} {g bb kk : Nat} {x : CertT}
theorem CertAt.lt (h : CertAt w g x) : g < w.heap.size := Arr.lt h.arr
theorem CertAt.later (h : CertAt w g x) (hb : Below w.heap.size w w') : CertAt w' g x := ⟨h.ok, h.arr.later hb⟩
theorem CertAt.below {B : Nat} (h : CertAt w g x) (hb : Below B w w') (hB : g < B) : CertAt w' g x := ⟨h.ok, Arr.below h.arr hb hB⟩
theorem CertAt.touch {S : Nat → Prop} (h : CertAt w g x) (ht : Touch S w w') (hS : ¬ S g) : CertAt w' g x := ⟨h.ok, h.arr.touch ht hS⟩
theorem CertAt.tt {g' : Nat} (h : CertAt w g x) (ht : Touch (fun y => y = g') w w') (hS : ¬ g = g' := by omega) : CertAt w' g x := h.touch ht hS
theorem CertAt.cells (h : CertAt w g x) : Cells w g 0 (certCs x) := Cells.arr h.arr
theorem certR0 (h : Cells w bb kk (certCs x)) : Cells w bb kk (.int .u8 x.kind :: (bvs x.key ++ (bvs x.pool ++ (.int .u64 x.a :: (.int .u64 x.b :: ([.int .u64 x.c])))))) := h
theorem CertAt.kind (h : CertAt w g x) : w.cell? ⟨g, 0, none⟩ = some (.int .u8 x.kind) := (certR0 h.cells).one
theorem certR1 (h : Cells w bb kk (certCs x)) (ok : x.Ok) : Cells w bb (kk + 1) (bvs x.key ++ (bvs x.pool ++ (.int .u64 x.a :: (.int .u64 x.b :: ([.int .u64 x.c]))))) := (certR0 h).tail
theorem CertAt.key (h : CertAt w g x) : Cells w g 1 (bvs x.key) := by
 have := certR1 h.cells h.ok
 rw [Nat.zero_add] at this
 exact Cells.left this
theorem certR2 (h : Cells w bb kk (certCs x)) (ok : x.Ok) : Cells w bb (kk + 33) (bvs x.pool ++ (.int .u64 x.a :: (.int .u64 x.b :: ([.int .u64 x.c])))) := by
 have := Cells.right (n := 32) (certR1 h ok) (by rw [q0c, ok.2.1])
 rwa [Nat.add_assoc] at this
theorem CertAt.pool (h : CertAt w g x) : Cells w g 33 (bvs x.pool) := by
 have := certR2 h.cells h.ok
 rw [Nat.zero_add] at this
 exact Cells.left this
theorem certR3 (h : Cells w bb kk (certCs x)) (ok : x.Ok) : Cells w bb (kk + 65) (.int .u64 x.a :: (.int .u64 x.b :: ([.int .u64 x.c]))) := by
 have := Cells.right (n := 32) (certR2 h ok) (by rw [q0c, ok.2.2.1])
 rwa [Nat.add_assoc] at this
theorem CertAt.a (h : CertAt w g x) : w.cell? ⟨g, 65, none⟩ = some (.int .u64 x.a) := by
 have := (certR3 h.cells h.ok).one
 rwa [Nat.zero_add] at this
theorem certR4 (h : Cells w bb kk (certCs x)) (ok : x.Ok) : Cells w bb (kk + 66) (.int .u64 x.b :: ([.int .u64 x.c])) := by
 have := (certR3 h ok).tail
 rwa [Nat.add_assoc] at this
theorem CertAt.b (h : CertAt w g x) : w.cell? ⟨g, 66, none⟩ = some (.int .u64 x.b) := by
 have := (certR4 h.cells h.ok).one
 rwa [Nat.zero_add] at this
theorem certR5 (h : Cells w bb kk (certCs x)) (ok : x.Ok) : Cells w bb (kk + 67) ([.int .u64 x.c]) := by
 have := (certR4 h ok).tail
 rwa [Nat.add_assoc] at this
theorem CertAt.c (h : CertAt w g x) : w.cell? ⟨g, 67, none⟩ = some (.int .u64 x.c) := by
 have := (certR5 h.cells h.ok).one
 rwa [Nat.zero_add] at this
end
theorem certSize : (Tryz.prog.info? 87).map (·.size) = some 68 := by kernel_rfl
theorem certSz {x : CertT} (h : x.Ok) : (Tryz.prog.info? 87).map (·.size) = some (certCs x).length := by rw [q1w h]; exact certSize
def cert0 : CertT := ⟨0, zero32, zero32, 0, 0, 0⟩
theorem x1w : cert0.Ok := ⟨by decide, rfl, rfl, by decide, by decide, by decide⟩
theorem certZero : (Tryz.prog.info? 87).bind (·.zero) = some (certV cert0) := by kernel_rfl
section
variable {ops : Array Oper} {rest : List Oper} {o : Oper} {a : Act} {w w0 : World} {Q : Exit → Act → World → Prop} {K : Act → Prop}
theorem q1q (hw : Region.wanted o (yielded ops a.tmps) = true) (x : Operand) (ho : o.op = .box 87 x) {d : CertT} (hx : a.eval x = certV d) (hr : d.Ok)
  (hk : ∀ w2 g, w.heap.size ≤ g → CertAt w2 g d → Below w.heap.size w w2 → wpList Tryz.prog ops Q rest (a.put o.dst (.pointer (some ⟨g, 0, none⟩))) w2) : wpList Tryz.prog ops Q (o :: rest) a w :=
 q4j hw 87 x ho hx (cs := certCs d) (by simp [certV, Value.cells]) (fun w2 g hg h hb => hk w2 g hg ⟨hr, h⟩ hb)
theorem q3f (hw : Region.wanted o (yielded ops a.tmps) = true) (ho : o.op = .alloc 87)
  (hk : ∀ w2 g, w.heap.size ≤ g → CertAt w2 g cert0 → Below w.heap.size w w2 → wpList Tryz.prog ops Q rest (a.put o.dst (.pointer (some ⟨g, 0, none⟩))) w2) : wpList Tryz.prog ops Q (o :: rest) a w :=
 q5e hw 87 ho certZero (cs := certCs cert0) (by simp [certV, Value.cells]) (fun w2 g hg h hb => hk w2 g hg ⟨x1w, h⟩ hb)
theorem q2o (hgd : o.guard = none) (x y : Operand) (ho : o.op = .store 87 x y) {g : Nat} {d0 d : CertT} (hx : a.eval x = .pointer (some ⟨g, 0, none⟩)) (hy : a.eval y = certV d) (hr : d.Ok) (h : CertAt w g d0)
  (hk : ∀ w2, CertAt w2 g d → Touch (fun b => b = g) w w2 → wpList Tryz.prog ops Q rest (a.put o.dst undef) w2) : wpList Tryz.prog ops Q (o :: rest) a w :=
 q5t hgd 87 x y ho hx hy h.arr (certSz hr) (by rw [q1w hr, q1w h.ok]) (j1g d) (fun w2 ha ht => hk w2 ⟨hr, ha⟩ ht)
theorem q1k (hw : Region.wanted o (yielded ops a.tmps) = true) (x : Operand) (ho : o.op = .load 87 x) {b k : Nat} {d : CertT} (hx : a.eval x = .pointer (some ⟨b, k, none⟩)) (h : Cells w b k (certCs d)) (hr : d.Ok)
  (hk : wpList Tryz.prog ops Q rest (a.put o.dst (certV d)) w) : wpList Tryz.prog ops Q (o :: rest) a w :=
 q1t hw 87 x ho hx h _ Tryz.underlying87 rfl (certSz hr) hk
theorem q3c (x : Operand) (ho : o.op = .load 87 x) {b k : Nat} {d : CertT} (hx : a.eval x = .pointer (some ⟨b, k, none⟩)) (h : Cells w0 b k (certCs d)) (hr : d.Ok) (hk : K (a.put o.dst (certV d))) :
  o.quiet Tryz.prog a (fun w' => ∃ s : Since w0, w' = s.w) K := q2h 87 x ho hx h _ Tryz.underlying87 rfl (certSz hr) hk
theorem j3k (x y : CertT) (hx : x.Ok) (hy : y.Ok) (w : World) : (Op.equalIn 10000 87 (certV x) (certV y)).run Tryz.prog w = .ok (sameCert x y) w := by
 unfold certV
 rw [run_equalIn_struct w 9999 87 _ _ (by kernel_rfl) (by kernel_rfl)]
 have bx1 : (bvs x.key).length = 32 := by rw [q0c, hx.2.1]
 have bx2 : (bvs x.pool).length = 32 := by rw [q0c, hx.2.2.1]
 have dx0 : (certCs x).drop 0 = .int .u8 x.kind :: (bvs x.key ++ (bvs x.pool ++ (.int .u64 x.a :: (.int .u64 x.b :: ([.int .u64 x.c]))))) := rfl
 have ex0 := q5o dx0
 have dx1 : (certCs x).drop 1 = bvs x.key ++ (bvs x.pool ++ (.int .u64 x.a :: (.int .u64 x.b :: ([.int .u64 x.c])))) := by
  rw [show 1 = 0 + 1 by rfl, ← List.drop_drop, dx0]; rfl
 have ex1 : ((certCs x).drop 1).take 32 = bvs x.key := by rw [dx1]; exact take_left bx1
 have dx2 : (certCs x).drop 33 = bvs x.pool ++ (.int .u64 x.a :: (.int .u64 x.b :: ([.int .u64 x.c]))) := by
  rw [show 33 = 1 + 32 by rfl, ← List.drop_drop, dx1, drop_left bx1]
 have ex2 : ((certCs x).drop 33).take 32 = bvs x.pool := by rw [dx2]; exact take_left bx2
 have dx3 : (certCs x).drop 65 = .int .u64 x.a :: (.int .u64 x.b :: ([.int .u64 x.c])) := by
  rw [show 65 = 33 + 32 by rfl, ← List.drop_drop, dx2, drop_left bx2]
 have ex3 := q5o dx3
 have dx4 : (certCs x).drop 66 = .int .u64 x.b :: ([.int .u64 x.c]) := by
  rw [show 66 = 65 + 1 by rfl, ← List.drop_drop, dx3]; rfl
 have ex4 := q5o dx4
 have dx5 : (certCs x).drop 67 = [.int .u64 x.c] := by
  rw [show 67 = 66 + 1 by rfl, ← List.drop_drop, dx4]; rfl
 have ex5 := q5o dx5
 have by1 : (bvs y.key).length = 32 := by rw [q0c, hy.2.1]
 have by2 : (bvs y.pool).length = 32 := by rw [q0c, hy.2.2.1]
 have dy0 : (certCs y).drop 0 = .int .u8 y.kind :: (bvs y.key ++ (bvs y.pool ++ (.int .u64 y.a :: (.int .u64 y.b :: ([.int .u64 y.c]))))) := rfl
 have ey0 := q5o dy0
 have dy1 : (certCs y).drop 1 = bvs y.key ++ (bvs y.pool ++ (.int .u64 y.a :: (.int .u64 y.b :: ([.int .u64 y.c])))) := by
  rw [show 1 = 0 + 1 by rfl, ← List.drop_drop, dy0]; rfl
 have ey1 : ((certCs y).drop 1).take 32 = bvs y.key := by rw [dy1]; exact take_left by1
 have dy2 : (certCs y).drop 33 = bvs y.pool ++ (.int .u64 y.a :: (.int .u64 y.b :: ([.int .u64 y.c]))) := by
  rw [show 33 = 1 + 32 by rfl, ← List.drop_drop, dy1, drop_left by1]
 have ey2 : ((certCs y).drop 33).take 32 = bvs y.pool := by rw [dy2]; exact take_left by2
 have dy3 : (certCs y).drop 65 = .int .u64 y.a :: (.int .u64 y.b :: ([.int .u64 y.c])) := by
  rw [show 65 = 33 + 32 by rfl, ← List.drop_drop, dy2, drop_left by2]
 have ey3 := q5o dy3
 have dy4 : (certCs y).drop 66 = .int .u64 y.b :: ([.int .u64 y.c]) := by
  rw [show 66 = 65 + 1 by rfl, ← List.drop_drop, dy3]; rfl
 have ey4 := q5o dy4
 have dy5 : (certCs y).drop 67 = [.int .u64 y.c] := by
  rw [show 67 = 66 + 1 by rfl, ← List.drop_drop, dy4]; rfl
 have ey5 := q5o dy5
 unfold Program.fieldsOf
 rw [Tryz.underlying87]
 unfold sameCert
 refine q1n (by decide) (run_part_plain w x0w ex0) (run_part_plain w x0w ey0) (by rw [run_equalIn_int w 9998 5 .u8 .u8 _ _ Tryz.underlying5, q3n]) ?_
 refine q1n (by decide) (q1o ex1 w) (q1o ey1 w) (q2g 9997 x.key y.key hx.2.1 hy.2.1 w) ?_
 refine q1n (by decide) (q1o ex2 w) (q1o ey2 w) (q2g 9997 x.pool y.pool hx.2.2.1 hy.2.2.1 w) ?_
 refine q1n (by decide) (run_part_plain w q1l ex3) (run_part_plain w q1l ey3) (by rw [run_equalIn_int w 9998 24 .u64 .u64 _ _ Tryz.underlying24, q3n]) ?_
 refine q1n (by decide) (run_part_plain w q1l ex4) (run_part_plain w q1l ey4) (by rw [run_equalIn_int w 9998 24 .u64 .u64 _ _ Tryz.underlying24, q3n]) ?_
 exact q5j (by decide) (run_part_plain w q1l ex5) (run_part_plain w q1l ey5) (by rw [run_equalIn_int w 9998 24 .u64 .u64 _ _ Tryz.underlying24, q3n])
theorem q6e (hw : Region.wanted o (yielded ops a.tmps) = true) (p q : Operand) (ho : o.op = .binOp .eql 87 p q 87) {x y : CertT} (hx : a.eval p = certV x) (hy : a.eval q = certV y) (kx : x.Ok) (ky : y.Ok) (hk : wpList Tryz.prog ops Q rest (a.put o.dst (.bool (sameCert x y))) w) : wpList Tryz.prog ops Q (o :: rest) a w :=
 q3l hw _ (x0h 87 p q ho hx hy (by kernel_rfl) (j3k x y kx ky) w) hk
theorem q5w {C : World → Prop} (p q : Operand) (ho : o.op = .binOp .neq 87 p q 87) {x y : CertT} (hx : a.eval p = certV x) (hy : a.eval q = certV y) (kx : x.Ok) (ky : y.Ok) (hk : K (a.put o.dst (.bool (!(sameCert x y))))) : o.quiet Tryz.prog a C K :=
 q2z _ (fun w _ => j0q 87 p q ho hx hy (by kernel_rfl) (j3k x y kx ky) w) hk
end
theorem z0s {fn : Func} {q : Tmp} (hr : fn.results = #[.cell q 87]) (tmps : Array Value) (w : World) {g : Nat} {d : CertT} (hp : tmps.getD q undef = .pointer (some ⟨g, 0, none⟩)) (h : CertAt w g d) :
  (results fn tmps).run Tryz.prog w = .ok (certV d) w :=
 results_cell_row hr tmps w g 87 (certCs d).toArray (0, 0) _ hp h.arr Tryz.underlying87 rfl (by rw [List.size_toArray]; exact certSz h.ok)
def payCs (x : PayT) : List Value := bvs x.key ++ ([.int .u64 x.amount])
def payV (x : PayT) : Value := .agg (payCs x).toArray
theorem q4h {x : PayT} (h : x.Ok) : (payCs x).length = 33 := by
 have q0 : x.key.length = 32 := h.1
 unfold payCs; simp [q0c, q0]
theorem j3o (x : PayT) : ∀ v ∈ payCs x, v.oneCell' = true := by
 intro v hv
 unfold payCs at hv
 simp only [List.mem_cons, List.mem_append, List.not_mem_nil, or_false] at hv
 rcases hv with hv | rfl
 ·exact List.all_eq_true.1 (q1f x.key) v hv
 ·rfl
structure PayAt (w : World) (g : Nat) (x : PayT) : Prop where
 ok : x.Ok
 arr : Arr w g 89 (payCs x)
section
variable {w w' : World} {g bb kk : Nat} {x : PayT}
theorem PayAt.lt (h : PayAt w g x) : g < w.heap.size := Arr.lt h.arr
theorem PayAt.later (h : PayAt w g x) (hb : Below w.heap.size w w') : PayAt w' g x := ⟨h.ok, h.arr.later hb⟩
theorem PayAt.below {B : Nat} (h : PayAt w g x) (hb : Below B w w') (hB : g < B) : PayAt w' g x := ⟨h.ok, Arr.below h.arr hb hB⟩
theorem PayAt.touch {S : Nat → Prop} (h : PayAt w g x) (ht : Touch S w w') (hS : ¬ S g) : PayAt w' g x := ⟨h.ok, h.arr.touch ht hS⟩
theorem PayAt.tt {g' : Nat} (h : PayAt w g x) (ht : Touch (fun y => y = g') w w') (hS : ¬ g = g' := by omega) : PayAt w' g x := h.touch ht hS
theorem PayAt.cells (h : PayAt w g x) : Cells w g 0 (payCs x) := Cells.arr h.arr
theorem payR0 (h : Cells w bb kk (payCs x)) : Cells w bb kk (bvs x.key ++ ([.int .u64 x.amount])) := h
theorem PayAt.key (h : PayAt w g x) : Cells w g 0 (bvs x.key) := Cells.left (payR0 h.cells)
theorem payR1 (h : Cells w bb kk (payCs x)) (ok : x.Ok) : Cells w bb (kk + 32) ([.int .u64 x.amount]) := Cells.right (n := 32) (payR0 h) (by rw [q0c, show x.key.length = 32 from ok.1])
theorem PayAt.amount (h : PayAt w g x) : w.cell? ⟨g, 32, none⟩ = some (.int .u64 x.amount) := by
 have := (payR1 h.cells h.ok).one
 rwa [Nat.zero_add] at this
end
theorem paySize : (Tryz.prog.info? 89).map (·.size) = some 33 := by kernel_rfl
theorem paySz {x : PayT} (h : x.Ok) : (Tryz.prog.info? 89).map (·.size) = some (payCs x).length := by rw [q4h h]; exact paySize
def pay0 : PayT := ⟨zero32, 0⟩
theorem x7q : pay0.Ok := ⟨rfl, by decide⟩
theorem payZero : (Tryz.prog.info? 89).bind (·.zero) = some (payV pay0) := by kernel_rfl
section
variable {ops : Array Oper} {rest : List Oper} {o : Oper} {a : Act} {w w0 : World} {Q : Exit → Act → World → Prop} {K : Act → Prop}
theorem q9g (hw : Region.wanted o (yielded ops a.tmps) = true) (x : Operand) (ho : o.op = .box 89 x) {d : PayT} (hx : a.eval x = payV d) (hr : d.Ok)
  (hk : ∀ w2 g, w.heap.size ≤ g → PayAt w2 g d → Below w.heap.size w w2 → wpList Tryz.prog ops Q rest (a.put o.dst (.pointer (some ⟨g, 0, none⟩))) w2) : wpList Tryz.prog ops Q (o :: rest) a w :=
 q4j hw 89 x ho hx (cs := payCs d) (by simp [payV, Value.cells]) (fun w2 g hg h hb => hk w2 g hg ⟨hr, h⟩ hb)
theorem j1a (hw : Region.wanted o (yielded ops a.tmps) = true) (ho : o.op = .alloc 89)
  (hk : ∀ w2 g, w.heap.size ≤ g → PayAt w2 g pay0 → Below w.heap.size w w2 → wpList Tryz.prog ops Q rest (a.put o.dst (.pointer (some ⟨g, 0, none⟩))) w2) : wpList Tryz.prog ops Q (o :: rest) a w :=
 q5e hw 89 ho payZero (cs := payCs pay0) (by simp [payV, Value.cells]) (fun w2 g hg h hb => hk w2 g hg ⟨x7q, h⟩ hb)
theorem q9d (hgd : o.guard = none) (x y : Operand) (ho : o.op = .store 89 x y) {g : Nat} {d0 d : PayT} (hx : a.eval x = .pointer (some ⟨g, 0, none⟩)) (hy : a.eval y = payV d) (hr : d.Ok) (h : PayAt w g d0)
  (hk : ∀ w2, PayAt w2 g d → Touch (fun b => b = g) w w2 → wpList Tryz.prog ops Q rest (a.put o.dst undef) w2) : wpList Tryz.prog ops Q (o :: rest) a w :=
 q5t hgd 89 x y ho hx hy h.arr (paySz hr) (by rw [q4h hr, q4h h.ok]) (j3o d) (fun w2 ha ht => hk w2 ⟨hr, ha⟩ ht)
theorem q7b (hw : Region.wanted o (yielded ops a.tmps) = true) (x : Operand) (ho : o.op = .load 89 x) {b k : Nat} {d : PayT} (hx : a.eval x = .pointer (some ⟨b, k, none⟩)) (h : Cells w b k (payCs d)) (hr : d.Ok)
  (hk : wpList Tryz.prog ops Q rest (a.put o.dst (payV d)) w) : wpList Tryz.prog ops Q (o :: rest) a w :=
 q1t hw 89 x ho hx h _ Tryz.underlying89 rfl (paySz hr) hk
theorem q2e (x : Operand) (ho : o.op = .load 89 x) {b k : Nat} {d : PayT} (hx : a.eval x = .pointer (some ⟨b, k, none⟩)) (h : Cells w0 b k (payCs d)) (hr : d.Ok) (hk : K (a.put o.dst (payV d))) :
  o.quiet Tryz.prog a (fun w' => ∃ s : Since w0, w' = s.w) K := q2h 89 x ho hx h _ Tryz.underlying89 rfl (paySz hr) hk
theorem x2i (x y : PayT) (hx : x.Ok) (hy : y.Ok) (w : World) : (Op.equalIn 10000 89 (payV x) (payV y)).run Tryz.prog w = .ok (samePay x y) w := by
 unfold payV
 rw [run_equalIn_struct w 9999 89 _ _ (by kernel_rfl) (by kernel_rfl)]
 have bx0 : (bvs x.key).length = 32 := by rw [q0c, hx.1]
 have dx0 : (payCs x).drop 0 = bvs x.key ++ ([.int .u64 x.amount]) := rfl
 have ex0 : ((payCs x).drop 0).take 32 = bvs x.key := by rw [dx0]; exact take_left bx0
 have dx1 : (payCs x).drop 32 = [.int .u64 x.amount] := by
  rw [show 32 = 0 + 32 by rfl, ← List.drop_drop, dx0, drop_left bx0]
 have ex1 := q5o dx1
 have by0 : (bvs y.key).length = 32 := by rw [q0c, hy.1]
 have dy0 : (payCs y).drop 0 = bvs y.key ++ ([.int .u64 y.amount]) := rfl
 have ey0 : ((payCs y).drop 0).take 32 = bvs y.key := by rw [dy0]; exact take_left by0
 have dy1 : (payCs y).drop 32 = [.int .u64 y.amount] := by
  rw [show 32 = 0 + 32 by rfl, ← List.drop_drop, dy0, drop_left by0]
 have ey1 := q5o dy1
 unfold Program.fieldsOf
 rw [Tryz.underlying89]
 unfold samePay
 refine q1n (by decide) (q1o ex0 w) (q1o ey0 w) (q2g 9997 x.key y.key hx.1 hy.1 w) ?_
 exact q5j (by decide) (run_part_plain w q1l ex1) (run_part_plain w q1l ey1) (by rw [run_equalIn_int w 9998 24 .u64 .u64 _ _ Tryz.underlying24, q3n])
theorem q6m {C : World → Prop} (p q : Operand) (ho : o.op = .binOp .neq 89 p q 89) {x y : PayT} (hx : a.eval p = payV x) (hy : a.eval q = payV y) (kx : x.Ok) (ky : y.Ok) (hk : K (a.put o.dst (.bool (!(samePay x y))))) : o.quiet Tryz.prog a C K :=
 q2z _ (fun w _ => j0q 89 p q ho hx hy (by kernel_rfl) (x2i x y kx ky) w) hk
end
theorem z1m {fn : Func} {q : Tmp} (hr : fn.results = #[.cell q 89]) (tmps : Array Value) (w : World) {g : Nat} {d : PayT} (hp : tmps.getD q undef = .pointer (some ⟨g, 0, none⟩)) (h : PayAt w g d) :
  (results fn tmps).run Tryz.prog w = .ok (payV d) w :=
 results_cell_row hr tmps w g 89 (payCs d).toArray (0, 0) _ hp h.arr Tryz.underlying89 rfl (by rw [List.size_toArray]; exact paySz h.ok)
def witCs (x : WitT) : List Value := bvs x.key ++ ([.string x.sig])
def witV (x : WitT) : Value := .agg (witCs x).toArray
theorem q4k {x : WitT} (h : x.Ok) : (witCs x).length = 33 := by
 have q0 : x.key.length = 32 := h
 unfold witCs; simp [q0c, q0]
theorem j3t (x : WitT) : ∀ v ∈ witCs x, v.oneCell' = true := by
 intro v hv
 unfold witCs at hv
 simp only [List.mem_cons, List.mem_append, List.not_mem_nil, or_false] at hv
 rcases hv with hv | rfl
 ·exact List.all_eq_true.1 (q1f x.key) v hv
 ·rfl
structure WitAt (w : World) (g : Nat) (x : WitT) : Prop where
 ok : x.Ok
 arr : Arr w g 74 (witCs x)
section
variable {w w' : World} {g bb kk : Nat} {x : WitT}
theorem WitAt.lt (h : WitAt w g x) : g < w.heap.size := Arr.lt h.arr
theorem WitAt.later (h : WitAt w g x) (hb : Below w.heap.size w w') : WitAt w' g x := ⟨h.ok, h.arr.later hb⟩
theorem WitAt.below {B : Nat} (h : WitAt w g x) (hb : Below B w w') (hB : g < B) : WitAt w' g x := ⟨h.ok, Arr.below h.arr hb hB⟩
theorem WitAt.touch {S : Nat → Prop} (h : WitAt w g x) (ht : Touch S w w') (hS : ¬ S g) : WitAt w' g x := ⟨h.ok, h.arr.touch ht hS⟩
theorem WitAt.tt {g' : Nat} (h : WitAt w g x) (ht : Touch (fun y => y = g') w w') (hS : ¬ g = g' := by omega) : WitAt w' g x := h.touch ht hS
theorem WitAt.cells (h : WitAt w g x) : Cells w g 0 (witCs x) := Cells.arr h.arr
theorem witR0 (h : Cells w bb kk (witCs x)) : Cells w bb kk (bvs x.key ++ ([.string x.sig])) := h
theorem WitAt.key (h : WitAt w g x) : Cells w g 0 (bvs x.key) := Cells.left (witR0 h.cells)
theorem witR1 (h : Cells w bb kk (witCs x)) (ok : x.Ok) : Cells w bb (kk + 32) ([.string x.sig]) := Cells.right (n := 32) (witR0 h) (by rw [q0c, show x.key.length = 32 from ok])
theorem WitAt.sig (h : WitAt w g x) : w.cell? ⟨g, 32, none⟩ = some (.string x.sig) := by
 have := (witR1 h.cells h.ok).one
 rwa [Nat.zero_add] at this
end
theorem witSize : (Tryz.prog.info? 74).map (·.size) = some 33 := by kernel_rfl
theorem witSz {x : WitT} (h : x.Ok) : (Tryz.prog.info? 74).map (·.size) = some (witCs x).length := by rw [q4k h]; exact witSize
def wit0 : WitT := ⟨zero32, ByteArray.empty⟩
theorem x6q : wit0.Ok := rfl
theorem witZero : (Tryz.prog.info? 74).bind (·.zero) = some (witV wit0) := by kernel_rfl
section
variable {ops : Array Oper} {rest : List Oper} {o : Oper} {a : Act} {w w0 : World} {Q : Exit → Act → World → Prop} {K : Act → Prop}
theorem q8x (hw : Region.wanted o (yielded ops a.tmps) = true) (x : Operand) (ho : o.op = .box 74 x) {d : WitT} (hx : a.eval x = witV d) (hr : d.Ok)
  (hk : ∀ w2 g, w.heap.size ≤ g → WitAt w2 g d → Below w.heap.size w w2 → wpList Tryz.prog ops Q rest (a.put o.dst (.pointer (some ⟨g, 0, none⟩))) w2) : wpList Tryz.prog ops Q (o :: rest) a w :=
 q4j hw 74 x ho hx (cs := witCs d) (by simp [witV, Value.cells]) (fun w2 g hg h hb => hk w2 g hg ⟨hr, h⟩ hb)
theorem j0t (hw : Region.wanted o (yielded ops a.tmps) = true) (ho : o.op = .alloc 74)
  (hk : ∀ w2 g, w.heap.size ≤ g → WitAt w2 g wit0 → Below w.heap.size w w2 → wpList Tryz.prog ops Q rest (a.put o.dst (.pointer (some ⟨g, 0, none⟩))) w2) : wpList Tryz.prog ops Q (o :: rest) a w :=
 q5e hw 74 ho witZero (cs := witCs wit0) (by simp [witV, Value.cells]) (fun w2 g hg h hb => hk w2 g hg ⟨x6q, h⟩ hb)
theorem q8v (hgd : o.guard = none) (x y : Operand) (ho : o.op = .store 74 x y) {g : Nat} {d0 d : WitT} (hx : a.eval x = .pointer (some ⟨g, 0, none⟩)) (hy : a.eval y = witV d) (hr : d.Ok) (h : WitAt w g d0)
  (hk : ∀ w2, WitAt w2 g d → Touch (fun b => b = g) w w2 → wpList Tryz.prog ops Q rest (a.put o.dst undef) w2) : wpList Tryz.prog ops Q (o :: rest) a w :=
 q5t hgd 74 x y ho hx hy h.arr (witSz hr) (by rw [q4k hr, q4k h.ok]) (j3t d) (fun w2 ha ht => hk w2 ⟨hr, ha⟩ ht)
theorem q7c (hw : Region.wanted o (yielded ops a.tmps) = true) (x : Operand) (ho : o.op = .load 74 x) {b k : Nat} {d : WitT} (hx : a.eval x = .pointer (some ⟨b, k, none⟩)) (h : Cells w b k (witCs d)) (hr : d.Ok)
  (hk : wpList Tryz.prog ops Q rest (a.put o.dst (witV d)) w) : wpList Tryz.prog ops Q (o :: rest) a w :=
 q1t hw 74 x ho hx h _ Tryz.underlying74 rfl (witSz hr) hk
theorem q2j (x : Operand) (ho : o.op = .load 74 x) {b k : Nat} {d : WitT} (hx : a.eval x = .pointer (some ⟨b, k, none⟩)) (h : Cells w0 b k (witCs d)) (hr : d.Ok) (hk : K (a.put o.dst (witV d))) :
  o.quiet Tryz.prog a (fun w' => ∃ s : Since w0, w' = s.w) K := q2h 74 x ho hx h _ Tryz.underlying74 rfl (witSz hr) hk
theorem x2z (x y : WitT) (hx : x.Ok) (hy : y.Ok) (w : World) : (Op.equalIn 10000 74 (witV x) (witV y)).run Tryz.prog w = .ok (sameWit x y) w := by
 unfold witV
 rw [run_equalIn_struct w 9999 74 _ _ (by kernel_rfl) (by kernel_rfl)]
 have bx0 : (bvs x.key).length = 32 := by rw [q0c, hx]
 have dx0 : (witCs x).drop 0 = bvs x.key ++ ([.string x.sig]) := rfl
 have ex0 : ((witCs x).drop 0).take 32 = bvs x.key := by rw [dx0]; exact take_left bx0
 have dx1 : (witCs x).drop 32 = [.string x.sig] := by
  rw [show 32 = 0 + 32 by rfl, ← List.drop_drop, dx0, drop_left bx0]
 have ex1 := q5o dx1
 have by0 : (bvs y.key).length = 32 := by rw [q0c, hy]
 have dy0 : (witCs y).drop 0 = bvs y.key ++ ([.string y.sig]) := rfl
 have ey0 : ((witCs y).drop 0).take 32 = bvs y.key := by rw [dy0]; exact take_left by0
 have dy1 : (witCs y).drop 32 = [.string y.sig] := by
  rw [show 32 = 0 + 32 by rfl, ← List.drop_drop, dy0, drop_left by0]
 have ey1 := q5o dy1
 unfold Program.fieldsOf
 rw [Tryz.underlying74]
 unfold sameWit
 refine q1n (by decide) (q1o ex0 w) (q1o ey0 w) (q2g 9997 x.key y.key hx hy w) ?_
 exact q5j (by decide) (run_part_plain w q7a ex1) (run_part_plain w q7a ey1) (by rw [run_equalIn_string w 9998 9 _ _ Tryz.underlying9, x0s])
theorem q6p {C : World → Prop} (p q : Operand) (ho : o.op = .binOp .neq 74 p q 74) {x y : WitT} (hx : a.eval p = witV x) (hy : a.eval q = witV y) (kx : x.Ok) (ky : y.Ok) (hk : K (a.put o.dst (.bool (!(sameWit x y))))) : o.quiet Tryz.prog a C K :=
 q2z _ (fun w _ => j0q 74 p q ho hx hy (by kernel_rfl) (x2z x y kx ky) w) hk
end
theorem z2g {fn : Func} {q : Tmp} (hr : fn.results = #[.cell q 74]) (tmps : Array Value) (w : World) {g : Nat} {d : WitT} (hp : tmps.getD q undef = .pointer (some ⟨g, 0, none⟩)) (h : WitAt w g d) :
  (results fn tmps).run Tryz.prog w = .ok (witV d) w :=
 results_cell_row hr tmps w g 74 (witCs d).toArray (0, 0) _ hp h.arr Tryz.underlying74 rfl (by rw [List.size_toArray]; exact witSz h.ok)
theorem Sl.shape {w : World} {v : Value} {sz : Nat} {α : Type} {f : α → List Value} {l : List α} (h : Sl w v sz (l.map f)) : ∃ a c, v = .slice a l.length c ∧ l.length ≤ c ∧ c ≤ maxLen ∧ (a = none → c = 0) := by
 obtain ⟨a, c, h1, h2, h3, _, h0, _⟩ := h
 rw [List.length_map] at h1 h2
 exact ⟨a, c, h1, h2, h3, h0⟩
theorem Sl.block {w : World} {v : Value} {sz : Nat} {α : Type} {f : α → List Value} {l : List α} (h : Sl w v sz (l.map f)) (h0 : 0 < l.length) :
  ∃ b k c, v = .slice (some ⟨b, k, none⟩) l.length c ∧ b < w.heap.size ∧ ∀ i x, l[i]? = some x → Cells w b (k + i * sz) (f x) := by
 obtain ⟨a, c, h1, h2, h3, h4, _, h5⟩ := h
 obtain ⟨b, k, rfl, hb, hc⟩ := h5 (by intro hn; rw [List.map_eq_nil_iff] at hn; subst hn; simp at h0)
 rw [List.length_map] at h1
 exact ⟨b, k, c, h1, hb, fun i x hx => hc i (f x) (by rw [List.getElem?_map, hx]; rfl)⟩
theorem q1i {α : Type} {l : List α} {Ok : α → Prop} (h : ∀ x ∈ l, Ok x) {k : Nat} (hk : k < l.length) : ∃ x, l[k]? = some x ∧ Ok x := ⟨l[k], List.getElem?_eq_getElem hk, h _ (List.getElem_mem _)⟩
theorem j0k {α : Type} (l : List α) (g : α → Bool) (k : Nat) (x : α) (h : l[k]? = some x) : (l.take (k + 1)).any g = ((l.take k).any g || g x) := by
 obtain ⟨hk, rfl⟩ := List.getElem?_eq_some_iff.1 h
 rw [List.take_succ_eq_append_getElem hk, List.any_append]
 simp
theorem q6x {α : Type} {l : List α} {g : α → Bool} {k : Nat} {x : α} (h : l[k]? = some x) (hg : g x = true) : l.any g = true := by
 rw [List.any_eq_true]
 exact ⟨x, List.mem_of_getElem? h, hg⟩
theorem j3v {α : Type} (l : List α) (g : α → Bool) : (l.any fun x => !(g x)) = !(l.all g) := by
 induction l with
 | nil => rfl
 | cons x r ih => rw [List.any_cons, List.all_cons, ih, Bool.not_and]
theorem j5q {α : Type} (g : α → List UInt8) (x y : α) : ∀ l : List α, risesB g (l ++ [x, y]) = (risesB g (l ++ [x]) && Op.bytesLess (g x) (g y))
 | [] => by simp [risesB]
 | [a] => by simp [risesB, Bool.and_assoc]
 | a :: b :: l => by
  have ih := j5q g x y (b :: l)
  simp only [List.cons_append, risesB] at ih ⊢
  rw [ih, Bool.and_assoc]
theorem q8m {α : Type} (g : α → List UInt8) (l : List α) (k : Nat) (x y : α) (hx : l[k - 1]? = some x) (hy : l[k]? = some y) (h0 : 0 < k) : risesB g (l.take (k + 1)) = (risesB g (l.take k) && Op.bytesLess (g x) (g y)) := by
 obtain ⟨j, rfl⟩ : ∃ j, k = j + 1 := ⟨k - 1, by omega⟩
 rw [Nat.add_sub_cancel] at hx
 obtain ⟨hj, rfl⟩ := List.getElem?_eq_some_iff.1 hx
 obtain ⟨hk, rfl⟩ := List.getElem?_eq_some_iff.1 hy
 rw [List.take_succ_eq_append_getElem hk, List.take_succ_eq_append_getElem hj, List.append_assoc]
 exact j5q g _ _ _
theorem q7g {α : Type} (g : α → List UInt8) : ∀ (l : List α) (k : Nat), risesB g (l.take k) = false → risesB g l = false
 | [], k, h => by simp [risesB] at h
 | [a], 0, h => by simp [risesB] at h
 | [a], k + 1, h => by simp [risesB] at h
 | a :: b :: l, 0, h => by simp [risesB] at h
 | a :: b :: l, 1, h => by simp [risesB] at h
 | a :: b :: l, k + 2, h => by
  simp only [List.take_succ_cons, risesB, Bool.and_eq_false_iff] at h ⊢
  rcases h with h | h
  ·exact .inl h
  ·exact .inr (q7g g (b :: l) (k + 1) (by rw [List.take_succ_cons]; exact h))
theorem j0f {α : Type} (g : α → List UInt8) (l : List α) : risesB g (l.take 1) = true := by
 cases l <;> simp [risesB]
def deedCs (v1 v2 v3 v4 v5 : Value) (f s t : Nat) : List Value := [v1, v2, .int .u64 f, .int .u64 s, .int .u64 t, v3, v4, v5]
def deedV (v1 v2 v3 v4 v5 : Value) (f s t : Nat) : Value := .agg (deedCs v1 v2 v3 v4 v5 f s t).toArray
/-- v is the deed d. -/
def DeedIs (w : World) (v : Value) (d : Deed) : Prop := ∃ v1 v2 v3 v4 v5, v = deedV v1 v2 v3 v4 v5 d.fee d.frm d.til ∧ Sl w v1 33 (d.ins.map inCs) ∧ Sl w v2 65 (d.outs.map outCs) ∧ Sl w v3 68 (d.certs.map certCs) ∧ Sl w v4 33 (d.pays.map payCs) ∧ Sl w v5 33 (d.wits.map witCs) ∧ d.Ok
theorem DeedIs.later {w w' : World} {v : Value} {d : Deed} (h : DeedIs w v d) (hb : Below w.heap.size w w') : DeedIs w' v d := by
 obtain ⟨v1, v2, v3, v4, v5, h0, h1, h2, h3, h4, h5, h6⟩ := h
 exact ⟨v1, v2, v3, v4, v5, h0, h1.later hb, h2.later hb, h3.later hb, h4.later hb, h5.later hb, h6⟩
theorem deedSize : (Tryz.prog.info? 29).map (·.size) = some 8 := by kernel_rfl
/-- A variable that holds a deed. -/
structure DAt (w : World) (g : Nat) (v1 v2 v3 v4 v5 : Value) (f s t : Nat) : Prop where
 o1 : v1.oneCell' = true
 o2 : v2.oneCell' = true
 o3 : v3.oneCell' = true
 o4 : v4.oneCell' = true
 o5 : v5.oneCell' = true
 arr : Arr w g 29 (deedCs v1 v2 v3 v4 v5 f s t)
section
variable {w w' : World} {g : Nat} {v1 v2 v3 v4 v5 : Value} {f s t : Nat}
theorem DAt.lt (h : DAt w g v1 v2 v3 v4 v5 f s t) : g < w.heap.size := Arr.lt h.arr
theorem DAt.later (h : DAt w g v1 v2 v3 v4 v5 f s t) (hb : Below w.heap.size w w') : DAt w' g v1 v2 v3 v4 v5 f s t := ⟨h.o1, h.o2, h.o3, h.o4, h.o5, h.arr.later hb⟩
theorem DAt.touch {S : Nat → Prop} (h : DAt w g v1 v2 v3 v4 v5 f s t) (ht : Touch S w w') (hS : ¬ S g) : DAt w' g v1 v2 v3 v4 v5 f s t := ⟨h.o1, h.o2, h.o3, h.o4, h.o5, h.arr.touch ht hS⟩
theorem DAt.tt {g' : Nat} (h : DAt w g v1 v2 v3 v4 v5 f s t) (ht : Touch (fun y => y = g') w w') (hS : ¬ g = g' := by omega) : DAt w' g v1 v2 v3 v4 v5 f s t := h.touch ht hS
theorem DAt.cells (h : DAt w g v1 v2 v3 v4 v5 f s t) : Cells w g 0 (deedCs v1 v2 v3 v4 v5 f s t) := Cells.arr h.arr
theorem DAt.c0 (h : DAt w g v1 v2 v3 v4 v5 f s t) : w.cell? ⟨g, 0, none⟩ = some v1 := h.cells.one
theorem DAt.c1 (h : DAt w g v1 v2 v3 v4 v5 f s t) : w.cell? ⟨g, 1, none⟩ = some v2 := h.cells.tail.one
theorem DAt.c2 (h : DAt w g v1 v2 v3 v4 v5 f s t) : w.cell? ⟨g, 2, none⟩ = some (.int .u64 f) := h.cells.tail.tail.one
theorem DAt.c3 (h : DAt w g v1 v2 v3 v4 v5 f s t) : w.cell? ⟨g, 3, none⟩ = some (.int .u64 s) := h.cells.tail.tail.tail.one
theorem DAt.c4 (h : DAt w g v1 v2 v3 v4 v5 f s t) : w.cell? ⟨g, 4, none⟩ = some (.int .u64 t) := h.cells.tail.tail.tail.tail.one
theorem DAt.c5 (h : DAt w g v1 v2 v3 v4 v5 f s t) : w.cell? ⟨g, 5, none⟩ = some v3 := h.cells.tail.tail.tail.tail.tail.one
theorem DAt.c6 (h : DAt w g v1 v2 v3 v4 v5 f s t) : w.cell? ⟨g, 6, none⟩ = some v4 := h.cells.tail.tail.tail.tail.tail.tail.one
theorem DAt.c7 (h : DAt w g v1 v2 v3 v4 v5 f s t) : w.cell? ⟨g, 7, none⟩ = some v5 := h.cells.tail.tail.tail.tail.tail.tail.tail.one
end
theorem Sl.one' {w : World} {v : Value} {sz : Nat} {els : List (List Value)} (h : Sl w v sz els) : v.oneCell' = true := by
 obtain ⟨_, _, rfl, _⟩ := h; rfl
section
variable {ops : Array Oper} {rest : List Oper} {o : Oper} {a : Act} {w w0 : World} {Q : Exit → Act → World → Prop} {K : Act → Prop} {v1 v2 v3 v4 v5 : Value} {f s t : Nat}
theorem q0x (hw : Region.wanted o (yielded ops a.tmps) = true) (x : Operand) (ho : o.op = .box 29 x) (hx : a.eval x = deedV v1 v2 v3 v4 v5 f s t) (o1 : v1.oneCell' = true) (o2 : v2.oneCell' = true) (o3 : v3.oneCell' = true) (o4 : v4.oneCell' = true) (o5 : v5.oneCell' = true)
  (hk : ∀ w2 g, w.heap.size ≤ g → DAt w2 g v1 v2 v3 v4 v5 f s t → Below w.heap.size w w2 → wpList Tryz.prog ops Q rest (a.put o.dst (.pointer (some ⟨g, 0, none⟩))) w2) : wpList Tryz.prog ops Q (o :: rest) a w :=
 q4j hw 29 x ho hx (cs := deedCs v1 v2 v3 v4 v5 f s t) (by simp [deedV, Value.cells]) (fun w2 g hg h hb => hk w2 g hg ⟨o1, o2, o3, o4, o5, h⟩ hb)
theorem q1g (hw : Region.wanted o (yielded ops a.tmps) = true) (x : Operand) (ho : o.op = .load 29 x) {g : Nat} (hx : a.eval x = .pointer (some ⟨g, 0, none⟩)) (h : DAt w g v1 v2 v3 v4 v5 f s t)
  (hk : wpList Tryz.prog ops Q rest (a.put o.dst (deedV v1 v2 v3 v4 v5 f s t)) w) : wpList Tryz.prog ops Q (o :: rest) a w :=
 q1t hw 29 x ho hx h.cells _ Tryz.underlying29 rfl deedSize hk
theorem q4v {P : Program} {ops : Array Oper} {rest : List Oper} {o : Oper} {a : Act} {w : World} {Q : Exit → Act → World → Prop} (hw : Region.wanted o (yielded ops a.tmps) = true) {t u : TypeId} (x y : Operand) (ho : o.op = .binOp .gtr t x y u) {k : IntKind} {m n : Int} (hx : a.eval x = .int k m) (hy : a.eval y = .int k n) {B : Bool} (hB : decide (n < m) = B) (hk : wpList P ops Q rest (a.put o.dst (.bool B)) w) : wpList P ops Q (o :: rest) a w :=
 q3l hw _ (by
  unfold execOp
  simp only [ho, hx, hy, Sem.run_bind]
  subst hB
  simp [eqGuard, binOp, Op.intCmp]) hk
end
end Go.Proofs.YtbbfnpfkbbpjgaaGreat
