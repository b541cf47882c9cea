/- api.Cert: its cells, in memory, made, boxed, filled, loaded, compared. -/
import Derived.Test.YtbbfnpfkbbpjgaaGreatQPElBase
namespace Go.Proofs.YtbbfnpfkbbpjgaaGreat
open Go.RowKit Go.Lib
set_option linter.unusedVariables false
set_option linter.unusedSimpArgs false

def certCs (x : CertT) : List Value := .int .u8 x.kind :: (bvs x.key ++ (bvs x.pool ++ (.int .u64 x.a :: (.int .u64 x.b :: ([.int .u64 x.c])))))
def certV (x : CertT) : Value := .agg (certCs x).toArray
theorem certCs_length {x : CertT} (h : x.Ok) : (certCs x).length = 68 := by
  have q1 : x.key.length = 32 := h.2.1
  have q2 : x.pool.length = 32 := h.2.2.1
  unfold certCs; simp [bvs_length, q1, q2]
theorem certCs_one (x : CertT) : ∀ v ∈ certCs x, v.oneCell' = true := by
  intro v hv
  unfold certCs at hv
  simp only [List.mem_cons, List.mem_append, List.not_mem_nil, or_false] at hv
  rcases hv with rfl | hv | hv | rfl | rfl | rfl
  · rfl
  · exact List.all_eq_true.1 (bvs_one x.key) v hv
  · exact List.all_eq_true.1 (bvs_one x.pool) v hv
  · rfl
  · rfl
  · rfl
structure CertAt (w : World) (g : Nat) (x : CertT) : Prop where
  ok : x.Ok
  arr : Arr w g 87 (certCs x)
section
variable {w w' : World} {g bb kk : Nat} {x : CertT}
theorem CertAt.lt (h : CertAt w g x) : g < w.heap.size := Arr.lt h.arr
theorem CertAt.later (h : CertAt w g x) (hb : Below w.heap.size w w') : CertAt w' g x := ⟨h.ok, h.arr.later hb⟩
theorem CertAt.below {B : Nat} (h : CertAt w g x) (hb : Below B w w') (hB : g < B) : CertAt w' g x := ⟨h.ok, Arr.below h.arr hb hB⟩
theorem CertAt.touch {S : Nat → Prop} (h : CertAt w g x) (ht : Touch S w w') (hS : ¬ S g) : CertAt w' g x := ⟨h.ok, h.arr.touch ht hS⟩
theorem CertAt.tt {g' : Nat} (h : CertAt w g x) (ht : Touch (fun y => y = g') w w') (hS : ¬ g = g' := by omega) : CertAt w' g x := h.touch ht hS
theorem CertAt.cells (h : CertAt w g x) : Cells w g 0 (certCs x) := Cells.arr h.arr
theorem certR0 (h : Cells w bb kk (certCs x)) : Cells w bb kk (.int .u8 x.kind :: (bvs x.key ++ (bvs x.pool ++ (.int .u64 x.a :: (.int .u64 x.b :: ([.int .u64 x.c])))))) := h
theorem CertAt.kind (h : CertAt w g x) : w.cell? ⟨g, 0, none⟩ = some (.int .u8 x.kind) := (certR0 h.cells).one
theorem certR1 (h : Cells w bb kk (certCs x)) (ok : x.Ok) : Cells w bb (kk + 1) (bvs x.key ++ (bvs x.pool ++ (.int .u64 x.a :: (.int .u64 x.b :: ([.int .u64 x.c]))))) := (certR0 h).tail
theorem CertAt.key (h : CertAt w g x) : Cells w g 1 (bvs x.key) := by
  have := certR1 h.cells h.ok
  rw [Nat.zero_add] at this
  exact Cells.left this
theorem certR2 (h : Cells w bb kk (certCs x)) (ok : x.Ok) : Cells w bb (kk + 33) (bvs x.pool ++ (.int .u64 x.a :: (.int .u64 x.b :: ([.int .u64 x.c])))) := by
  have := Cells.right (n := 32) (certR1 h ok) (by rw [bvs_length, ok.2.1])
  rwa [Nat.add_assoc] at this
theorem CertAt.pool (h : CertAt w g x) : Cells w g 33 (bvs x.pool) := by
  have := certR2 h.cells h.ok
  rw [Nat.zero_add] at this
  exact Cells.left this
theorem certR3 (h : Cells w bb kk (certCs x)) (ok : x.Ok) : Cells w bb (kk + 65) (.int .u64 x.a :: (.int .u64 x.b :: ([.int .u64 x.c]))) := by
  have := Cells.right (n := 32) (certR2 h ok) (by rw [bvs_length, ok.2.2.1])
  rwa [Nat.add_assoc] at this
theorem CertAt.a (h : CertAt w g x) : w.cell? ⟨g, 65, none⟩ = some (.int .u64 x.a) := by
  have := (certR3 h.cells h.ok).one
  rwa [Nat.zero_add] at this
theorem certR4 (h : Cells w bb kk (certCs x)) (ok : x.Ok) : Cells w bb (kk + 66) (.int .u64 x.b :: ([.int .u64 x.c])) := by
  have := (certR3 h ok).tail
  rwa [Nat.add_assoc] at this
theorem CertAt.b (h : CertAt w g x) : w.cell? ⟨g, 66, none⟩ = some (.int .u64 x.b) := by
  have := (certR4 h.cells h.ok).one
  rwa [Nat.zero_add] at this
theorem certR5 (h : Cells w bb kk (certCs x)) (ok : x.Ok) : Cells w bb (kk + 67) ([.int .u64 x.c]) := by
  have := (certR4 h ok).tail
  rwa [Nat.add_assoc] at this
theorem CertAt.c (h : CertAt w g x) : w.cell? ⟨g, 67, none⟩ = some (.int .u64 x.c) := by
  have := (certR5 h.cells h.ok).one
  rwa [Nat.zero_add] at this
end
theorem certSize : (Tryz.prog.info? 87).map (·.size) = some 68 := by kernel_rfl
theorem certSz {x : CertT} (h : x.Ok) : (Tryz.prog.info? 87).map (·.size) = some (certCs x).length := by rw [certCs_length h]; exact certSize
def cert0 : CertT := ⟨0, zero32, zero32, 0, 0, 0⟩
theorem cert0_ok : cert0.Ok := ⟨by decide, rfl, rfl, by decide, by decide, by decide⟩
theorem certZero : (Tryz.prog.info? 87).bind (·.zero) = some (certV cert0) := by kernel_rfl
section
variable {ops : Array Oper} {rest : List Oper} {o : Oper} {a : Act} {w w0 : World} {Q : Exit → Act → World → Prop} {K : Act → Prop}
theorem wpl_box_cert (hw : Region.wanted o (yielded ops a.tmps) = true) (x : Operand) (ho : o.op = .box 87 x) {d : CertT} (hx : a.eval x = certV d) (hr : d.Ok)
    (hk : ∀ w2 g, w.heap.size ≤ g → CertAt w2 g d → Below w.heap.size w w2 → wpList Tryz.prog ops Q rest (a.put o.dst (.pointer (some ⟨g, 0, none⟩))) w2) : wpList Tryz.prog ops Q (o :: rest) a w :=
  wpl_box hw 87 x ho hx (cs := certCs d) (by simp [certV, Value.cells]) (fun w2 g hg h hb => hk w2 g hg ⟨hr, h⟩ hb)
theorem wpl_mk_cert (hw : Region.wanted o (yielded ops a.tmps) = true) (ho : o.op = .alloc 87)
    (hk : ∀ w2 g, w.heap.size ≤ g → CertAt w2 g cert0 → Below w.heap.size w w2 → wpList Tryz.prog ops Q rest (a.put o.dst (.pointer (some ⟨g, 0, none⟩))) w2) : wpList Tryz.prog ops Q (o :: rest) a w :=
  wpl_mk hw 87 ho certZero (cs := certCs cert0) (by simp [certV, Value.cells]) (fun w2 g hg h hb => hk w2 g hg ⟨cert0_ok, h⟩ hb)
theorem wpl_set_cert (hgd : o.guard = none) (x y : Operand) (ho : o.op = .store 87 x y) {g : Nat} {d0 d : CertT} (hx : a.eval x = .pointer (some ⟨g, 0, none⟩)) (hy : a.eval y = certV d) (hr : d.Ok) (h : CertAt w g d0)
    (hk : ∀ w2, CertAt w2 g d → Touch (fun b => b = g) w w2 → wpList Tryz.prog ops Q rest (a.put o.dst undef) w2) : wpList Tryz.prog ops Q (o :: rest) a w :=
  wpl_fill hgd 87 x y ho hx hy h.arr (certSz hr) (by rw [certCs_length hr, certCs_length h.ok]) (certCs_one d) (fun w2 ha ht => hk w2 ⟨hr, ha⟩ ht)
theorem wpl_ld_cert (hw : Region.wanted o (yielded ops a.tmps) = true) (x : Operand) (ho : o.op = .load 87 x) {b k : Nat} {d : CertT} (hx : a.eval x = .pointer (some ⟨b, k, none⟩)) (h : Cells w b k (certCs d)) (hr : d.Ok)
    (hk : wpList Tryz.prog ops Q rest (a.put o.dst (certV d)) w) : wpList Tryz.prog ops Q (o :: rest) a w :=
  wpl_load_cells hw 87 x ho hx h _ Tryz.underlying87 rfl (certSz hr) hk
theorem since_ld_cert (x : Operand) (ho : o.op = .load 87 x) {b k : Nat} {d : CertT} (hx : a.eval x = .pointer (some ⟨b, k, none⟩)) (h : Cells w0 b k (certCs d)) (hr : d.Ok) (hk : K (a.put o.dst (certV d))) :
    o.quiet Tryz.prog a (fun w' => ∃ s : Since w0, w' = s.w) K := since_load_cells 87 x ho hx h _ Tryz.underlying87 rfl (certSz hr) hk
set_option maxRecDepth 100000 in
theorem run_eq_cert (x y : CertT) (hx : x.Ok) (hy : y.Ok) (w : World) : (Op.equalIn 10000 87 (certV x) (certV y)).run Tryz.prog w = .ok (sameCert x y) w := by
  unfold certV
  rw [run_equalIn_struct w 9999 87 _ _ (by kernel_rfl) (by kernel_rfl)]
  have bx1 : (bvs x.key).length = 32 := by rw [bvs_length, hx.2.1]
  have bx2 : (bvs x.pool).length = 32 := by rw [bvs_length, hx.2.2.1]
  have dx0 : (certCs x).drop 0 = .int .u8 x.kind :: (bvs x.key ++ (bvs x.pool ++ (.int .u64 x.a :: (.int .u64 x.b :: ([.int .u64 x.c]))))) := rfl
  have ex0 := at_of dx0
  have dx1 : (certCs x).drop 1 = bvs x.key ++ (bvs x.pool ++ (.int .u64 x.a :: (.int .u64 x.b :: ([.int .u64 x.c])))) := by
    rw [show 1 = 0 + 1 by rfl, ← List.drop_drop, dx0]; rfl
  have ex1 : ((certCs x).drop 1).take 32 = bvs x.key := by rw [dx1]; exact take_left bx1
  have dx2 : (certCs x).drop 33 = bvs x.pool ++ (.int .u64 x.a :: (.int .u64 x.b :: ([.int .u64 x.c]))) := by
    rw [show 33 = 1 + 32 by rfl, ← List.drop_drop, dx1, drop_left bx1]
  have ex2 : ((certCs x).drop 33).take 32 = bvs x.pool := by rw [dx2]; exact take_left bx2
  have dx3 : (certCs x).drop 65 = .int .u64 x.a :: (.int .u64 x.b :: ([.int .u64 x.c])) := by
    rw [show 65 = 33 + 32 by rfl, ← List.drop_drop, dx2, drop_left bx2]
  have ex3 := at_of dx3
  have dx4 : (certCs x).drop 66 = .int .u64 x.b :: ([.int .u64 x.c]) := by
    rw [show 66 = 65 + 1 by rfl, ← List.drop_drop, dx3]; rfl
  have ex4 := at_of dx4
  have dx5 : (certCs x).drop 67 = [.int .u64 x.c] := by
    rw [show 67 = 66 + 1 by rfl, ← List.drop_drop, dx4]; rfl
  have ex5 := at_of dx5
  have by1 : (bvs y.key).length = 32 := by rw [bvs_length, hy.2.1]
  have by2 : (bvs y.pool).length = 32 := by rw [bvs_length, hy.2.2.1]
  have dy0 : (certCs y).drop 0 = .int .u8 y.kind :: (bvs y.key ++ (bvs y.pool ++ (.int .u64 y.a :: (.int .u64 y.b :: ([.int .u64 y.c]))))) := rfl
  have ey0 := at_of dy0
  have dy1 : (certCs y).drop 1 = bvs y.key ++ (bvs y.pool ++ (.int .u64 y.a :: (.int .u64 y.b :: ([.int .u64 y.c])))) := by
    rw [show 1 = 0 + 1 by rfl, ← List.drop_drop, dy0]; rfl
  have ey1 : ((certCs y).drop 1).take 32 = bvs y.key := by rw [dy1]; exact take_left by1
  have dy2 : (certCs y).drop 33 = bvs y.pool ++ (.int .u64 y.a :: (.int .u64 y.b :: ([.int .u64 y.c]))) := by
    rw [show 33 = 1 + 32 by rfl, ← List.drop_drop, dy1, drop_left by1]
  have ey2 : ((certCs y).drop 33).take 32 = bvs y.pool := by rw [dy2]; exact take_left by2
  have dy3 : (certCs y).drop 65 = .int .u64 y.a :: (.int .u64 y.b :: ([.int .u64 y.c])) := by
    rw [show 65 = 33 + 32 by rfl, ← List.drop_drop, dy2, drop_left by2]
  have ey3 := at_of dy3
  have dy4 : (certCs y).drop 66 = .int .u64 y.b :: ([.int .u64 y.c]) := by
    rw [show 66 = 65 + 1 by rfl, ← List.drop_drop, dy3]; rfl
  have ey4 := at_of dy4
  have dy5 : (certCs y).drop 67 = [.int .u64 y.c] := by
    rw [show 67 = 66 + 1 by rfl, ← List.drop_drop, dy4]; rfl
  have ey5 := at_of dy5
  unfold Program.fieldsOf
  rw [Tryz.underlying87]
  unfold sameCert
  refine field_two (by decide) (run_part_plain w plain_u8 ex0) (run_part_plain w plain_u8 ey0) (by rw [run_equalIn_int w 9998 5 .u8 .u8 _ _ Tryz.underlying5, nat_beq]) ?_
  refine field_two (by decide) (part_hash ex1 w) (part_hash ey1 w) (run_two_hash 9997 x.key y.key hx.2.1 hy.2.1 w) ?_
  refine field_two (by decide) (part_hash ex2 w) (part_hash ey2 w) (run_two_hash 9997 x.pool y.pool hx.2.2.1 hy.2.2.1 w) ?_
  refine field_two (by decide) (run_part_plain w plain_u64 ex3) (run_part_plain w plain_u64 ey3) (by rw [run_equalIn_int w 9998 24 .u64 .u64 _ _ Tryz.underlying24, nat_beq]) ?_
  refine field_two (by decide) (run_part_plain w plain_u64 ex4) (run_part_plain w plain_u64 ey4) (by rw [run_equalIn_int w 9998 24 .u64 .u64 _ _ Tryz.underlying24, nat_beq]) ?_
  exact field_last (by decide) (run_part_plain w plain_u64 ex5) (run_part_plain w plain_u64 ey5) (by rw [run_equalIn_int w 9998 24 .u64 .u64 _ _ Tryz.underlying24, nat_beq])
theorem wpl_eq_cert (hw : Region.wanted o (yielded ops a.tmps) = true) (p q : Operand) (ho : o.op = .binOp .eql 87 p q 87) {x y : CertT} (hx : a.eval p = certV x) (hy : a.eval q = certV y) (kx : x.Ok) (ky : y.Ok) (hk : wpList Tryz.prog ops Q rest (a.put o.dst (.bool (sameCert x y))) w) : wpList Tryz.prog ops Q (o :: rest) a w :=
  wpl_value hw _ (exec_eq 87 p q ho hx hy (by kernel_rfl) (run_eq_cert x y kx ky) w) hk
theorem quiet_ne_cert {C : World → Prop} (p q : Operand) (ho : o.op = .binOp .neq 87 p q 87) {x y : CertT} (hx : a.eval p = certV x) (hy : a.eval q = certV y) (kx : x.Ok) (ky : y.Ok) (hk : K (a.put o.dst (.bool (!(sameCert x y))))) : o.quiet Tryz.prog a C K :=
  quiet_value _ (fun w _ => exec_ne 87 p q ho hx hy (by kernel_rfl) (run_eq_cert x y kx ky) w) hk
end
theorem ret_cert {fn : Func} {q : Tmp} (hr : fn.results = #[.cell q 87]) (tmps : Array Value) (w : World) {g : Nat} {d : CertT} (hp : tmps.getD q undef = .pointer (some ⟨g, 0, none⟩)) (h : CertAt w g d) :
    (results fn tmps).run Tryz.prog w = .ok (certV d) w :=
  results_cell_row hr tmps w g 87 (certCs d).toArray (0, 0) _ hp h.arr Tryz.underlying87 rfl (by rw [List.size_toArray]; exact certSz h.ok)
end Go.Proofs.YtbbfnpfkbbpjgaaGreat

/- api.Pay: its cells, in memory, made, boxed, filled, loaded, compared. -/
namespace Go.Proofs.YtbbfnpfkbbpjgaaGreat
open Go.RowKit Go.Lib
set_option linter.unusedVariables false
set_option linter.unusedSimpArgs false

def payCs (x : PayT) : List Value := bvs x.key ++ ([.int .u64 x.amount])
def payV (x : PayT) : Value := .agg (payCs x).toArray
theorem payCs_length {x : PayT} (h : x.Ok) : (payCs x).length = 33 := by
  have q0 : x.key.length = 32 := h.1
  unfold payCs; simp [bvs_length, q0]
theorem payCs_one (x : PayT) : ∀ v ∈ payCs x, v.oneCell' = true := by
  intro v hv
  unfold payCs at hv
  simp only [List.mem_cons, List.mem_append, List.not_mem_nil, or_false] at hv
  rcases hv with hv | rfl
  · exact List.all_eq_true.1 (bvs_one x.key) v hv
  · rfl
structure PayAt (w : World) (g : Nat) (x : PayT) : Prop where
  ok : x.Ok
  arr : Arr w g 89 (payCs x)
section
variable {w w' : World} {g bb kk : Nat} {x : PayT}
theorem PayAt.lt (h : PayAt w g x) : g < w.heap.size := Arr.lt h.arr
theorem PayAt.later (h : PayAt w g x) (hb : Below w.heap.size w w') : PayAt w' g x := ⟨h.ok, h.arr.later hb⟩
theorem PayAt.below {B : Nat} (h : PayAt w g x) (hb : Below B w w') (hB : g < B) : PayAt w' g x := ⟨h.ok, Arr.below h.arr hb hB⟩
theorem PayAt.touch {S : Nat → Prop} (h : PayAt w g x) (ht : Touch S w w') (hS : ¬ S g) : PayAt w' g x := ⟨h.ok, h.arr.touch ht hS⟩
theorem PayAt.tt {g' : Nat} (h : PayAt w g x) (ht : Touch (fun y => y = g') w w') (hS : ¬ g = g' := by omega) : PayAt w' g x := h.touch ht hS
theorem PayAt.cells (h : PayAt w g x) : Cells w g 0 (payCs x) := Cells.arr h.arr
theorem payR0 (h : Cells w bb kk (payCs x)) : Cells w bb kk (bvs x.key ++ ([.int .u64 x.amount])) := h
theorem PayAt.key (h : PayAt w g x) : Cells w g 0 (bvs x.key) := Cells.left (payR0 h.cells)
theorem payR1 (h : Cells w bb kk (payCs x)) (ok : x.Ok) : Cells w bb (kk + 32) ([.int .u64 x.amount]) := Cells.right (n := 32) (payR0 h) (by rw [bvs_length, show x.key.length = 32 from ok.1])
theorem PayAt.amount (h : PayAt w g x) : w.cell? ⟨g, 32, none⟩ = some (.int .u64 x.amount) := by
  have := (payR1 h.cells h.ok).one
  rwa [Nat.zero_add] at this
end
theorem paySize : (Tryz.prog.info? 89).map (·.size) = some 33 := by kernel_rfl
theorem paySz {x : PayT} (h : x.Ok) : (Tryz.prog.info? 89).map (·.size) = some (payCs x).length := by rw [payCs_length h]; exact paySize
def pay0 : PayT := ⟨zero32, 0⟩
theorem pay0_ok : pay0.Ok := ⟨rfl, by decide⟩
theorem payZero : (Tryz.prog.info? 89).bind (·.zero) = some (payV pay0) := by kernel_rfl
section
variable {ops : Array Oper} {rest : List Oper} {o : Oper} {a : Act} {w w0 : World} {Q : Exit → Act → World → Prop} {K : Act → Prop}
theorem wpl_box_pay (hw : Region.wanted o (yielded ops a.tmps) = true) (x : Operand) (ho : o.op = .box 89 x) {d : PayT} (hx : a.eval x = payV d) (hr : d.Ok)
    (hk : ∀ w2 g, w.heap.size ≤ g → PayAt w2 g d → Below w.heap.size w w2 → wpList Tryz.prog ops Q rest (a.put o.dst (.pointer (some ⟨g, 0, none⟩))) w2) : wpList Tryz.prog ops Q (o :: rest) a w :=
  wpl_box hw 89 x ho hx (cs := payCs d) (by simp [payV, Value.cells]) (fun w2 g hg h hb => hk w2 g hg ⟨hr, h⟩ hb)
theorem wpl_mk_pay (hw : Region.wanted o (yielded ops a.tmps) = true) (ho : o.op = .alloc 89)
    (hk : ∀ w2 g, w.heap.size ≤ g → PayAt w2 g pay0 → Below w.heap.size w w2 → wpList Tryz.prog ops Q rest (a.put o.dst (.pointer (some ⟨g, 0, none⟩))) w2) : wpList Tryz.prog ops Q (o :: rest) a w :=
  wpl_mk hw 89 ho payZero (cs := payCs pay0) (by simp [payV, Value.cells]) (fun w2 g hg h hb => hk w2 g hg ⟨pay0_ok, h⟩ hb)
theorem wpl_set_pay (hgd : o.guard = none) (x y : Operand) (ho : o.op = .store 89 x y) {g : Nat} {d0 d : PayT} (hx : a.eval x = .pointer (some ⟨g, 0, none⟩)) (hy : a.eval y = payV d) (hr : d.Ok) (h : PayAt w g d0)
    (hk : ∀ w2, PayAt w2 g d → Touch (fun b => b = g) w w2 → wpList Tryz.prog ops Q rest (a.put o.dst undef) w2) : wpList Tryz.prog ops Q (o :: rest) a w :=
  wpl_fill hgd 89 x y ho hx hy h.arr (paySz hr) (by rw [payCs_length hr, payCs_length h.ok]) (payCs_one d) (fun w2 ha ht => hk w2 ⟨hr, ha⟩ ht)
theorem wpl_ld_pay (hw : Region.wanted o (yielded ops a.tmps) = true) (x : Operand) (ho : o.op = .load 89 x) {b k : Nat} {d : PayT} (hx : a.eval x = .pointer (some ⟨b, k, none⟩)) (h : Cells w b k (payCs d)) (hr : d.Ok)
    (hk : wpList Tryz.prog ops Q rest (a.put o.dst (payV d)) w) : wpList Tryz.prog ops Q (o :: rest) a w :=
  wpl_load_cells hw 89 x ho hx h _ Tryz.underlying89 rfl (paySz hr) hk
theorem since_ld_pay (x : Operand) (ho : o.op = .load 89 x) {b k : Nat} {d : PayT} (hx : a.eval x = .pointer (some ⟨b, k, none⟩)) (h : Cells w0 b k (payCs d)) (hr : d.Ok) (hk : K (a.put o.dst (payV d))) :
    o.quiet Tryz.prog a (fun w' => ∃ s : Since w0, w' = s.w) K := since_load_cells 89 x ho hx h _ Tryz.underlying89 rfl (paySz hr) hk
set_option maxRecDepth 100000 in
theorem run_eq_pay (x y : PayT) (hx : x.Ok) (hy : y.Ok) (w : World) : (Op.equalIn 10000 89 (payV x) (payV y)).run Tryz.prog w = .ok (samePay x y) w := by
  unfold payV
  rw [run_equalIn_struct w 9999 89 _ _ (by kernel_rfl) (by kernel_rfl)]
  have bx0 : (bvs x.key).length = 32 := by rw [bvs_length, hx.1]
  have dx0 : (payCs x).drop 0 = bvs x.key ++ ([.int .u64 x.amount]) := rfl
  have ex0 : ((payCs x).drop 0).take 32 = bvs x.key := by rw [dx0]; exact take_left bx0
  have dx1 : (payCs x).drop 32 = [.int .u64 x.amount] := by
    rw [show 32 = 0 + 32 by rfl, ← List.drop_drop, dx0, drop_left bx0]
  have ex1 := at_of dx1
  have by0 : (bvs y.key).length = 32 := by rw [bvs_length, hy.1]
  have dy0 : (payCs y).drop 0 = bvs y.key ++ ([.int .u64 y.amount]) := rfl
  have ey0 : ((payCs y).drop 0).take 32 = bvs y.key := by rw [dy0]; exact take_left by0
  have dy1 : (payCs y).drop 32 = [.int .u64 y.amount] := by
    rw [show 32 = 0 + 32 by rfl, ← List.drop_drop, dy0, drop_left by0]
  have ey1 := at_of dy1
  unfold Program.fieldsOf
  rw [Tryz.underlying89]
  unfold samePay
  refine field_two (by decide) (part_hash ex0 w) (part_hash ey0 w) (run_two_hash 9997 x.key y.key hx.1 hy.1 w) ?_
  exact field_last (by decide) (run_part_plain w plain_u64 ex1) (run_part_plain w plain_u64 ey1) (by rw [run_equalIn_int w 9998 24 .u64 .u64 _ _ Tryz.underlying24, nat_beq])
theorem quiet_ne_pay {C : World → Prop} (p q : Operand) (ho : o.op = .binOp .neq 89 p q 89) {x y : PayT} (hx : a.eval p = payV x) (hy : a.eval q = payV y) (kx : x.Ok) (ky : y.Ok) (hk : K (a.put o.dst (.bool (!(samePay x y))))) : o.quiet Tryz.prog a C K :=
  quiet_value _ (fun w _ => exec_ne 89 p q ho hx hy (by kernel_rfl) (run_eq_pay x y kx ky) w) hk
end
theorem ret_pay {fn : Func} {q : Tmp} (hr : fn.results = #[.cell q 89]) (tmps : Array Value) (w : World) {g : Nat} {d : PayT} (hp : tmps.getD q undef = .pointer (some ⟨g, 0, none⟩)) (h : PayAt w g d) :
    (results fn tmps).run Tryz.prog w = .ok (payV d) w :=
  results_cell_row hr tmps w g 89 (payCs d).toArray (0, 0) _ hp h.arr Tryz.underlying89 rfl (by rw [List.size_toArray]; exact paySz h.ok)
end Go.Proofs.YtbbfnpfkbbpjgaaGreat
