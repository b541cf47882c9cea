/- Rights and heads in memory; the steps of a walk that make, load and fill them. -/
import Derived.Test.YtofjjpielkfloaaQDig8
namespace Go.Proofs.Ytofjjpielkfloaa
open Go.RowKit Go.Lib
set_option linter.unusedVariables false
set_option linter.unusedSimpArgs false

/-- A right. -/
structure Rt where
  hot : List UInt8
  counter : Nat
  start : Nat
  sig : ByteArray
/-- A head. -/
structure Hd where
  slot : Nat
  number : Nat
  prev : List UInt8
  pool : List UInt8
  body : List UInt8
  size : Nat
  many : Nat
  right : Rt
  sig : ByteArray
structure Rt.Ok (r : Rt) : Prop where
  hot : r.hot.length = 32
  counter : r.counter < 18446744073709551616
  start : r.start < 18446744073709551616
structure Hd.Ok (h : Hd) : Prop where
  slot : h.slot < 18446744073709551616
  number : h.number < 18446744073709551616
  prev : h.prev.length = 32
  pool : h.pool.length = 32
  body : h.body.length = 32
  size : h.size < 18446744073709551616
  many : h.many < 18446744073709551616
  right : h.right.Ok
def rtCs (r : Rt) : List Value := bvs r.hot ++ [.int .u64 r.counter, .int .u64 r.start, .string r.sig]
def rtV (r : Rt) : Value := .agg (rtCs r).toArray
def hdCs (h : Hd) : List Value := .int .u64 h.slot :: .int .u64 h.number :: (bvs h.prev ++ (bvs h.pool ++ (bvs h.body ++ (.int .u64 h.size :: .int .u64 h.many :: (rtCs h.right ++ [.string h.sig])))))
def hdV (h : Hd) : Value := .agg (hdCs h).toArray
theorem rtCs_length {r : Rt} (h : r.Ok) : (rtCs r).length = 35 := by unfold rtCs; simp [bvs_length, h.hot]
theorem hdCs_length {h : Hd} (k : h.Ok) : (hdCs h).length = 136 := by unfold hdCs; simp [bvs_length, k.prev, k.pool, k.body, rtCs_length k.right]
theorem rtCs_one (r : Rt) : ∀ v ∈ rtCs r, v.oneCell' = true := by
  intro v hv
  unfold rtCs at hv
  simp only [List.mem_cons, List.mem_append, List.not_mem_nil, or_false] at hv
  rcases hv with hv | rfl | rfl | rfl
  · exact List.all_eq_true.1 (bvs_one r.hot) v hv
  · rfl
  · rfl
  · rfl
theorem hdCs_one (h : Hd) : ∀ v ∈ hdCs h, v.oneCell' = true := by
  intro v hv
  unfold hdCs at hv
  simp only [List.mem_cons, List.mem_append, List.not_mem_nil, or_false] at hv
  rcases hv with rfl | rfl | hv | hv | hv | rfl | rfl | hv | rfl
  · rfl
  · rfl
  · exact List.all_eq_true.1 (bvs_one h.prev) v hv
  · exact List.all_eq_true.1 (bvs_one h.pool) v hv
  · exact List.all_eq_true.1 (bvs_one h.body) v hv
  · rfl
  · rfl
  · exact rtCs_one _ v hv
  · rfl
structure RtAt (w : World) (g : Nat) (r : Rt) : Prop where
  ok : r.Ok
  arr : Arr w g 48 (rtCs r)
structure HdAt (w : World) (g : Nat) (h : Hd) : Prop where
  ok : h.Ok
  arr : Arr w g 50 (hdCs h)
section
variable {w w' : World} {g : Nat} {r : Rt}
theorem RtAt.lt (h : RtAt w g r) : g < w.heap.size := Arr.lt h.arr
theorem RtAt.later (h : RtAt w g r) (hb : Below w.heap.size w w') : RtAt w' g r := ⟨h.ok, h.arr.later hb⟩
theorem RtAt.below {B : Nat} (h : RtAt w g r) (hb : Below B w w') (hB : g < B) : RtAt w' g r := ⟨h.ok, Arr.below h.arr hb hB⟩
theorem RtAt.touch {S : Nat → Prop} (h : RtAt w g r) (ht : Touch S w w') (hS : ¬ S g) : RtAt w' g r := ⟨h.ok, h.arr.touch ht hS⟩
theorem RtAt.tt {g' : Nat} (h : RtAt w g r) (ht : Touch (fun x => x = g') w w') (hS : ¬ g = g' := by omega) : RtAt w' g r := h.touch ht hS
theorem RtAt.cells (h : RtAt w g r) : Cells w g 0 (rtCs r) := Cells.arr h.arr
theorem rt_hot {o : Nat} (h : Cells w g o (rtCs r)) : Cells w g o (bvs r.hot) := Cells.left h
theorem rt_rest {o : Nat} (h : Cells w g o (rtCs r)) (k : r.Ok) : Cells w g (o + 32) [.int .u64 r.counter, .int .u64 r.start, .string r.sig] := Cells.right (n := 32) h (by rw [bvs_length, k.hot])
theorem RtAt.c0 (h : RtAt w g r) : Cells w g 0 (bvs r.hot) := rt_hot h.cells
theorem RtAt.c32 (h : RtAt w g r) : w.cell? ⟨g, 32, none⟩ = some (.int .u64 r.counter) := (rt_rest h.cells h.ok).one
theorem RtAt.c33 (h : RtAt w g r) : w.cell? ⟨g, 33, none⟩ = some (.int .u64 r.start) := (rt_rest h.cells h.ok).tail.one
theorem RtAt.c34 (h : RtAt w g r) : w.cell? ⟨g, 34, none⟩ = some (.string r.sig) := (rt_rest h.cells h.ok).tail.tail.one
variable {d : Hd}
theorem HdAt.lt (h : HdAt w g d) : g < w.heap.size := Arr.lt h.arr
theorem HdAt.later (h : HdAt w g d) (hb : Below w.heap.size w w') : HdAt w' g d := ⟨h.ok, h.arr.later hb⟩
theorem HdAt.below {B : Nat} (h : HdAt w g d) (hb : Below B w w') (hB : g < B) : HdAt w' g d := ⟨h.ok, Arr.below h.arr hb hB⟩
theorem HdAt.touch {S : Nat → Prop} (h : HdAt w g d) (ht : Touch S w w') (hS : ¬ S g) : HdAt w' g d := ⟨h.ok, h.arr.touch ht hS⟩
theorem HdAt.tt {g' : Nat} (h : HdAt w g d) (ht : Touch (fun x => x = g') w w') (hS : ¬ g = g' := by omega) : HdAt w' g d := h.touch ht hS
theorem HdAt.cells (h : HdAt w g d) : Cells w g 0 (hdCs d) := Cells.arr h.arr
theorem HdAt.r34 (h : HdAt w g d) : Cells w g 34 (bvs d.pool ++ (bvs d.body ++ (.int .u64 d.size :: .int .u64 d.many :: (rtCs d.right ++ [.string d.sig])))) := Cells.right (n := 32) h.cells.tail.tail (by rw [bvs_length, h.ok.prev])
theorem HdAt.r66 (h : HdAt w g d) : Cells w g 66 (bvs d.body ++ (.int .u64 d.size :: .int .u64 d.many :: (rtCs d.right ++ [.string d.sig]))) := Cells.right (n := 32) h.r34 (by rw [bvs_length, h.ok.pool])
theorem HdAt.r98 (h : HdAt w g d) : Cells w g 98 (.int .u64 d.size :: .int .u64 d.many :: (rtCs d.right ++ [.string d.sig])) := Cells.right (n := 32) h.r66 (by rw [bvs_length, h.ok.body])
theorem HdAt.r100 (h : HdAt w g d) : Cells w g 100 (rtCs d.right ++ [.string d.sig]) := h.r98.tail.tail
theorem HdAt.c0 (h : HdAt w g d) : w.cell? ⟨g, 0, none⟩ = some (.int .u64 d.slot) := h.cells.one
theorem HdAt.c1 (h : HdAt w g d) : w.cell? ⟨g, 1, none⟩ = some (.int .u64 d.number) := h.cells.tail.one
theorem HdAt.c2 (h : HdAt w g d) : Cells w g 2 (bvs d.prev) := Cells.left h.cells.tail.tail
theorem HdAt.c34 (h : HdAt w g d) : Cells w g 34 (bvs d.pool) := Cells.left h.r34
theorem HdAt.c66 (h : HdAt w g d) : Cells w g 66 (bvs d.body) := Cells.left h.r66
theorem HdAt.c98 (h : HdAt w g d) : w.cell? ⟨g, 98, none⟩ = some (.int .u64 d.size) := h.r98.one
theorem HdAt.c99 (h : HdAt w g d) : w.cell? ⟨g, 99, none⟩ = some (.int .u64 d.many) := h.r98.tail.one
theorem HdAt.c100 (h : HdAt w g d) : Cells w g 100 (rtCs d.right) := Cells.left h.r100
theorem HdAt.ch (h : HdAt w g d) : Cells w g 100 (bvs d.right.hot) := rt_hot h.c100
theorem HdAt.c132 (h : HdAt w g d) : w.cell? ⟨g, 132, none⟩ = some (.int .u64 d.right.counter) := (rt_rest h.c100 h.ok.right).one
theorem HdAt.c133 (h : HdAt w g d) : w.cell? ⟨g, 133, none⟩ = some (.int .u64 d.right.start) := (rt_rest h.c100 h.ok.right).tail.one
theorem HdAt.c134 (h : HdAt w g d) : w.cell? ⟨g, 134, none⟩ = some (.string d.right.sig) := (rt_rest h.c100 h.ok.right).tail.tail.one
theorem HdAt.c135 (h : HdAt w g d) : w.cell? ⟨g, 135, none⟩ = some (.string d.sig) := (Cells.right (n := 35) h.r100 (rtCs_length h.ok.right)).one
end
theorem rtSize : (Try.prog.info? 48).map (·.size) = some 35 := by kernel_rfl
theorem hdSize : (Try.prog.info? 50).map (·.size) = some 136 := by kernel_rfl
theorem strSize : (Try.prog.info? 9).map (·.size) = some 1 := by kernel_rfl
def rt0 : Rt := ⟨zero32, 0, 0, ByteArray.empty⟩
def hd0 : Hd := ⟨0, 0, zero32, zero32, zero32, 0, 0, rt0, ByteArray.empty⟩
theorem rt0_ok : rt0.Ok := ⟨rfl, by decide, by decide⟩
theorem hd0_ok : hd0.Ok := ⟨by decide, by decide, rfl, rfl, rfl, by decide, by decide, rt0_ok⟩
theorem rtZero : (Try.prog.info? 48).bind (·.zero) = some (rtV rt0) := by kernel_rfl
theorem hdZero : (Try.prog.info? 50).bind (·.zero) = some (hdV hd0) := by kernel_rfl
theorem hdBuilt0 : Try.prog.built 50 [] = some (hdCs hd0).toArray := by kernel_rfl
section
variable {ops : Array Oper} {rest : List Oper} {o : Oper} {a : Act} {w w0 : World} {Q : Exit → Act → World → Prop} {K : Act → Prop}
theorem wpl_box_rt (hw : Region.wanted o (yielded ops a.tmps) = true) (x : Operand) (ho : o.op = .box 48 x) {r : Rt} (hx : a.eval x = rtV r) (hr : r.Ok)
    (hk : ∀ w2 g, w.heap.size ≤ g → RtAt w2 g r → Below w.heap.size w w2 → wpList Try.prog ops Q rest (a.put o.dst (.pointer (some ⟨g, 0, none⟩))) w2) : wpList Try.prog ops Q (o :: rest) a w :=
  wpl_box hw 48 x ho hx (cs := rtCs r) (by simp [rtV, Value.cells]) (fun w2 g hg h hb => hk w2 g hg ⟨hr, h⟩ hb)
theorem wpl_box_hd (hw : Region.wanted o (yielded ops a.tmps) = true) (x : Operand) (ho : o.op = .box 50 x) {d : Hd} (hx : a.eval x = hdV d) (hr : d.Ok)
    (hk : ∀ w2 g, w.heap.size ≤ g → HdAt w2 g d → Below w.heap.size w w2 → wpList Try.prog ops Q rest (a.put o.dst (.pointer (some ⟨g, 0, none⟩))) w2) : wpList Try.prog ops Q (o :: rest) a w :=
  wpl_box hw 50 x ho hx (cs := hdCs d) (by simp [hdV, Value.cells]) (fun w2 g hg h hb => hk w2 g hg ⟨hr, h⟩ hb)
theorem wpl_mk_rt (hw : Region.wanted o (yielded ops a.tmps) = true) (ho : o.op = .alloc 48)
    (hk : ∀ w2 g, w.heap.size ≤ g → RtAt w2 g rt0 → Below w.heap.size w w2 → wpList Try.prog ops Q rest (a.put o.dst (.pointer (some ⟨g, 0, none⟩))) w2) : wpList Try.prog ops Q (o :: rest) a w :=
  wpl_mk hw 48 ho rtZero (cs := rtCs rt0) (by simp [rtV, Value.cells]) (fun w2 g hg h hb => hk w2 g hg ⟨rt0_ok, h⟩ hb)
theorem wpl_mk_hd (hw : Region.wanted o (yielded ops a.tmps) = true) (ho : o.op = .alloc 50)
    (hk : ∀ w2 g, w.heap.size ≤ g → HdAt w2 g hd0 → Below w.heap.size w w2 → wpList Try.prog ops Q rest (a.put o.dst (.pointer (some ⟨g, 0, none⟩))) w2) : wpList Try.prog ops Q (o :: rest) a w :=
  wpl_mk hw 50 ho hdZero (cs := hdCs hd0) (by simp [hdV, Value.cells]) (fun w2 g hg h hb => hk w2 g hg ⟨hd0_ok, h⟩ hb)
theorem wpl_set_rt (hgd : o.guard = none) (x y : Operand) (ho : o.op = .store 48 x y) {g : Nat} {r0 r : Rt} (hx : a.eval x = .pointer (some ⟨g, 0, none⟩)) (hy : a.eval y = rtV r) (hr : r.Ok) (h : RtAt w g r0)
    (hk : ∀ w2, RtAt w2 g r → Touch (fun b => b = g) w w2 → wpList Try.prog ops Q rest (a.put o.dst undef) w2) : wpList Try.prog ops Q (o :: rest) a w :=
  wpl_fill hgd 48 x y ho hx hy h.arr (by rw [rtCs_length hr]; exact rtSize) (by rw [rtCs_length hr, rtCs_length h.ok]) (rtCs_one r) (fun w2 ha ht => hk w2 ⟨hr, ha⟩ ht)
theorem wpl_set_hd (hgd : o.guard = none) (x y : Operand) (ho : o.op = .store 50 x y) {g : Nat} {d0 d : Hd} (hx : a.eval x = .pointer (some ⟨g, 0, none⟩)) (hy : a.eval y = hdV d) (hr : d.Ok) (h : HdAt w g d0)
    (hk : ∀ w2, HdAt w2 g d → Touch (fun b => b = g) w w2 → wpList Try.prog ops Q rest (a.put o.dst undef) w2) : wpList Try.prog ops Q (o :: rest) a w :=
  wpl_fill hgd 50 x y ho hx hy h.arr (by rw [hdCs_length hr]; exact hdSize) (by rw [hdCs_length hr, hdCs_length h.ok]) (hdCs_one d) (fun w2 ha ht => hk w2 ⟨hr, ha⟩ ht)
theorem rtSigSet {r : Rt} (h : r.Ok) (s : ByteArray) : (rtCs r).set 34 (.string s) = rtCs { r with sig := s } := by
  have e : (bvs r.hot).length = 32 := by rw [bvs_length, h.hot]
  unfold rtCs
  simp [List.set_append, e]
theorem hdSigSet {d : Hd} (h : d.Ok) (s : ByteArray) : (hdCs d).set 135 (.string s) = hdCs { d with sig := s } := by
  have e1 : (bvs d.prev).length = 32 := by rw [bvs_length, h.prev]
  have e2 : (bvs d.pool).length = 32 := by rw [bvs_length, h.pool]
  have e3 : (bvs d.body).length = 32 := by rw [bvs_length, h.body]
  have e4 := rtCs_length h.right
  unfold hdCs
  simp [List.set_append, e1, e2, e3, e4]
theorem wpl_set_rtsig (hgd : o.guard = none) (x y : Operand) (ho : o.op = .store 9 x y) {g : Nat} {r : Rt} {s : ByteArray} (hx : a.eval x = .pointer (some ⟨g, 34, none⟩)) (hy : a.eval y = .string s) (h : RtAt w g r)
    (hk : ∀ w2, RtAt w2 g { r with sig := s } → Touch (fun b => b = g) w w2 → wpList Try.prog ops Q rest (a.put o.dst undef) w2) : wpList Try.prog ops Q (o :: rest) a w :=
  wpl_set_one hgd 9 x y ho hx hy h.arr (by rw [rtCs_length h.ok]; omega) strSize rfl rfl (fun w2 ha ht => hk w2 ⟨⟨h.ok.hot, h.ok.counter, h.ok.start⟩, by rw [rtSigSet h.ok] at ha; exact ha⟩ ht)
theorem wpl_set_hdsig (hgd : o.guard = none) (x y : Operand) (ho : o.op = .store 9 x y) {g : Nat} {d : Hd} {s : ByteArray} (hx : a.eval x = .pointer (some ⟨g, 135, none⟩)) (hy : a.eval y = .string s) (h : HdAt w g d)
    (hk : ∀ w2, HdAt w2 g { d with sig := s } → Touch (fun b => b = g) w w2 → wpList Try.prog ops Q rest (a.put o.dst undef) w2) : wpList Try.prog ops Q (o :: rest) a w :=
  wpl_set_one hgd 9 x y ho hx hy h.arr (by rw [hdCs_length h.ok]; omega) strSize rfl rfl (fun w2 ha ht => hk w2 ⟨⟨h.ok.slot, h.ok.number, h.ok.prev, h.ok.pool, h.ok.body, h.ok.size, h.ok.many, h.ok.right⟩, by rw [hdSigSet h.ok] at ha; exact ha⟩ ht)
theorem hdRightSet {d : Hd} {r : Rt} (h : d.Ok) (hr : r.Ok) : (hdCs d).take 100 ++ rtCs r ++ (hdCs d).drop (100 + (rtCs r).length) = hdCs { d with right := r } := by
  have e1 : (bvs d.prev).length = 32 := by rw [bvs_length, h.prev]
  have e2 : (bvs d.pool).length = 32 := by rw [bvs_length, h.pool]
  have e3 : (bvs d.body).length = 32 := by rw [bvs_length, h.body]
  have e4 := rtCs_length h.right
  have t1 : (bvs d.prev).take 98 = bvs d.prev := List.take_of_length_le (by omega)
  have t2 : (bvs d.pool).take 66 = bvs d.pool := List.take_of_length_le (by omega)
  have t3 : (bvs d.body).take 34 = bvs d.body := List.take_of_length_le (by omega)
  have t4 : (rtCs d.right).drop 35 = [] := List.drop_of_length_le (by omega)
  have t5 : (bvs d.prev).drop 133 = [] := List.drop_of_length_le (by omega)
  have t6 : (bvs d.pool).drop 101 = [] := List.drop_of_length_le (by omega)
  have t7 : (bvs d.body).drop 69 = [] := List.drop_of_length_le (by omega)
  rw [rtCs_length hr]
  unfold hdCs
  simp [List.take_append, List.drop_append, e1, e2, e3, e4, t1, t2, t3, t4, t5, t6, t7]
theorem wpl_set_hdrt (hgd : o.guard = none) (x y : Operand) (ho : o.op = .store 48 x y) {g : Nat} {d : Hd} {r : Rt} (hx : a.eval x = .pointer (some ⟨g, 100, none⟩)) (hy : a.eval y = rtV r) (hr : r.Ok) (h : HdAt w g d)
    (hk : ∀ w2, HdAt w2 g { d with right := r } → Touch (fun b => b = g) w w2 → wpList Try.prog ops Q rest (a.put o.dst undef) w2) : wpList Try.prog ops Q (o :: rest) a w :=
  wpl_put_at hgd 48 x y ho hx hy h.arr (by rw [rtCs_length hr]; exact rtSize) (by rw [hdCs_length h.ok, rtCs_length hr]; omega) (rtCs_one r) _ (hdRightSet h.ok hr) (fun w2 ha ht => hk w2 ⟨⟨h.ok.slot, h.ok.number, h.ok.prev, h.ok.pool, h.ok.body, h.ok.size, h.ok.many, hr⟩, ha⟩ ht)
theorem wpl_load_rt (hw : Region.wanted o (yielded ops a.tmps) = true) (x : Operand) (ho : o.op = .load 48 x) {g : Nat} {r : Rt} (hx : a.eval x = .pointer (some ⟨g, 0, none⟩)) (h : RtAt w g r)
    (hk : wpList Try.prog ops Q rest (a.put o.dst (rtV r)) w) : wpList Try.prog ops Q (o :: rest) a w :=
  wpl_load_cells hw 48 x ho hx h.cells _ Try.underlying48 rfl (by rw [rtCs_length h.ok]; exact rtSize) hk
theorem wpl_load_hdrt (hw : Region.wanted o (yielded ops a.tmps) = true) (x : Operand) (ho : o.op = .load 48 x) {g : Nat} {d : Hd} (hx : a.eval x = .pointer (some ⟨g, 100, none⟩)) (h : HdAt w g d)
    (hk : wpList Try.prog ops Q rest (a.put o.dst (rtV d.right)) w) : wpList Try.prog ops Q (o :: rest) a w :=
  wpl_load_cells hw 48 x ho hx h.c100 _ Try.underlying48 rfl (by rw [rtCs_length h.ok.right]; exact rtSize) hk
theorem wpl_load_hd (hw : Region.wanted o (yielded ops a.tmps) = true) (x : Operand) (ho : o.op = .load 50 x) {g : Nat} {d : Hd} (hx : a.eval x = .pointer (some ⟨g, 0, none⟩)) (h : HdAt w g d)
    (hk : wpList Try.prog ops Q rest (a.put o.dst (hdV d)) w) : wpList Try.prog ops Q (o :: rest) a w :=
  wpl_load_cells hw 50 x ho hx h.cells _ Try.underlying50 rfl (by rw [hdCs_length h.ok]; exact hdSize) hk
theorem since_load_hd (x : Operand) (ho : o.op = .load 50 x) {g : Nat} {d : Hd} (hx : a.eval x = .pointer (some ⟨g, 0, none⟩)) (h : HdAt w0 g d) (hk : K (a.put o.dst (hdV d))) :
    o.quiet Try.prog a (fun w' => ∃ s : Since w0, w' = s.w) K := since_load_cells 50 x ho hx h.cells _ Try.underlying50 rfl (by rw [hdCs_length h.ok]; exact hdSize) hk
theorem since_load_rt (x : Operand) (ho : o.op = .load 48 x) {g : Nat} {r : Rt} (hx : a.eval x = .pointer (some ⟨g, 0, none⟩)) (h : RtAt w0 g r) (hk : K (a.put o.dst (rtV r))) :
    o.quiet Try.prog a (fun w' => ∃ s : Since w0, w' = s.w) K := since_load_cells 48 x ho hx h.cells _ Try.underlying48 rfl (by rw [rtCs_length h.ok]; exact rtSize) hk
theorem since_load_hdrt (x : Operand) (ho : o.op = .load 48 x) {g : Nat} {d : Hd} (hx : a.eval x = .pointer (some ⟨g, 100, none⟩)) (h : HdAt w0 g d) (hk : K (a.put o.dst (rtV d.right))) :
    o.quiet Try.prog a (fun w' => ∃ s : Since w0, w' = s.w) K := since_load_cells 48 x ho hx h.c100 _ Try.underlying48 rfl (by rw [rtCs_length h.ok.right]; exact rtSize) hk
end
theorem ret_hd {fn : Func} {q : Tmp} (hr : fn.results = #[.cell q 50]) (tmps : Array Value) (w : World) {g : Nat} {d : Hd} (hp : tmps.getD q undef = .pointer (some ⟨g, 0, none⟩)) (h : HdAt w g d) :
    (results fn tmps).run Try.prog w = .ok (hdV d) w :=
  results_cell_row hr tmps w g 50 (hdCs d).toArray (0, 0) _ hp h.arr Try.underlying50 rfl (by rw [List.size_toArray, hdCs_length h.ok]; exact hdSize)
theorem ret_hd_tmp {fn : Func} {q u : Tmp} (hr : fn.results = #[.cell q 50, .tmp u]) (tmps : Array Value) (w : World) {g : Nat} {d : Hd} (v : Value) (hp : tmps.getD q undef = .pointer (some ⟨g, 0, none⟩)) (hu : tmps.getD u undef = v) (h : HdAt w g d) :
    (results fn tmps).run Try.prog w = .ok (.tuple #[hdV d, v]) w :=
  results_row_tmp hr tmps w g 50 (hdCs d).toArray (0, 0) _ v hp hu h.arr Try.underlying50 rfl (by rw [List.size_toArray, hdCs_length h.ok]; exact hdSize)
theorem ret_rt {fn : Func} {q : Tmp} (hr : fn.results = #[.cell q 48]) (tmps : Array Value) (w : World) {g : Nat} {r : Rt} (hp : tmps.getD q undef = .pointer (some ⟨g, 0, none⟩)) (h : RtAt w g r) :
    (results fn tmps).run Try.prog w = .ok (rtV r) w :=
  results_cell_row hr tmps w g 48 (rtCs r).toArray (0, 0) _ hp h.arr Try.underlying48 rfl (by rw [List.size_toArray, rtCs_length h.ok]; exact rtSize)
end Go.Proofs.Ytofjjpielkfloaa
