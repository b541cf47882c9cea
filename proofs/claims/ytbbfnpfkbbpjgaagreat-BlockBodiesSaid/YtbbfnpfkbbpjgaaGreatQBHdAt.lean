/- Rights and heads in memory; the steps of a walk that make, load and fill them. -/
import Derived.Test.YtbbfnpfkbbpjgaaGreatQBStep
import Derived.Test.YtbbfnpfkbbpjgaaGreatQBMOnce
namespace Go.Proofs.YtbbfnpfkbbpjgaaGreat
open Go.RowKit Go.Lib
set_option linter.unusedVariables false
set_option linter.unusedSimpArgs false
set_option maxRecDepth 100000
set_option maxHeartbeats 4000000
/-- A right. -/
structure Rt where
  hot : List UInt8
  counter : Nat
  start : Nat
  sig : ByteArray
/-- A head. -/
structure Hd where
  slot : Nat
  number : Nat
  prev : List UInt8
  pool : List UInt8
  body : List UInt8
  size : Nat
  many : Nat
  right : Rt
  sig : ByteArray
structure Rt.Ok (r : Rt) : Prop where
  hot : r.hot.length = 32
  counter : r.counter < 18446744073709551616
  start : r.start < 18446744073709551616
structure Hd.Ok (h : Hd) : Prop where
  slot : h.slot < 18446744073709551616
  number : h.number < 18446744073709551616
  prev : h.prev.length = 32
  pool : h.pool.length = 32
  body : h.body.length = 32
  size : h.size < 18446744073709551616
  many : h.many < 18446744073709551616
  right : h.right.Ok
def rtCs (r : Rt) : List Value := bvs r.hot ++ [.int .u64 r.counter, .int .u64 r.start, .string r.sig]
def rtV (r : Rt) : Value := .agg (rtCs r).toArray
def hdCs (h : Hd) : List Value := .int .u64 h.slot :: .int .u64 h.number :: (bvs h.prev ++ (bvs h.pool ++ (bvs h.body ++ (.int .u64 h.size :: .int .u64 h.many :: (rtCs h.right ++ [.string h.sig])))))
def hdV (h : Hd) : Value := .agg (hdCs h).toArray
theorem q1q {r : Rt} (h : r.Ok) : (rtCs r).length = 35 := by unfold rtCs; simp [q0e, h.hot]
theorem q2k {h : Hd} (k : h.Ok) : (hdCs h).length = 136 := by unfold hdCs; simp [q0e, k.prev, k.pool, k.body, q1q k.right]
theorem j9b (r : Rt) : ∀ v ∈ rtCs r, v.oneCell' = true := by
  intro v hv
  unfold rtCs at hv
  simp only [List.mem_cons, List.mem_append, List.not_mem_nil, or_false] at hv
  rcases hv with hv | rfl | rfl | rfl
  · exact List.all_eq_true.1 (q1v r.hot) v hv
  · rfl
  · rfl
  · rfl
theorem j9l (h : Hd) : ∀ v ∈ hdCs h, v.oneCell' = true := by
  intro v hv
  unfold hdCs at hv
  simp only [List.mem_cons, List.mem_append, List.not_mem_nil, or_false] at hv
  rcases hv with rfl | rfl | hv | hv | hv | rfl | rfl | hv | rfl
  · rfl
  · rfl
  · exact List.all_eq_true.1 (q1v h.prev) v hv
  · exact List.all_eq_true.1 (q1v h.pool) v hv
  · exact List.all_eq_true.1 (q1v h.body) v hv
  · rfl
  · rfl
  · exact j9b _ v hv
  · rfl
structure RtAt (w : World) (g : Nat) (r : Rt) : Prop where
  ok : r.Ok
  arr : Arr w g 47 (rtCs r)
structure HdAt (w : World) (g : Nat) (h : Hd) : Prop where
  ok : h.Ok
  arr : Arr w g 49 (hdCs h)
section
variable {w w' : World} {g : Nat} {r : Rt}
theorem RtAt.lt (h : RtAt w g r) : g < w.heap.size := Arr.lt h.arr
theorem RtAt.later (h : RtAt w g r) (hb : Below w.heap.size w w') : RtAt w' g r := ⟨h.ok, h.arr.later hb⟩
theorem RtAt.below {B : Nat} (h : RtAt w g r) (hb : Below B w w') (hB : g < B) : RtAt w' g r := ⟨h.ok, Arr.below h.arr hb hB⟩
theorem RtAt.touch {S : Nat → Prop} (h : RtAt w g r) (ht : Touch S w w') (hS : ¬ S g) : RtAt w' g r := ⟨h.ok, h.arr.touch ht hS⟩
theorem RtAt.tt {g' : Nat} (h : RtAt w g r) (ht : Touch (fun x => x = g') w w') (hS : ¬ g = g' := by omega) : RtAt w' g r := h.touch ht hS
theorem RtAt.cells (h : RtAt w g r) : Cells w g 0 (rtCs r) := Cells.arr h.arr
theorem x9c {o : Nat} (h : Cells w g o (rtCs r)) : Cells w g o (bvs r.hot) := Cells.left h
theorem q8y {o : Nat} (h : Cells w g o (rtCs r)) (k : r.Ok) : Cells w g (o + 32) [.int .u64 r.counter, .int .u64 r.start, .string r.sig] := Cells.right (n := 32) h (by rw [q0e, k.hot])
theorem RtAt.c0 (h : RtAt w g r) : Cells w g 0 (bvs r.hot) := x9c h.cells
theorem RtAt.c32 (h : RtAt w g r) : w.cell? ⟨g, 32, none⟩ = some (.int .u64 r.counter) := (q8y h.cells h.ok).one
theorem RtAt.c33 (h : RtAt w g r) : w.cell? ⟨g, 33, none⟩ = some (.int .u64 r.start) := (q8y h.cells h.ok).tail.one
theorem RtAt.c34 (h : RtAt w g r) : w.cell? ⟨g, 34, none⟩ = some (.string r.sig) := (q8y h.cells h.ok).tail.tail.one
variable {d : Hd}
theorem HdAt.lt (h : HdAt w g d) : g < w.heap.size := Arr.lt h.arr
theorem HdAt.later (h : HdAt w g d) (hb : Below w.heap.size w w') : HdAt w' g d := ⟨h.ok, h.arr.later hb⟩
theorem HdAt.below {B : Nat} (h : HdAt w g d) (hb : Below B w w') (hB : g < B) : HdAt w' g d := ⟨h.ok, Arr.below h.arr hb hB⟩
theorem HdAt.touch {S : Nat → Prop} (h : HdAt w g d) (ht : Touch S w w') (hS : ¬ S g) : HdAt w' g d := ⟨h.ok, h.arr.touch ht hS⟩
theorem HdAt.tt {g' : Nat} (h : HdAt w g d) (ht : Touch (fun x => x = g') w w') (hS : ¬ g = g' := by omega) : HdAt w' g d := h.touch ht hS
theorem HdAt.cells (h : HdAt w g d) : Cells w g 0 (hdCs d) := Cells.arr h.arr
theorem HdAt.r34 (h : HdAt w g d) : Cells w g 34 (bvs d.pool ++ (bvs d.body ++ (.int .u64 d.size :: .int .u64 d.many :: (rtCs d.right ++ [.string d.sig])))) := Cells.right (n := 32) h.cells.tail.tail (by rw [q0e, h.ok.prev])
theorem HdAt.r66 (h : HdAt w g d) : Cells w g 66 (bvs d.body ++ (.int .u64 d.size :: .int .u64 d.many :: (rtCs d.right ++ [.string d.sig]))) := Cells.right (n := 32) h.r34 (by rw [q0e, h.ok.pool])
theorem HdAt.r98 (h : HdAt w g d) : Cells w g 98 (.int .u64 d.size :: .int .u64 d.many :: (rtCs d.right ++ [.string d.sig])) := Cells.right (n := 32) h.r66 (by rw [q0e, h.ok.body])
theorem HdAt.r100 (h : HdAt w g d) : Cells w g 100 (rtCs d.right ++ [.string d.sig]) := h.r98.tail.tail
theorem HdAt.c0 (h : HdAt w g d) : w.cell? ⟨g, 0, none⟩ = some (.int .u64 d.slot) := h.cells.one
theorem HdAt.c1 (h : HdAt w g d) : w.cell? ⟨g, 1, none⟩ = some (.int .u64 d.number) := h.cells.tail.one
theorem HdAt.c2 (h : HdAt w g d) : Cells w g 2 (bvs d.prev) := Cells.left h.cells.tail.tail
theorem HdAt.c34 (h : HdAt w g d) : Cells w g 34 (bvs d.pool) := Cells.left h.r34
theorem HdAt.c66 (h : HdAt w g d) : Cells w g 66 (bvs d.body) := Cells.left h.r66
theorem HdAt.c98 (h : HdAt w g d) : w.cell? ⟨g, 98, none⟩ = some (.int .u64 d.size) := h.r98.one
theorem HdAt.c99 (h : HdAt w g d) : w.cell? ⟨g, 99, none⟩ = some (.int .u64 d.many) := h.r98.tail.one
theorem HdAt.c100 (h : HdAt w g d) : Cells w g 100 (rtCs d.right) := Cells.left h.r100
theorem HdAt.ch (h : HdAt w g d) : Cells w g 100 (bvs d.right.hot) := x9c h.c100
theorem HdAt.c132 (h : HdAt w g d) : w.cell? ⟨g, 132, none⟩ = some (.int .u64 d.right.counter) := (q8y h.c100 h.ok.right).one
theorem HdAt.c133 (h : HdAt w g d) : w.cell? ⟨g, 133, none⟩ = some (.int .u64 d.right.start) := (q8y h.c100 h.ok.right).tail.one
theorem HdAt.c134 (h : HdAt w g d) : w.cell? ⟨g, 134, none⟩ = some (.string d.right.sig) := (q8y h.c100 h.ok.right).tail.tail.one
theorem HdAt.c135 (h : HdAt w g d) : w.cell? ⟨g, 135, none⟩ = some (.string d.sig) := (Cells.right (n := 35) h.r100 (q1q h.ok.right)).one
end
theorem rtSize : (Tryz.prog.info? 47).map (·.size) = some 35 := by kernel_rfl
theorem hdSize : (Tryz.prog.info? 49).map (·.size) = some 136 := by kernel_rfl
theorem strSize : (Tryz.prog.info? 9).map (·.size) = some 1 := by kernel_rfl
def rt0 : Rt := ⟨zero32, 0, 0, ByteArray.empty⟩
def hd0 : Hd := ⟨0, 0, zero32, zero32, zero32, 0, 0, rt0, ByteArray.empty⟩
theorem x9a : rt0.Ok := ⟨rfl, by decide, by decide⟩
theorem q7z : hd0.Ok := ⟨by decide, by decide, rfl, rfl, rfl, by decide, by decide, x9a⟩
theorem hdZero : (Tryz.prog.info? 49).bind (·.zero) = some (hdV hd0) := by kernel_rfl
section
variable {ops : Array Oper} {rest : List Oper} {o : Oper} {a : Act} {w w0 : World} {Q : Exit → Act → World → Prop} {K : Act → Prop}
theorem q6z (hw : Region.wanted o (yielded ops a.tmps) = true) (x : Operand) (ho : o.op = .box 49 x) {d : Hd} (hx : a.eval x = hdV d) (hr : d.Ok)
    (hk : ∀ w2 g, w.heap.size ≤ g → HdAt w2 g d → Below w.heap.size w w2 → wpList Tryz.prog ops Q rest (a.put o.dst (.pointer (some ⟨g, 0, none⟩))) w2) : wpList Tryz.prog ops Q (o :: rest) a w :=
  q4k hw 49 x ho hx (cs := hdCs d) (by simp [hdV, Value.cells]) (fun w2 g hg h hb => hk w2 g hg ⟨hr, h⟩ hb)
theorem q7u (hw : Region.wanted o (yielded ops a.tmps) = true) (ho : o.op = .alloc 49)
    (hk : ∀ w2 g, w.heap.size ≤ g → HdAt w2 g hd0 → Below w.heap.size w w2 → wpList Tryz.prog ops Q rest (a.put o.dst (.pointer (some ⟨g, 0, none⟩))) w2) : wpList Tryz.prog ops Q (o :: rest) a w :=
  q4s hw 49 ho hdZero (cs := hdCs hd0) (by simp [hdV, Value.cells]) (fun w2 g hg h hb => hk w2 g hg ⟨q7z, h⟩ hb)
theorem q6t (hgd : o.guard = none) (x y : Operand) (ho : o.op = .store 49 x y) {g : Nat} {d0 d : Hd} (hx : a.eval x = .pointer (some ⟨g, 0, none⟩)) (hy : a.eval y = hdV d) (hr : d.Ok) (h : HdAt w g d0)
    (hk : ∀ w2, HdAt w2 g d → Touch (fun b => b = g) w w2 → wpList Tryz.prog ops Q rest (a.put o.dst undef) w2) : wpList Tryz.prog ops Q (o :: rest) a w :=
  q5i hgd 49 x y ho hx hy h.arr (by rw [q2k hr]; exact hdSize) (by rw [q2k hr, q2k h.ok]) (j9l d) (fun w2 ha ht => hk w2 ⟨hr, ha⟩ ht)
theorem rtSigSet {r : Rt} (h : r.Ok) (s : ByteArray) : (rtCs r).set 34 (.string s) = rtCs { r with sig := s } := by
  have e : (bvs r.hot).length = 32 := by rw [q0e, h.hot]
  unfold rtCs
  simp [List.set_append, e]
theorem hdSigSet {d : Hd} (h : d.Ok) (s : ByteArray) : (hdCs d).set 135 (.string s) = hdCs { d with sig := s } := by
  have e1 : (bvs d.prev).length = 32 := by rw [q0e, h.prev]
  have e2 : (bvs d.pool).length = 32 := by rw [q0e, h.pool]
  have e3 : (bvs d.body).length = 32 := by rw [q0e, h.body]
  have e4 := q1q h.right
  unfold hdCs
  simp [List.set_append, e1, e2, e3, e4]
theorem j4q (hgd : o.guard = none) (x y : Operand) (ho : o.op = .store 9 x y) {g : Nat} {d : Hd} {s : ByteArray} (hx : a.eval x = .pointer (some ⟨g, 135, none⟩)) (hy : a.eval y = .string s) (h : HdAt w g d)
    (hk : ∀ w2, HdAt w2 g { d with sig := s } → Touch (fun b => b = g) w w2 → wpList Tryz.prog ops Q rest (a.put o.dst undef) w2) : wpList Tryz.prog ops Q (o :: rest) a w :=
  q1a hgd 9 x y ho hx hy h.arr (by rw [q2k h.ok]; omega) strSize rfl rfl (fun w2 ha ht => hk w2 ⟨⟨h.ok.slot, h.ok.number, h.ok.prev, h.ok.pool, h.ok.body, h.ok.size, h.ok.many, h.ok.right⟩, by rw [hdSigSet h.ok] at ha; exact ha⟩ ht)
theorem hdRightSet {d : Hd} {r : Rt} (h : d.Ok) (hr : r.Ok) : (hdCs d).take 100 ++ rtCs r ++ (hdCs d).drop (100 + (rtCs r).length) = hdCs { d with right := r } := by
  have e1 : (bvs d.prev).length = 32 := by rw [q0e, h.prev]
  have e2 : (bvs d.pool).length = 32 := by rw [q0e, h.pool]
  have e3 : (bvs d.body).length = 32 := by rw [q0e, h.body]
  have e4 := q1q h.right
  have t1 : (bvs d.prev).take 98 = bvs d.prev := List.take_of_length_le (by omega)
  have t2 : (bvs d.pool).take 66 = bvs d.pool := List.take_of_length_le (by omega)
  have t3 : (bvs d.body).take 34 = bvs d.body := List.take_of_length_le (by omega)
  have t4 : (rtCs d.right).drop 35 = [] := List.drop_of_length_le (by omega)
  have t5 : (bvs d.prev).drop 133 = [] := List.drop_of_length_le (by omega)
  have t6 : (bvs d.pool).drop 101 = [] := List.drop_of_length_le (by omega)
  have t7 : (bvs d.body).drop 69 = [] := List.drop_of_length_le (by omega)
  rw [q1q hr]
  unfold hdCs
  simp [List.take_append, List.drop_append, e1, e2, e3, e4, t1, t2, t3, t4, t5, t6, t7]
theorem j6z (hgd : o.guard = none) (x y : Operand) (ho : o.op = .store 47 x y) {g : Nat} {d : Hd} {r : Rt} (hx : a.eval x = .pointer (some ⟨g, 100, none⟩)) (hy : a.eval y = rtV r) (hr : r.Ok) (h : HdAt w g d)
    (hk : ∀ w2, HdAt w2 g { d with right := r } → Touch (fun b => b = g) w w2 → wpList Tryz.prog ops Q rest (a.put o.dst undef) w2) : wpList Tryz.prog ops Q (o :: rest) a w :=
  q7c hgd 47 x y ho hx hy h.arr (by rw [q1q hr]; exact rtSize) (by rw [q2k h.ok, q1q hr]; omega) (j9b r) _ (hdRightSet h.ok hr) (fun w2 ha ht => hk w2 ⟨⟨h.ok.slot, h.ok.number, h.ok.prev, h.ok.pool, h.ok.body, h.ok.size, h.ok.many, hr⟩, ha⟩ ht)
theorem q5y (hw : Region.wanted o (yielded ops a.tmps) = true) (x : Operand) (ho : o.op = .load 47 x) {g : Nat} {r : Rt} (hx : a.eval x = .pointer (some ⟨g, 0, none⟩)) (h : RtAt w g r)
    (hk : wpList Tryz.prog ops Q rest (a.put o.dst (rtV r)) w) : wpList Tryz.prog ops Q (o :: rest) a w :=
  q1f hw 47 x ho hx h.cells _ Tryz.underlying47 rfl (by rw [q1q h.ok]; exact rtSize) hk
theorem q4q (hw : Region.wanted o (yielded ops a.tmps) = true) (x : Operand) (ho : o.op = .load 47 x) {g : Nat} {d : Hd} (hx : a.eval x = .pointer (some ⟨g, 100, none⟩)) (h : HdAt w g d)
    (hk : wpList Tryz.prog ops Q rest (a.put o.dst (rtV d.right)) w) : wpList Tryz.prog ops Q (o :: rest) a w :=
  q1f hw 47 x ho hx h.c100 _ Tryz.underlying47 rfl (by rw [q1q h.ok.right]; exact rtSize) hk
theorem q4a (hw : Region.wanted o (yielded ops a.tmps) = true) (x : Operand) (ho : o.op = .load 49 x) {g : Nat} {d : Hd} (hx : a.eval x = .pointer (some ⟨g, 0, none⟩)) (h : HdAt w g d)
    (hk : wpList Tryz.prog ops Q rest (a.put o.dst (hdV d)) w) : wpList Tryz.prog ops Q (o :: rest) a w :=
  q1f hw 49 x ho hx h.cells _ Tryz.underlying49 rfl (by rw [q2k h.ok]; exact hdSize) hk
theorem q1k (x : Operand) (ho : o.op = .load 49 x) {g : Nat} {d : Hd} (hx : a.eval x = .pointer (some ⟨g, 0, none⟩)) (h : HdAt w0 g d) (hk : K (a.put o.dst (hdV d))) :
    o.quiet Tryz.prog a (fun w' => ∃ s : Since w0, w' = s.w) K := q1t 49 x ho hx h.cells _ Tryz.underlying49 rfl (by rw [q2k h.ok]; exact hdSize) hk
theorem q1l (x : Operand) (ho : o.op = .load 47 x) {g : Nat} {r : Rt} (hx : a.eval x = .pointer (some ⟨g, 0, none⟩)) (h : RtAt w0 g r) (hk : K (a.put o.dst (rtV r))) :
    o.quiet Tryz.prog a (fun w' => ∃ s : Since w0, w' = s.w) K := q1t 47 x ho hx h.cells _ Tryz.underlying47 rfl (by rw [q1q h.ok]; exact rtSize) hk
theorem q0y (x : Operand) (ho : o.op = .load 47 x) {g : Nat} {d : Hd} (hx : a.eval x = .pointer (some ⟨g, 100, none⟩)) (h : HdAt w0 g d) (hk : K (a.put o.dst (rtV d.right))) :
    o.quiet Tryz.prog a (fun w' => ∃ s : Since w0, w' = s.w) K := q1t 47 x ho hx h.c100 _ Tryz.underlying47 rfl (by rw [q1q h.ok.right]; exact rtSize) hk
end
theorem x0b {fn : Func} {q u : Tmp} (hr : fn.results = #[.cell q 49, .tmp u]) (tmps : Array Value) (w : World) {g : Nat} {d : Hd} (v : Value) (hp : tmps.getD q undef = .pointer (some ⟨g, 0, none⟩)) (hu : tmps.getD u undef = v) (h : HdAt w g d) :
    (results fn tmps).run Tryz.prog w = .ok (.tuple #[hdV d, v]) w :=
  q6d hr tmps w g 49 (hdCs d).toArray (0, 0) _ v hp hu h.arr Tryz.underlying49 rfl (by rw [List.size_toArray, q2k h.ok]; exact hdSize)
end Go.Proofs.YtbbfnpfkbbpjgaaGreat
/- Package head: May, granted, Granted, Grant. -/
namespace Go.Proofs.YtbbfnpfkbbpjgaaGreat
open Go.RowKit Go.Lib
set_option linter.unusedVariables false
set_option linter.unusedSimpArgs false
set_option maxRecDepth 100000
set_option maxHeartbeats 4000000
/-- May a head be? -/
def mayH (h : Hd) : Bool := decide (h.right.sig.size = 1024) && decide (h.sig.size = 1120)
theorem j6i (d : Hd) (hd : d.Ok) (w : World) :
    Calls Tryz.prog 85 #[hdV d] w fun e w' => e = .returned (.int .i64 (if mayH d then 0 else 2)) ∧ Below w.heap.size w w' := by
  obtain ⟨R, hR⟩ : ∃ R : Int, R = if mayH d then 0 else 2 := ⟨_, rfl⟩
  rw [← hR]
  have HR := hide hR
  have b := Below.refl w.heap.size w
  have HD := hide hd
  clear hd hR
  unfold mayH at HR
  have mF1 := True.intro
  by_cases h1 : d.right.sig.size = 1024
  · by_cases h2 : d.sig.size = 1120
    all_goals
      have h3 : R = if d.sig.size = 1120 then 0 else 2 := by rw [HR.out]; simp [h1]
      simp only [h2, if_true, if_false] at h3
      subst h3
      clear HR
      go_enter Tryz.func85, Tryz.ntmps85
      go_wp2_with (first | (with_reducible refine w0g ?_; first | ((with_reducible refine w1g ?_); first | (refine q0a rfl 9 _ rfl rfl (HdAt.c134 (by assumption)) (by kernel_rfl) ?_) | (refine q0a rfl 9 _ rfl rfl (HdAt.c135 (by assumption)) (by kernel_rfl) ?_) | (refine q0a rfl 9 _ rfl rfl (RtAt.c34 (by assumption)) (by kernel_rfl) ?_) | (refine q0a rfl 9 _ rfl rfl (One.cell (by assumption)) (by kernel_rfl) ?_)) | ((with_reducible refine w2g ?_); first | (refine q0a rfl 24 _ rfl rfl (HdAt.c133 (by assumption)) (by kernel_rfl) ?_) | (refine q0a rfl 24 _ rfl rfl (HdAt.c132 (by assumption)) (by kernel_rfl) ?_) | (refine q0a rfl 24 _ rfl rfl (RtAt.c32 (by assumption)) (by kernel_rfl) ?_) | (refine q0a rfl 24 _ rfl rfl (RtAt.c33 (by assumption)) (by kernel_rfl) ?_)) | ((with_reducible refine w3g ?_); first | (refine q0t rfl _ rfl rfl (by assumption) ?_) | (refine q0j rfl _ rfl rfl (HdAt.ch (by assumption)) (HdAt.ok (by assumption)).right.hot ?_) | (refine q0j rfl _ rfl rfl (RtAt.c0 (by assumption)) (RtAt.ok (by assumption)).hot ?_)) | (refine q4a rfl _ rfl rfl (by assumption) ?_) | (refine q5y rfl _ rfl rfl (by assumption) ?_) | (refine q4q rfl _ rfl rfl (by assumption) ?_)) | (with_reducible refine w4g ?_; clear mF1; refine q6z rfl _ rfl rfl HD.out ?_; intro _ g1 hg1 F1 hb; (try have := F1.lt); (try have := b.size); (try replace F1 := F1.later hb); (try replace b := later b hb); clear hb))
      go_ret
      exact ⟨rfl, b⟩
  · have h3 : R = 2 := by rw [HR.out]; simp [h1]
    subst h3
    clear HR
    go_enter Tryz.func85, Tryz.ntmps85
    go_wp2_with (first | (with_reducible refine w0g ?_; first | ((with_reducible refine w1g ?_); first | (refine q0a rfl 9 _ rfl rfl (HdAt.c134 (by assumption)) (by kernel_rfl) ?_) | (refine q0a rfl 9 _ rfl rfl (HdAt.c135 (by assumption)) (by kernel_rfl) ?_) | (refine q0a rfl 9 _ rfl rfl (RtAt.c34 (by assumption)) (by kernel_rfl) ?_) | (refine q0a rfl 9 _ rfl rfl (One.cell (by assumption)) (by kernel_rfl) ?_)) | ((with_reducible refine w2g ?_); first | (refine q0a rfl 24 _ rfl rfl (HdAt.c133 (by assumption)) (by kernel_rfl) ?_) | (refine q0a rfl 24 _ rfl rfl (HdAt.c132 (by assumption)) (by kernel_rfl) ?_) | (refine q0a rfl 24 _ rfl rfl (RtAt.c32 (by assumption)) (by kernel_rfl) ?_) | (refine q0a rfl 24 _ rfl rfl (RtAt.c33 (by assumption)) (by kernel_rfl) ?_)) | ((with_reducible refine w3g ?_); first | (refine q0t rfl _ rfl rfl (by assumption) ?_) | (refine q0j rfl _ rfl rfl (HdAt.ch (by assumption)) (HdAt.ok (by assumption)).right.hot ?_) | (refine q0j rfl _ rfl rfl (RtAt.c0 (by assumption)) (RtAt.ok (by assumption)).hot ?_)) | (refine q4a rfl _ rfl rfl (by assumption) ?_) | (refine q5y rfl _ rfl rfl (by assumption) ?_) | (refine q4q rfl _ rfl rfl (by assumption) ?_)) | (with_reducible refine w4g ?_; clear mF1; refine q6z rfl _ rfl rfl HD.out ?_; intro _ g1 hg1 F1 hb; (try have := F1.lt); (try have := b.size); (try replace F1 := F1.later hb); (try replace b := later b hb); clear hb))
    go_ret
    exact ⟨rfl, b⟩
end Go.Proofs.YtbbfnpfkbbpjgaaGreat
