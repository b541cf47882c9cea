/- api.Seat: its cells, in memory, made, boxed, filled, loaded, compared. -/
import Derived.Test.YtbbfnpfkbbpjgaaOAHdAt
import Derived.Test.YtbbfnpfkbbpjgaaOADig8
namespace Go.Proofs.Ytbbfnpfkbbpjgaa
open Go.RowKit Go.Lib
set_option linter.unusedVariables false
set_option linter.unusedSimpArgs false

def seatCs (x : SeatT) : List Value := bvs x.pool ++ (bvs x.key ++ (.int .u64 x.pledge :: (.int .u64 x.cost :: ([.int .u64 x.margin]))))
def seatV (x : SeatT) : Value := .agg (seatCs x).toArray
theorem seatCs_length {x : SeatT} (h : x.Ok) : (seatCs x).length = 67 := by
  have q0 : x.pool.length = 32 := h.1
  have q1 : x.key.length = 32 := h.2.1
  unfold seatCs; simp [bvs_length, q0, q1]
theorem seatCs_one (x : SeatT) : ∀ v ∈ seatCs x, v.oneCell' = true := by
  intro v hv
  unfold seatCs at hv
  simp only [List.mem_cons, List.mem_append, List.not_mem_nil, or_false] at hv
  rcases hv with hv | hv | rfl | rfl | rfl
  · exact List.all_eq_true.1 (bvs_one x.pool) v hv
  · exact List.all_eq_true.1 (bvs_one x.key) v hv
  · rfl
  · rfl
  · rfl
structure SeatAt (w : World) (g : Nat) (x : SeatT) : Prop where
  ok : x.Ok
  arr : Arr w g 93 (seatCs x)
section
variable {w w' : World} {g bb kk : Nat} {x : SeatT}
theorem SeatAt.lt (h : SeatAt w g x) : g < w.heap.size := Arr.lt h.arr
theorem SeatAt.later (h : SeatAt w g x) (hb : Below w.heap.size w w') : SeatAt w' g x := ⟨h.ok, h.arr.later hb⟩
theorem SeatAt.below {B : Nat} (h : SeatAt w g x) (hb : Below B w w') (hB : g < B) : SeatAt w' g x := ⟨h.ok, Arr.below h.arr hb hB⟩
theorem SeatAt.touch {S : Nat → Prop} (h : SeatAt w g x) (ht : Touch S w w') (hS : ¬ S g) : SeatAt w' g x := ⟨h.ok, h.arr.touch ht hS⟩
theorem SeatAt.tt {g' : Nat} (h : SeatAt w g x) (ht : Touch (fun y => y = g') w w') (hS : ¬ g = g' := by omega) : SeatAt w' g x := h.touch ht hS
theorem SeatAt.cells (h : SeatAt w g x) : Cells w g 0 (seatCs x) := Cells.arr h.arr
theorem seatR0 (h : Cells w bb kk (seatCs x)) : Cells w bb kk (bvs x.pool ++ (bvs x.key ++ (.int .u64 x.pledge :: (.int .u64 x.cost :: ([.int .u64 x.margin]))))) := h
theorem SeatAt.pool (h : SeatAt w g x) : Cells w g 0 (bvs x.pool) := Cells.left (seatR0 h.cells)
theorem seatR1 (h : Cells w bb kk (seatCs x)) (ok : x.Ok) : Cells w bb (kk + 32) (bvs x.key ++ (.int .u64 x.pledge :: (.int .u64 x.cost :: ([.int .u64 x.margin])))) := Cells.right (n := 32) (seatR0 h) (by rw [bvs_length, show x.pool.length = 32 from ok.1])
theorem SeatAt.key (h : SeatAt w g x) : Cells w g 32 (bvs x.key) := by
  have := seatR1 h.cells h.ok
  rw [Nat.zero_add] at this
  exact Cells.left this
theorem seatR2 (h : Cells w bb kk (seatCs x)) (ok : x.Ok) : Cells w bb (kk + 64) (.int .u64 x.pledge :: (.int .u64 x.cost :: ([.int .u64 x.margin]))) := by
  have := Cells.right (n := 32) (seatR1 h ok) (by rw [bvs_length, ok.2.1])
  rwa [Nat.add_assoc] at this
theorem SeatAt.pledge (h : SeatAt w g x) : w.cell? ⟨g, 64, none⟩ = some (.int .u64 x.pledge) := by
  have := (seatR2 h.cells h.ok).one
  rwa [Nat.zero_add] at this
theorem seatR3 (h : Cells w bb kk (seatCs x)) (ok : x.Ok) : Cells w bb (kk + 65) (.int .u64 x.cost :: ([.int .u64 x.margin])) := by
  have := (seatR2 h ok).tail
  rwa [Nat.add_assoc] at this
theorem SeatAt.cost (h : SeatAt w g x) : w.cell? ⟨g, 65, none⟩ = some (.int .u64 x.cost) := by
  have := (seatR3 h.cells h.ok).one
  rwa [Nat.zero_add] at this
theorem seatR4 (h : Cells w bb kk (seatCs x)) (ok : x.Ok) : Cells w bb (kk + 66) ([.int .u64 x.margin]) := by
  have := (seatR3 h ok).tail
  rwa [Nat.add_assoc] at this
theorem SeatAt.margin (h : SeatAt w g x) : w.cell? ⟨g, 66, none⟩ = some (.int .u64 x.margin) := by
  have := (seatR4 h.cells h.ok).one
  rwa [Nat.zero_add] at this
end
theorem seatSize : (Try.prog.info? 93).map (·.size) = some 67 := by kernel_rfl
theorem seatSz {x : SeatT} (h : x.Ok) : (Try.prog.info? 93).map (·.size) = some (seatCs x).length := by rw [seatCs_length h]; exact seatSize
def seat0 : SeatT := ⟨zero32, zero32, 0, 0, 0⟩
theorem seat0_ok : seat0.Ok := ⟨rfl, rfl, by decide, by decide, by decide⟩
theorem seatZero : (Try.prog.info? 93).bind (·.zero) = some (seatV seat0) := by kernel_rfl
section
variable {ops : Array Oper} {rest : List Oper} {o : Oper} {a : Act} {w w0 : World} {Q : Exit → Act → World → Prop} {K : Act → Prop}
theorem wpl_box_seat (hw : Region.wanted o (yielded ops a.tmps) = true) (x : Operand) (ho : o.op = .box 93 x) {d : SeatT} (hx : a.eval x = seatV d) (hr : d.Ok)
    (hk : ∀ w2 g, w.heap.size ≤ g → SeatAt w2 g d → Below w.heap.size w w2 → wpList Try.prog ops Q rest (a.put o.dst (.pointer (some ⟨g, 0, none⟩))) w2) : wpList Try.prog ops Q (o :: rest) a w :=
  wpl_box hw 93 x ho hx (cs := seatCs d) (by simp [seatV, Value.cells]) (fun w2 g hg h hb => hk w2 g hg ⟨hr, h⟩ hb)
theorem wpl_mk_seat (hw : Region.wanted o (yielded ops a.tmps) = true) (ho : o.op = .alloc 93)
    (hk : ∀ w2 g, w.heap.size ≤ g → SeatAt w2 g seat0 → Below w.heap.size w w2 → wpList Try.prog ops Q rest (a.put o.dst (.pointer (some ⟨g, 0, none⟩))) w2) : wpList Try.prog ops Q (o :: rest) a w :=
  wpl_mk hw 93 ho seatZero (cs := seatCs seat0) (by simp [seatV, Value.cells]) (fun w2 g hg h hb => hk w2 g hg ⟨seat0_ok, h⟩ hb)
theorem wpl_set_seat (hgd : o.guard = none) (x y : Operand) (ho : o.op = .store 93 x y) {g : Nat} {d0 d : SeatT} (hx : a.eval x = .pointer (some ⟨g, 0, none⟩)) (hy : a.eval y = seatV d) (hr : d.Ok) (h : SeatAt w g d0)
    (hk : ∀ w2, SeatAt w2 g d → Touch (fun b => b = g) w w2 → wpList Try.prog ops Q rest (a.put o.dst undef) w2) : wpList Try.prog ops Q (o :: rest) a w :=
  wpl_fill hgd 93 x y ho hx hy h.arr (seatSz hr) (by rw [seatCs_length hr, seatCs_length h.ok]) (seatCs_one d) (fun w2 ha ht => hk w2 ⟨hr, ha⟩ ht)
theorem wpl_ld_seat (hw : Region.wanted o (yielded ops a.tmps) = true) (x : Operand) (ho : o.op = .load 93 x) {b k : Nat} {d : SeatT} (hx : a.eval x = .pointer (some ⟨b, k, none⟩)) (h : Cells w b k (seatCs d)) (hr : d.Ok)
    (hk : wpList Try.prog ops Q rest (a.put o.dst (seatV d)) w) : wpList Try.prog ops Q (o :: rest) a w :=
  wpl_load_cells hw 93 x ho hx h _ Try.underlying93 rfl (seatSz hr) hk
end
theorem ret_seat {fn : Func} {q : Tmp} (hr : fn.results = #[.cell q 93]) (tmps : Array Value) (w : World) {g : Nat} {d : SeatT} (hp : tmps.getD q undef = .pointer (some ⟨g, 0, none⟩)) (h : SeatAt w g d) :
    (results fn tmps).run Try.prog w = .ok (seatV d) w :=
  results_cell_row hr tmps w g 93 (seatCs d).toArray (0, 0) _ hp h.arr Try.underlying93 rfl (by rw [List.size_toArray]; exact seatSz h.ok)
end Go.Proofs.Ytbbfnpfkbbpjgaa

/- api.Trust: its cells, in memory, made, boxed, filled, loaded, compared. -/
namespace Go.Proofs.Ytbbfnpfkbbpjgaa
open Go.RowKit Go.Lib
set_option linter.unusedVariables false
set_option linter.unusedSimpArgs false

def trustCs (x : TrustT) : List Value := bvs x.key ++ (bvs x.pool)
def trustV (x : TrustT) : Value := .agg (trustCs x).toArray
theorem trustCs_length {x : TrustT} (h : x.Ok) : (trustCs x).length = 64 := by
  have q0 : x.key.length = 32 := h.1
  have q1 : x.pool.length = 32 := h.2
  unfold trustCs; simp [bvs_length, q0, q1]
theorem trustCs_one (x : TrustT) : ∀ v ∈ trustCs x, v.oneCell' = true := by
  intro v hv
  unfold trustCs at hv
  simp only [List.mem_cons, List.mem_append, List.not_mem_nil, or_false] at hv
  rcases hv with hv | hv
  · exact List.all_eq_true.1 (bvs_one x.key) v hv
  · exact List.all_eq_true.1 (bvs_one x.pool) v hv
structure TrustAt (w : World) (g : Nat) (x : TrustT) : Prop where
  ok : x.Ok
  arr : Arr w g 97 (trustCs x)
section
variable {w w' : World} {g bb kk : Nat} {x : TrustT}
theorem TrustAt.lt (h : TrustAt w g x) : g < w.heap.size := Arr.lt h.arr
theorem TrustAt.later (h : TrustAt w g x) (hb : Below w.heap.size w w') : TrustAt w' g x := ⟨h.ok, h.arr.later hb⟩
theorem TrustAt.below {B : Nat} (h : TrustAt w g x) (hb : Below B w w') (hB : g < B) : TrustAt w' g x := ⟨h.ok, Arr.below h.arr hb hB⟩
theorem TrustAt.touch {S : Nat → Prop} (h : TrustAt w g x) (ht : Touch S w w') (hS : ¬ S g) : TrustAt w' g x := ⟨h.ok, h.arr.touch ht hS⟩
theorem TrustAt.tt {g' : Nat} (h : TrustAt w g x) (ht : Touch (fun y => y = g') w w') (hS : ¬ g = g' := by omega) : TrustAt w' g x := h.touch ht hS
theorem TrustAt.cells (h : TrustAt w g x) : Cells w g 0 (trustCs x) := Cells.arr h.arr
theorem trustR0 (h : Cells w bb kk (trustCs x)) : Cells w bb kk (bvs x.key ++ (bvs x.pool)) := h
theorem TrustAt.key (h : TrustAt w g x) : Cells w g 0 (bvs x.key) := Cells.left (trustR0 h.cells)
theorem trustR1 (h : Cells w bb kk (trustCs x)) (ok : x.Ok) : Cells w bb (kk + 32) (bvs x.pool) := Cells.right (n := 32) (trustR0 h) (by rw [bvs_length, show x.key.length = 32 from ok.1])
theorem TrustAt.pool (h : TrustAt w g x) : Cells w g 32 (bvs x.pool) := by
  have := trustR1 h.cells h.ok
  rw [Nat.zero_add] at this
  exact this
end
theorem trustSize : (Try.prog.info? 97).map (·.size) = some 64 := by kernel_rfl
theorem trustSz {x : TrustT} (h : x.Ok) : (Try.prog.info? 97).map (·.size) = some (trustCs x).length := by rw [trustCs_length h]; exact trustSize
def trust0 : TrustT := ⟨zero32, zero32⟩
theorem trust0_ok : trust0.Ok := ⟨rfl, rfl⟩
theorem trustZero : (Try.prog.info? 97).bind (·.zero) = some (trustV trust0) := by kernel_rfl
section
variable {ops : Array Oper} {rest : List Oper} {o : Oper} {a : Act} {w w0 : World} {Q : Exit → Act → World → Prop} {K : Act → Prop}
theorem wpl_box_trust (hw : Region.wanted o (yielded ops a.tmps) = true) (x : Operand) (ho : o.op = .box 97 x) {d : TrustT} (hx : a.eval x = trustV d) (hr : d.Ok)
    (hk : ∀ w2 g, w.heap.size ≤ g → TrustAt w2 g d → Below w.heap.size w w2 → wpList Try.prog ops Q rest (a.put o.dst (.pointer (some ⟨g, 0, none⟩))) w2) : wpList Try.prog ops Q (o :: rest) a w :=
  wpl_box hw 97 x ho hx (cs := trustCs d) (by simp [trustV, Value.cells]) (fun w2 g hg h hb => hk w2 g hg ⟨hr, h⟩ hb)
theorem wpl_mk_trust (hw : Region.wanted o (yielded ops a.tmps) = true) (ho : o.op = .alloc 97)
    (hk : ∀ w2 g, w.heap.size ≤ g → TrustAt w2 g trust0 → Below w.heap.size w w2 → wpList Try.prog ops Q rest (a.put o.dst (.pointer (some ⟨g, 0, none⟩))) w2) : wpList Try.prog ops Q (o :: rest) a w :=
  wpl_mk hw 97 ho trustZero (cs := trustCs trust0) (by simp [trustV, Value.cells]) (fun w2 g hg h hb => hk w2 g hg ⟨trust0_ok, h⟩ hb)
theorem wpl_set_trust (hgd : o.guard = none) (x y : Operand) (ho : o.op = .store 97 x y) {g : Nat} {d0 d : TrustT} (hx : a.eval x = .pointer (some ⟨g, 0, none⟩)) (hy : a.eval y = trustV d) (hr : d.Ok) (h : TrustAt w g d0)
    (hk : ∀ w2, TrustAt w2 g d → Touch (fun b => b = g) w w2 → wpList Try.prog ops Q rest (a.put o.dst undef) w2) : wpList Try.prog ops Q (o :: rest) a w :=
  wpl_fill hgd 97 x y ho hx hy h.arr (trustSz hr) (by rw [trustCs_length hr, trustCs_length h.ok]) (trustCs_one d) (fun w2 ha ht => hk w2 ⟨hr, ha⟩ ht)
theorem wpl_ld_trust (hw : Region.wanted o (yielded ops a.tmps) = true) (x : Operand) (ho : o.op = .load 97 x) {b k : Nat} {d : TrustT} (hx : a.eval x = .pointer (some ⟨b, k, none⟩)) (h : Cells w b k (trustCs d)) (hr : d.Ok)
    (hk : wpList Try.prog ops Q rest (a.put o.dst (trustV d)) w) : wpList Try.prog ops Q (o :: rest) a w :=
  wpl_load_cells hw 97 x ho hx h _ Try.underlying97 rfl (trustSz hr) hk
end
theorem ret_trust {fn : Func} {q : Tmp} (hr : fn.results = #[.cell q 97]) (tmps : Array Value) (w : World) {g : Nat} {d : TrustT} (hp : tmps.getD q undef = .pointer (some ⟨g, 0, none⟩)) (h : TrustAt w g d) :
    (results fn tmps).run Try.prog w = .ok (trustV d) w :=
  results_cell_row hr tmps w g 97 (trustCs d).toArray (0, 0) _ hp h.arr Try.underlying97 rfl (by rw [List.size_toArray]; exact trustSz h.ok)
end Go.Proofs.Ytbbfnpfkbbpjgaa
