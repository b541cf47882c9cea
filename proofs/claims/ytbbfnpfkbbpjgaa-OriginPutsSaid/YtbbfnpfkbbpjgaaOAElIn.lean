/- api.In: its cells, in memory, made, boxed, filled, loaded, compared. -/
import Derived.Test.YtbbfnpfkbbpjgaaOAHdAt
import Derived.Test.YtbbfnpfkbbpjgaaOATakeL
import Derived.Test.YtbbfnpfkbbpjgaaOAMBase
import Derived.Test.YtbbfnpfkbbpjgaaOAStep
import Derived.Test.YtbbfnpfkbbpjgaaOAMOf
namespace Go.Proofs.Ytbbfnpfkbbpjgaa
open Go.RowKit Go.Lib
set_option linter.unusedVariables false
set_option linter.unusedSimpArgs false

def inCs (x : InT) : List Value := bvs x.tx ++ ([.int .u64 x.index])
def inV (x : InT) : Value := .agg (inCs x).toArray
theorem inCs_length {x : InT} (h : x.Ok) : (inCs x).length = 33 := by
  have q0 : x.tx.length = 32 := h.1
  unfold inCs; simp [bvs_length, q0]
theorem inCs_one (x : InT) : ∀ v ∈ inCs x, v.oneCell' = true := by
  intro v hv
  unfold inCs at hv
  simp only [List.mem_cons, List.mem_append, List.not_mem_nil, or_false] at hv
  rcases hv with hv | rfl
  · exact List.all_eq_true.1 (bvs_one x.tx) v hv
  · rfl
structure InAt (w : World) (g : Nat) (x : InT) : Prop where
  ok : x.Ok
  arr : Arr w g 60 (inCs x)
section
variable {w w' : World} {g bb kk : Nat} {x : InT}
theorem InAt.lt (h : InAt w g x) : g < w.heap.size := Arr.lt h.arr
theorem InAt.later (h : InAt w g x) (hb : Below w.heap.size w w') : InAt w' g x := ⟨h.ok, h.arr.later hb⟩
theorem InAt.below {B : Nat} (h : InAt w g x) (hb : Below B w w') (hB : g < B) : InAt w' g x := ⟨h.ok, Arr.below h.arr hb hB⟩
theorem InAt.touch {S : Nat → Prop} (h : InAt w g x) (ht : Touch S w w') (hS : ¬ S g) : InAt w' g x := ⟨h.ok, h.arr.touch ht hS⟩
theorem InAt.tt {g' : Nat} (h : InAt w g x) (ht : Touch (fun y => y = g') w w') (hS : ¬ g = g' := by omega) : InAt w' g x := h.touch ht hS
theorem InAt.cells (h : InAt w g x) : Cells w g 0 (inCs x) := Cells.arr h.arr
theorem inR0 (h : Cells w bb kk (inCs x)) : Cells w bb kk (bvs x.tx ++ ([.int .u64 x.index])) := h
theorem InAt.tx (h : InAt w g x) : Cells w g 0 (bvs x.tx) := Cells.left (inR0 h.cells)
theorem inR1 (h : Cells w bb kk (inCs x)) (ok : x.Ok) : Cells w bb (kk + 32) ([.int .u64 x.index]) := Cells.right (n := 32) (inR0 h) (by rw [bvs_length, show x.tx.length = 32 from ok.1])
theorem InAt.index (h : InAt w g x) : w.cell? ⟨g, 32, none⟩ = some (.int .u64 x.index) := by
  have := (inR1 h.cells h.ok).one
  rwa [Nat.zero_add] at this
end
theorem inSize : (Try.prog.info? 60).map (·.size) = some 33 := by kernel_rfl
theorem inSz {x : InT} (h : x.Ok) : (Try.prog.info? 60).map (·.size) = some (inCs x).length := by rw [inCs_length h]; exact inSize
def in0 : InT := ⟨zero32, 0⟩
theorem in0_ok : in0.Ok := ⟨rfl, by decide⟩
theorem inZero : (Try.prog.info? 60).bind (·.zero) = some (inV in0) := by kernel_rfl
section
variable {ops : Array Oper} {rest : List Oper} {o : Oper} {a : Act} {w w0 : World} {Q : Exit → Act → World → Prop} {K : Act → Prop}
theorem wpl_mk_in (hw : Region.wanted o (yielded ops a.tmps) = true) (ho : o.op = .alloc 60)
    (hk : ∀ w2 g, w.heap.size ≤ g → InAt w2 g in0 → Below w.heap.size w w2 → wpList Try.prog ops Q rest (a.put o.dst (.pointer (some ⟨g, 0, none⟩))) w2) : wpList Try.prog ops Q (o :: rest) a w :=
  wpl_mk hw 60 ho inZero (cs := inCs in0) (by simp [inV, Value.cells]) (fun w2 g hg h hb => hk w2 g hg ⟨in0_ok, h⟩ hb)
theorem wpl_set_in (hgd : o.guard = none) (x y : Operand) (ho : o.op = .store 60 x y) {g : Nat} {d0 d : InT} (hx : a.eval x = .pointer (some ⟨g, 0, none⟩)) (hy : a.eval y = inV d) (hr : d.Ok) (h : InAt w g d0)
    (hk : ∀ w2, InAt w2 g d → Touch (fun b => b = g) w w2 → wpList Try.prog ops Q rest (a.put o.dst undef) w2) : wpList Try.prog ops Q (o :: rest) a w :=
  wpl_fill hgd 60 x y ho hx hy h.arr (inSz hr) (by rw [inCs_length hr, inCs_length h.ok]) (inCs_one d) (fun w2 ha ht => hk w2 ⟨hr, ha⟩ ht)
set_option maxRecDepth 100000 in
theorem run_eq_in (x y : InT) (hx : x.Ok) (hy : y.Ok) (w : World) : (Op.equalIn 10000 60 (inV x) (inV y)).run Try.prog w = .ok (sameIn x y) w := by
  unfold inV
  rw [run_equalIn_struct w 9999 60 _ _ (by kernel_rfl) (by kernel_rfl)]
  have bx0 : (bvs x.tx).length = 32 := by rw [bvs_length, hx.1]
  have dx0 : (inCs x).drop 0 = bvs x.tx ++ ([.int .u64 x.index]) := rfl
  have ex0 : ((inCs x).drop 0).take 32 = bvs x.tx := by rw [dx0]; exact take_left bx0
  have dx1 : (inCs x).drop 32 = [.int .u64 x.index] := by
    rw [show 32 = 0 + 32 by rfl, ← List.drop_drop, dx0, drop_left bx0]
  have ex1 := at_of dx1
  have by0 : (bvs y.tx).length = 32 := by rw [bvs_length, hy.1]
  have dy0 : (inCs y).drop 0 = bvs y.tx ++ ([.int .u64 y.index]) := rfl
  have ey0 : ((inCs y).drop 0).take 32 = bvs y.tx := by rw [dy0]; exact take_left by0
  have dy1 : (inCs y).drop 32 = [.int .u64 y.index] := by
    rw [show 32 = 0 + 32 by rfl, ← List.drop_drop, dy0, drop_left by0]
  have ey1 := at_of dy1
  unfold Program.fieldsOf
  rw [Try.underlying60]
  unfold sameIn
  refine field_two (by decide) (part_hash ex0 w) (part_hash ey0 w) (run_two_hash 9997 x.tx y.tx hx.1 hy.1 w) ?_
  exact field_last (by decide) (run_part_plain w plain_u64 ex1) (run_part_plain w plain_u64 ey1) (by rw [run_equalIn_int w 9998 23 .u64 .u64 _ _ Try.underlying23, nat_beq])
theorem quiet_eq_in {C : World → Prop} (p q : Operand) (ho : o.op = .binOp .eql 60 p q 60) {x y : InT} (hx : a.eval p = inV x) (hy : a.eval q = inV y) (kx : x.Ok) (ky : y.Ok) (hk : K (a.put o.dst (.bool (sameIn x y)))) : o.quiet Try.prog a C K :=
  quiet_value _ (fun w _ => exec_eq 60 p q ho hx hy (by kernel_rfl) (run_eq_in x y kx ky) w) hk
end
theorem ret_in {fn : Func} {q : Tmp} (hr : fn.results = #[.cell q 60]) (tmps : Array Value) (w : World) {g : Nat} {d : InT} (hp : tmps.getD q undef = .pointer (some ⟨g, 0, none⟩)) (h : InAt w g d) :
    (results fn tmps).run Try.prog w = .ok (inV d) w :=
  results_cell_row hr tmps w g 60 (inCs d).toArray (0, 0) _ hp h.arr Try.underlying60 rfl (by rw [List.size_toArray]; exact inSz h.ok)
end Go.Proofs.Ytbbfnpfkbbpjgaa

/- api.Out: its cells, in memory, made, boxed, filled, loaded, compared. -/
namespace Go.Proofs.Ytbbfnpfkbbpjgaa
open Go.RowKit Go.Lib
set_option linter.unusedVariables false
set_option linter.unusedSimpArgs false

def outCs (x : OutT) : List Value := bvs x.dst ++ (bvs x.stake ++ ([.int .u64 x.amount]))
def outV (x : OutT) : Value := .agg (outCs x).toArray
theorem outCs_length {x : OutT} (h : x.Ok) : (outCs x).length = 65 := by
  have q0 : x.dst.length = 32 := h.1
  have q1 : x.stake.length = 32 := h.2.1
  unfold outCs; simp [bvs_length, q0, q1]
theorem outCs_one (x : OutT) : ∀ v ∈ outCs x, v.oneCell' = true := by
  intro v hv
  unfold outCs at hv
  simp only [List.mem_cons, List.mem_append, List.not_mem_nil, or_false] at hv
  rcases hv with hv | hv | rfl
  · exact List.all_eq_true.1 (bvs_one x.dst) v hv
  · exact List.all_eq_true.1 (bvs_one x.stake) v hv
  · rfl
structure OutAt (w : World) (g : Nat) (x : OutT) : Prop where
  ok : x.Ok
  arr : Arr w g 48 (outCs x)
section
variable {w w' : World} {g bb kk : Nat} {x : OutT}
theorem OutAt.lt (h : OutAt w g x) : g < w.heap.size := Arr.lt h.arr
theorem OutAt.later (h : OutAt w g x) (hb : Below w.heap.size w w') : OutAt w' g x := ⟨h.ok, h.arr.later hb⟩
theorem OutAt.below {B : Nat} (h : OutAt w g x) (hb : Below B w w') (hB : g < B) : OutAt w' g x := ⟨h.ok, Arr.below h.arr hb hB⟩
theorem OutAt.touch {S : Nat → Prop} (h : OutAt w g x) (ht : Touch S w w') (hS : ¬ S g) : OutAt w' g x := ⟨h.ok, h.arr.touch ht hS⟩
theorem OutAt.tt {g' : Nat} (h : OutAt w g x) (ht : Touch (fun y => y = g') w w') (hS : ¬ g = g' := by omega) : OutAt w' g x := h.touch ht hS
theorem OutAt.cells (h : OutAt w g x) : Cells w g 0 (outCs x) := Cells.arr h.arr
theorem outR0 (h : Cells w bb kk (outCs x)) : Cells w bb kk (bvs x.dst ++ (bvs x.stake ++ ([.int .u64 x.amount]))) := h
theorem OutAt.dst (h : OutAt w g x) : Cells w g 0 (bvs x.dst) := Cells.left (outR0 h.cells)
theorem outR1 (h : Cells w bb kk (outCs x)) (ok : x.Ok) : Cells w bb (kk + 32) (bvs x.stake ++ ([.int .u64 x.amount])) := Cells.right (n := 32) (outR0 h) (by rw [bvs_length, show x.dst.length = 32 from ok.1])
theorem OutAt.stake (h : OutAt w g x) : Cells w g 32 (bvs x.stake) := by
  have := outR1 h.cells h.ok
  rw [Nat.zero_add] at this
  exact Cells.left this
theorem outR2 (h : Cells w bb kk (outCs x)) (ok : x.Ok) : Cells w bb (kk + 64) ([.int .u64 x.amount]) := by
  have := Cells.right (n := 32) (outR1 h ok) (by rw [bvs_length, ok.2.1])
  rwa [Nat.add_assoc] at this
theorem OutAt.amount (h : OutAt w g x) : w.cell? ⟨g, 64, none⟩ = some (.int .u64 x.amount) := by
  have := (outR2 h.cells h.ok).one
  rwa [Nat.zero_add] at this
end
theorem outSize : (Try.prog.info? 48).map (·.size) = some 65 := by kernel_rfl
theorem outSz {x : OutT} (h : x.Ok) : (Try.prog.info? 48).map (·.size) = some (outCs x).length := by rw [outCs_length h]; exact outSize
def out0 : OutT := ⟨zero32, zero32, 0⟩
theorem out0_ok : out0.Ok := ⟨rfl, rfl, by decide⟩
theorem outZero : (Try.prog.info? 48).bind (·.zero) = some (outV out0) := by kernel_rfl
section
variable {ops : Array Oper} {rest : List Oper} {o : Oper} {a : Act} {w w0 : World} {Q : Exit → Act → World → Prop} {K : Act → Prop}
theorem wpl_box_out (hw : Region.wanted o (yielded ops a.tmps) = true) (x : Operand) (ho : o.op = .box 48 x) {d : OutT} (hx : a.eval x = outV d) (hr : d.Ok)
    (hk : ∀ w2 g, w.heap.size ≤ g → OutAt w2 g d → Below w.heap.size w w2 → wpList Try.prog ops Q rest (a.put o.dst (.pointer (some ⟨g, 0, none⟩))) w2) : wpList Try.prog ops Q (o :: rest) a w :=
  wpl_box hw 48 x ho hx (cs := outCs d) (by simp [outV, Value.cells]) (fun w2 g hg h hb => hk w2 g hg ⟨hr, h⟩ hb)
theorem wpl_mk_out (hw : Region.wanted o (yielded ops a.tmps) = true) (ho : o.op = .alloc 48)
    (hk : ∀ w2 g, w.heap.size ≤ g → OutAt w2 g out0 → Below w.heap.size w w2 → wpList Try.prog ops Q rest (a.put o.dst (.pointer (some ⟨g, 0, none⟩))) w2) : wpList Try.prog ops Q (o :: rest) a w :=
  wpl_mk hw 48 ho outZero (cs := outCs out0) (by simp [outV, Value.cells]) (fun w2 g hg h hb => hk w2 g hg ⟨out0_ok, h⟩ hb)
theorem wpl_set_out (hgd : o.guard = none) (x y : Operand) (ho : o.op = .store 48 x y) {g : Nat} {d0 d : OutT} (hx : a.eval x = .pointer (some ⟨g, 0, none⟩)) (hy : a.eval y = outV d) (hr : d.Ok) (h : OutAt w g d0)
    (hk : ∀ w2, OutAt w2 g d → Touch (fun b => b = g) w w2 → wpList Try.prog ops Q rest (a.put o.dst undef) w2) : wpList Try.prog ops Q (o :: rest) a w :=
  wpl_fill hgd 48 x y ho hx hy h.arr (outSz hr) (by rw [outCs_length hr, outCs_length h.ok]) (outCs_one d) (fun w2 ha ht => hk w2 ⟨hr, ha⟩ ht)
theorem wpl_ld_out (hw : Region.wanted o (yielded ops a.tmps) = true) (x : Operand) (ho : o.op = .load 48 x) {b k : Nat} {d : OutT} (hx : a.eval x = .pointer (some ⟨b, k, none⟩)) (h : Cells w b k (outCs d)) (hr : d.Ok)
    (hk : wpList Try.prog ops Q rest (a.put o.dst (outV d)) w) : wpList Try.prog ops Q (o :: rest) a w :=
  wpl_load_cells hw 48 x ho hx h _ Try.underlying48 rfl (outSz hr) hk
end
theorem ret_out {fn : Func} {q : Tmp} (hr : fn.results = #[.cell q 48]) (tmps : Array Value) (w : World) {g : Nat} {d : OutT} (hp : tmps.getD q undef = .pointer (some ⟨g, 0, none⟩)) (h : OutAt w g d) :
    (results fn tmps).run Try.prog w = .ok (outV d) w :=
  results_cell_row hr tmps w g 48 (outCs d).toArray (0, 0) _ hp h.arr Try.underlying48 rfl (by rw [List.size_toArray]; exact outSz h.ok)
end Go.Proofs.Ytbbfnpfkbbpjgaa

/- Slices of elements: their places; one cell made. -/
namespace Go.Proofs.Ytbbfnpfkbbpjgaa
open Go.RowKit Go.Lib
set_option linter.unusedVariables false
set_option linter.unusedSimpArgs false

theorem Sl.shape {w : World} {v : Value} {sz : Nat} {α : Type} {f : α → List Value} {l : List α} (h : Sl w v sz (l.map f)) : ∃ a c, v = .slice a l.length c ∧ l.length ≤ c ∧ c ≤ maxLen ∧ (a = none → c = 0) := by
  obtain ⟨a, c, h1, h2, h3, _, h0, _⟩ := h
  rw [List.length_map] at h1 h2
  exact ⟨a, c, h1, h2, h3, h0⟩
theorem Sl.block {w : World} {v : Value} {sz : Nat} {α : Type} {f : α → List Value} {l : List α} (h : Sl w v sz (l.map f)) (h0 : 0 < l.length) :
    ∃ b k c, v = .slice (some ⟨b, k, none⟩) l.length c ∧ b < w.heap.size ∧ ∀ i x, l[i]? = some x → Cells w b (k + i * sz) (f x) := by
  obtain ⟨a, c, h1, h2, h3, h4, _, h5⟩ := h
  obtain ⟨b, k, rfl, hb, hc⟩ := h5 (by intro hn; rw [List.map_eq_nil_iff] at hn; subst hn; simp at h0)
  rw [List.length_map] at h1
  exact ⟨b, k, c, h1, hb, fun i x hx => hc i (f x) (by rw [List.getElem?_map, hx]; rfl)⟩
theorem get_ok {α : Type} {l : List α} {Ok : α → Prop} (h : ∀ x ∈ l, Ok x) {k : Nat} (hk : k < l.length) : ∃ x, l[k]? = some x ∧ Ok x := ⟨l[k], List.getElem?_eq_getElem hk, h _ (List.getElem_mem _)⟩
theorem any_take {α : Type} (l : List α) (g : α → Bool) (k : Nat) (x : α) (h : l[k]? = some x) : (l.take (k + 1)).any g = ((l.take k).any g || g x) := by
  obtain ⟨hk, rfl⟩ := List.getElem?_eq_some_iff.1 h
  rw [List.take_succ_eq_append_getElem hk, List.any_append]
  simp
theorem any_of_get {α : Type} {l : List α} {g : α → Bool} {k : Nat} {x : α} (h : l[k]? = some x) (hg : g x = true) : l.any g = true := by
  rw [List.any_eq_true]
  exact ⟨x, List.mem_of_getElem? h, hg⟩
theorem rises_snoc {α : Type} (g : α → List UInt8) (x y : α) : ∀ l : List α, risesB g (l ++ [x, y]) = (risesB g (l ++ [x]) && Op.bytesLess (g x) (g y))
  | [] => by simp [risesB]
  | [a] => by simp [risesB, Bool.and_assoc]
  | a :: b :: l => by
    have ih := rises_snoc g x y (b :: l)
    simp only [List.cons_append, risesB] at ih ⊢
    rw [ih, Bool.and_assoc]
theorem rises_next {α : Type} (g : α → List UInt8) (l : List α) (k : Nat) (x y : α) (hx : l[k - 1]? = some x) (hy : l[k]? = some y) (h0 : 0 < k) : risesB g (l.take (k + 1)) = (risesB g (l.take k) && Op.bytesLess (g x) (g y)) := by
  obtain ⟨j, rfl⟩ : ∃ j, k = j + 1 := ⟨k - 1, by omega⟩
  rw [Nat.add_sub_cancel] at hx
  obtain ⟨hj, rfl⟩ := List.getElem?_eq_some_iff.1 hx
  obtain ⟨hk, rfl⟩ := List.getElem?_eq_some_iff.1 hy
  rw [List.take_succ_eq_append_getElem hk, List.take_succ_eq_append_getElem hj, List.append_assoc]
  exact rises_snoc g _ _ _
theorem rises_stop {α : Type} (g : α → List UInt8) : ∀ (l : List α) (k : Nat), risesB g (l.take k) = false → risesB g l = false
  | [], k, h => by simp [risesB] at h
  | [a], 0, h => by simp [risesB] at h
  | [a], k + 1, h => by simp [risesB] at h
  | a :: b :: l, 0, h => by simp [risesB] at h
  | a :: b :: l, 1, h => by simp [risesB] at h
  | a :: b :: l, k + 2, h => by
    simp only [List.take_succ_cons, risesB, Bool.and_eq_false_iff] at h ⊢
    rcases h with h | h
    · exact .inl h
    · exact .inr (rises_stop g (b :: l) (k + 1) (by rw [List.take_succ_cons]; exact h))
theorem rises_one {α : Type} (g : α → List UInt8) (l : List α) : risesB g (l.take 1) = true := by
  cases l <;> simp [risesB]
end Go.Proofs.Ytbbfnpfkbbpjgaa

/- Deeds in memory. -/
namespace Go.Proofs.Ytbbfnpfkbbpjgaa
open Go.RowKit Go.Lib
set_option linter.unusedVariables false
set_option linter.unusedSimpArgs false

section
variable {w w' : World} {g : Nat} {v1 v2 v3 v4 v5 : Value} {f s t : Nat}
end
theorem Sl.one' {w : World} {v : Value} {sz : Nat} {els : List (List Value)} (h : Sl w v sz els) : v.oneCell' = true := by
  obtain ⟨_, _, rfl, _⟩ := h; rfl
section
variable {ops : Array Oper} {rest : List Oper} {o : Oper} {a : Act} {w w0 : World} {Q : Exit → Act → World → Prop} {K : Act → Prop} {v1 v2 v3 v4 v5 : Value} {f s t : Nat}
theorem wpl_gtr {P : Program} {ops : Array Oper} {rest : List Oper} {o : Oper} {a : Act} {w : World} {Q : Exit → Act → World → Prop} (hw : Region.wanted o (yielded ops a.tmps) = true) {t u : TypeId} (x y : Operand) (ho : o.op = .binOp .gtr t x y u) {k : IntKind} {m n : Int} (hx : a.eval x = .int k m) (hy : a.eval y = .int k n) {B : Bool} (hB : decide (n < m) = B) (hk : wpList P ops Q rest (a.put o.dst (.bool B)) w) : wpList P ops Q (o :: rest) a w :=
  wpl_value hw _ (by
    unfold execOp
    simp only [ho, hx, hy, Sem.run_bind]
    subst hB
    simp [eqGuard, binOp, Op.intCmp]) hk
end
end Go.Proofs.Ytbbfnpfkbbpjgaa

/- The elements of layer 13 as elements of slices. -/
namespace Go.Proofs.Ytbbfnpfkbbpjgaa
open Go.RowKit Go.Lib
set_option linter.unusedVariables false
set_option linter.unusedSimpArgs false

theorem elOf {P : Program} {t e sz by' : Nat} (ht : P.underlying t = some (.slice e)) (hz : 0 < sz) (h : (P.info? e).map (fun i => (i.size, i.bytes, i.zero.map (·.cells.size))) = some (sz, by', some sz)) : ElemOf P t e sz by' := by
  obtain ⟨i, hi, h1⟩ := Option.map_eq_some_iff.1 h
  simp only [Prod.mk.injEq] at h1
  obtain ⟨h2, h3, h4⟩ := h1
  obtain ⟨z, hz', h5⟩ := Option.map_eq_some_iff.1 h4
  exact ⟨ht, hz, i, z, hi, hz', h2, h3, h5⟩
theorem outElem : ElemOf Try.prog 28 48 65 72 := elOf Try.underlying28 (by decide) (by kernel_rfl)
theorem OwnR.off {w : World} {B e sz g : Nat} {v : Value} {els : List (List Value)} {X : List Nat} (h : OwnR w B e sz v els X) (hg : g < B) : ¬ v.ownBlock = some g := fun hs => by
  have := (World.ownsRow.lt h.1 g hs).1; omega
theorem OwnR.tg {w w' : World} {B e sz g : Nat} {v : Value} {els : List (List Value)} {X : List Nat} (h : OwnR w B e sz v els X) (ht : Touch (fun b => b = g) w w') (hg : g < B) : OwnR w' B e sz v els X :=
  ⟨owns_touch h.1 ht (fun b hb hs => h.off hg (by have e : b = g := hs; rw [e] at hb; exact hb)), h.2⟩
theorem OwnR.ge {w : World} {B e sz : Nat} {v : Value} {els : List (List Value)} {X : List Nat} (h : OwnR w B e sz v els X) : ∀ b, v.ownBlock = some b → B ≤ b := fun b hb => (World.ownsRow.lt h.1 b hb).1
theorem ok_snoc {α : Type} {P : α → Prop} {l : List α} {x : α} (h : ∀ y ∈ l, P y) (hx : P x) : ∀ y ∈ l ++ [x], P y := fun y hy => by
  rcases List.mem_append.1 hy with h1 | h1
  · exact h y h1
  · simp at h1; subst h1; exact hx
end Go.Proofs.Ytbbfnpfkbbpjgaa

/- Deeds in memory: made, filled, handed back; deeds that are one's own. -/
namespace Go.Proofs.Ytbbfnpfkbbpjgaa
open Go.RowKit Go.Lib
set_option linter.unusedVariables false
set_option linter.unusedSimpArgs false

def nilS : Value := .slice none 0 0
section
variable {ops : Array Oper} {rest : List Oper} {o : Oper} {a : Act} {w w0 : World} {Q : Exit → Act → World → Prop} {K : Act → Prop} {v1 v2 v3 v4 v5 u1 u2 u3 u4 u5 : Value} {f s t i j k : Nat}
end
end Go.Proofs.Ytbbfnpfkbbpjgaa

/- A strings.Builder that is a part of deed.writer: its methods as contracts. -/
namespace Go.Proofs.Ytbbfnpfkbbpjgaa
open Go.RowKit Go.Lib
set_option linter.unusedVariables false
set_option linter.unusedSimpArgs false

/-- Blocks that are not of bytes, other than g, are as they were. -/
def KeepT (g : Nat) (w w' : World) : Prop := ∀ k cs t, k ≠ g → t ≠ 5 → Arr w k t cs → Arr w' k t cs
theorem KeepT.refl (g : Nat) (w : World) : KeepT g w w := fun _ _ _ _ _ h => h
theorem KeepT.trans {g : Nat} {a b c : World} (h : KeepT g a b) (k : KeepT g b c) : KeepT g a c := fun q cs t h1 h2 h3 => k q cs t h1 h2 (h q cs t h1 h2 h3)
theorem KeepT.below {g : Nat} {a b : World} (h : Below a.heap.size a b) : KeepT g a b := fun _ _ _ _ _ h3 => Arr.later h3 h
theorem KeepT.set {g k : Nat} {w : World} (v : Value) : KeepT g w (w.setCell ⟨g, k, none⟩ v) := fun q cs t h1 _ h3 => by
  unfold Arr at h3 ⊢
  rw [heap_setCell_other w ⟨g, k, none⟩ q v h1]
  exact h3
theorem KeepT.grown {g : Nat} {w w' : World} {B n : Nat} {v : Value} {xs : List Value} (ho : w.ownsRow B 5 1 v n xs) (hg : w.grownBy w' v.ownBlock) : KeepT g w w' := fun q cs t _ h2 h3 => by
  unfold Arr at h3 ⊢
  rw [hg.block q (Array.getElem?_eq_some_iff.1 h3).1 (fun e => by
    rcases ho.2 with ⟨hv, _⟩ | ⟨g', cap, cur, hv, _, hh, _⟩
    · rw [hv] at e; cases e
    · rw [hv] at e
      have e' : q = g' := Option.some.inj e
      subst e'
      rw [h3] at hh
      simp only [Option.some.injEq, Obj.cells.injEq] at hh
      exact h2 hh.2.1)]
  exact h3
end Go.Proofs.Ytbbfnpfkbbpjgaa

/- deed.body. -/
namespace Go.Proofs.Ytbbfnpfkbbpjgaa
open Go.RowKit Go.Lib
set_option linter.unusedVariables false
set_option linter.unusedSimpArgs false

theorem flat_next {α : Type} (f : α → List UInt8) (l : List α) (k : Nat) (x : α) (h : l[k]? = some x) : (l.take (k + 1)).flatMap f = (l.take k).flatMap f ++ f x := by
  obtain ⟨hk, rfl⟩ := List.getElem?_eq_some_iff.1 h
  rw [List.take_succ_eq_append_getElem hk, List.flatMap_append]
  simp
theorem flat_le {α : Type} (f : α → List UInt8) : ∀ (l : List α) (c : Nat), (∀ x ∈ l, (f x).length ≤ c) → (l.flatMap f).length ≤ l.length * c
  | [], _, _ => by simp
  | x :: l, c, h => by
    have h1 := h x (by simp)
    have h2 := flat_le f l c (fun y hy => h y (by simp [hy]))
    rw [List.flatMap_cons, List.length_append, List.length_cons, Nat.add_mul]
    omega
theorem out_le (x : OutT) (h : x.Ok) : (outtL x).length ≤ 80 := by have := putL_length x.amount; unfold outtL; rw [List.length_append, List.length_append, h.1, h.2.1]; omega
theorem InAt.keep {w w' : World} {g k : Nat} {x : InT} (h : InAt w k x) (hk : KeepT g w w') (hn : k ≠ g) : InAt w' k x := ⟨h.ok, hk k _ _ hn (by decide) h.arr⟩
theorem OutAt.keep {w w' : World} {g k : Nat} {x : OutT} (h : OutAt w k x) (hk : KeepT g w w') (hn : k ≠ g) : OutAt w' k x := ⟨h.ok, hk k _ _ hn (by decide) h.arr⟩
def numCs (L : List Nat) : List Value := L.map fun (n : Nat) => Value.int .u64 (n : Int)
theorem nums_flat : ∀ L, (numCs L).flatMap (fun v => v.cells.toList) = numCs L
  | [] => rfl
  | x :: r => by
    have ih := nums_flat r
    unfold numCs at ih ⊢
    rw [List.map_cons, List.flatMap_cons, ih]; rfl
theorem u64Info : ∃ i z, Try.prog.info? 23 = some i ∧ i.size = 1 ∧ i.zero = some z ∧ z.cells.size = 1 := by
  obtain ⟨i, hi, h1⟩ := Option.map_eq_some_iff.1 (show (Try.prog.info? 23).map (fun i => (i.size, i.zero)) = some (1, some (.int .u64 0)) by kernel_rfl)
  simp only [Prod.mk.injEq] at h1
  exact ⟨i, _, hi, h1.1, h1.2, rfl⟩
end Go.Proofs.Ytbbfnpfkbbpjgaa
