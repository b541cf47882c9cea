/- api.Wit: its cells, in memory, made, boxed, filled, loaded, compared. -/
import Derived.Test.YtbbfnpfkbbpjgaaGreatQBHdEq
import Derived.Test.YtbbfnpfkbbpjgaaGreatQBTakeL
import Derived.Test.YtbbfnpfkbbpjgaaGreatQBElOut
namespace Go.Proofs.YtbbfnpfkbbpjgaaGreat
open Go.RowKit Go.Lib
set_option linter.unusedVariables false
set_option linter.unusedSimpArgs false
set_option maxRecDepth 100000
set_option maxHeartbeats 4000000
def witCs (x : WitT) : List Value := bvs x.key ++ ([.string x.sig])
def witV (x : WitT) : Value := .agg (witCs x).toArray
theorem q6o {x : WitT} (h : x.Ok) : (witCs x).length = 33 := by
  have q0 : x.key.length = 32 := h
  unfold witCs; simp [q0e, q0]
theorem j5n (x : WitT) : ∀ v ∈ witCs x, v.oneCell' = true := by
  intro v hv
  unfold witCs at hv
  simp only [List.mem_cons, List.mem_append, List.not_mem_nil, or_false] at hv
  rcases hv with hv | rfl
  · exact List.all_eq_true.1 (q1v x.key) v hv
  · rfl
structure WitAt (w : World) (g : Nat) (x : WitT) : Prop where
  ok : x.Ok
  arr : Arr w g 74 (witCs x)
section
variable {w w' : World} {g bb kk : Nat} {x : WitT}
theorem WitAt.lt (h : WitAt w g x) : g < w.heap.size := Arr.lt h.arr
theorem WitAt.later (h : WitAt w g x) (hb : Below w.heap.size w w') : WitAt w' g x := ⟨h.ok, h.arr.later hb⟩
theorem WitAt.below {B : Nat} (h : WitAt w g x) (hb : Below B w w') (hB : g < B) : WitAt w' g x := ⟨h.ok, Arr.below h.arr hb hB⟩
theorem WitAt.touch {S : Nat → Prop} (h : WitAt w g x) (ht : Touch S w w') (hS : ¬ S g) : WitAt w' g x := ⟨h.ok, h.arr.touch ht hS⟩
theorem WitAt.tt {g' : Nat} (h : WitAt w g x) (ht : Touch (fun y => y = g') w w') (hS : ¬ g = g' := by omega) : WitAt w' g x := h.touch ht hS
theorem WitAt.cells (h : WitAt w g x) : Cells w g 0 (witCs x) := Cells.arr h.arr
theorem witR0 (h : Cells w bb kk (witCs x)) : Cells w bb kk (bvs x.key ++ ([.string x.sig])) := h
theorem WitAt.key (h : WitAt w g x) : Cells w g 0 (bvs x.key) := Cells.left (witR0 h.cells)
theorem witR1 (h : Cells w bb kk (witCs x)) (ok : x.Ok) : Cells w bb (kk + 32) ([.string x.sig]) := Cells.right (n := 32) (witR0 h) (by rw [q0e, show x.key.length = 32 from ok])
theorem WitAt.sig (h : WitAt w g x) : w.cell? ⟨g, 32, none⟩ = some (.string x.sig) := by
  have := (witR1 h.cells h.ok).one
  rwa [Nat.zero_add] at this
end
theorem witSize : (Tryz.prog.info? 74).map (·.size) = some 33 := by kernel_rfl
theorem witSz {x : WitT} (h : x.Ok) : (Tryz.prog.info? 74).map (·.size) = some (witCs x).length := by rw [q6o h]; exact witSize
def wit0 : WitT := ⟨zero32, ByteArray.empty⟩
theorem z0q : wit0.Ok := rfl
theorem witZero : (Tryz.prog.info? 74).bind (·.zero) = some (witV wit0) := by kernel_rfl
section
variable {ops : Array Oper} {rest : List Oper} {o : Oper} {a : Act} {w w0 : World} {Q : Exit → Act → World → Prop} {K : Act → Prop}
theorem q8s (hw : Region.wanted o (yielded ops a.tmps) = true) (x : Operand) (ho : o.op = .box 74 x) {d : WitT} (hx : a.eval x = witV d) (hr : d.Ok)
    (hk : ∀ w2 g, w.heap.size ≤ g → WitAt w2 g d → Below w.heap.size w w2 → wpList Tryz.prog ops Q rest (a.put o.dst (.pointer (some ⟨g, 0, none⟩))) w2) : wpList Tryz.prog ops Q (o :: rest) a w :=
  q4k hw 74 x ho hx (cs := witCs d) (by simp [witV, Value.cells]) (fun w2 g hg h hb => hk w2 g hg ⟨hr, h⟩ hb)
theorem q8d (hw : Region.wanted o (yielded ops a.tmps) = true) (ho : o.op = .alloc 74)
    (hk : ∀ w2 g, w.heap.size ≤ g → WitAt w2 g wit0 → Below w.heap.size w w2 → wpList Tryz.prog ops Q rest (a.put o.dst (.pointer (some ⟨g, 0, none⟩))) w2) : wpList Tryz.prog ops Q (o :: rest) a w :=
  q4s hw 74 ho witZero (cs := witCs wit0) (by simp [witV, Value.cells]) (fun w2 g hg h hb => hk w2 g hg ⟨z0q, h⟩ hb)
theorem q7e (hgd : o.guard = none) (x y : Operand) (ho : o.op = .store 74 x y) {g : Nat} {d0 d : WitT} (hx : a.eval x = .pointer (some ⟨g, 0, none⟩)) (hy : a.eval y = witV d) (hr : d.Ok) (h : WitAt w g d0)
    (hk : ∀ w2, WitAt w2 g d → Touch (fun b => b = g) w w2 → wpList Tryz.prog ops Q rest (a.put o.dst undef) w2) : wpList Tryz.prog ops Q (o :: rest) a w :=
  q5i hgd 74 x y ho hx hy h.arr (witSz hr) (by rw [q6o hr, q6o h.ok]) (j5n d) (fun w2 ha ht => hk w2 ⟨hr, ha⟩ ht)
theorem q5r (hw : Region.wanted o (yielded ops a.tmps) = true) (x : Operand) (ho : o.op = .load 74 x) {b k : Nat} {d : WitT} (hx : a.eval x = .pointer (some ⟨b, k, none⟩)) (h : Cells w b k (witCs d)) (hr : d.Ok)
    (hk : wpList Tryz.prog ops Q rest (a.put o.dst (witV d)) w) : wpList Tryz.prog ops Q (o :: rest) a w :=
  q1f hw 74 x ho hx h _ Tryz.underlying74 rfl (witSz hr) hk
theorem q1i (x : Operand) (ho : o.op = .load 74 x) {b k : Nat} {d : WitT} (hx : a.eval x = .pointer (some ⟨b, k, none⟩)) (h : Cells w0 b k (witCs d)) (hr : d.Ok) (hk : K (a.put o.dst (witV d))) :
    o.quiet Tryz.prog a (fun w' => ∃ s : Since w0, w' = s.w) K := q1t 74 x ho hx h _ Tryz.underlying74 rfl (witSz hr) hk
theorem x0r (x y : WitT) (hx : x.Ok) (hy : y.Ok) (w : World) : (Op.equalIn 10000 74 (witV x) (witV y)).run Tryz.prog w = .ok (sameWit x y) w := by
  unfold witV
  rw [run_equalIn_struct w 9999 74 _ _ (by kernel_rfl) (by kernel_rfl)]
  have bx0 : (bvs x.key).length = 32 := by rw [q0e, hx]
  have dx0 : (witCs x).drop 0 = bvs x.key ++ ([.string x.sig]) := rfl
  have ex0 : ((witCs x).drop 0).take 32 = bvs x.key := by rw [dx0]; exact take_left bx0
  have dx1 : (witCs x).drop 32 = [.string x.sig] := by
    rw [show 32 = 0 + 32 by rfl, ← List.drop_drop, dx0, drop_left bx0]
  have ex1 := q5f dx1
  have by0 : (bvs y.key).length = 32 := by rw [q0e, hy]
  have dy0 : (witCs y).drop 0 = bvs y.key ++ ([.string y.sig]) := rfl
  have ey0 : ((witCs y).drop 0).take 32 = bvs y.key := by rw [dy0]; exact take_left by0
  have dy1 : (witCs y).drop 32 = [.string y.sig] := by
    rw [show 32 = 0 + 32 by rfl, ← List.drop_drop, dy0, drop_left by0]
  have ey1 := q5f dy1
  unfold Program.fieldsOf
  rw [Tryz.underlying74]
  unfold sameWit
  refine q1o (by decide) (q1p ex0 w) (q1p ey0 w) (q2h 9997 x.key y.key hx hy w) ?_
  exact q4w (by decide) (run_part_plain w q6s ex1) (run_part_plain w q6s ey1) (by rw [run_equalIn_string w 9998 9 _ _ Tryz.underlying9, j7w])
theorem j0r {C : World → Prop} (p q : Operand) (ho : o.op = .binOp .neq 74 p q 74) {x y : WitT} (hx : a.eval p = witV x) (hy : a.eval q = witV y) (kx : x.Ok) (ky : y.Ok) (hk : K (a.put o.dst (.bool (!(sameWit x y))))) : o.quiet Tryz.prog a C K :=
  q2x _ (fun w _ => j0e 74 p q ho hx hy (by kernel_rfl) (x0r x y kx ky) w) hk
end
theorem x9u {fn : Func} {q : Tmp} (hr : fn.results = #[.cell q 74]) (tmps : Array Value) (w : World) {g : Nat} {d : WitT} (hp : tmps.getD q undef = .pointer (some ⟨g, 0, none⟩)) (h : WitAt w g d) :
    (results fn tmps).run Tryz.prog w = .ok (witV d) w :=
  results_cell_row hr tmps w g 74 (witCs d).toArray (0, 0) _ hp h.arr Tryz.underlying74 rfl (by rw [List.size_toArray]; exact witSz h.ok)
end Go.Proofs.YtbbfnpfkbbpjgaaGreat
/- Slices of elements: their places; one cell made. -/
namespace Go.Proofs.YtbbfnpfkbbpjgaaGreat
open Go.RowKit Go.Lib
set_option linter.unusedVariables false
set_option linter.unusedSimpArgs false
set_option maxRecDepth 100000
set_option maxHeartbeats 4000000
theorem Sl.shape {w : World} {v : Value} {sz : Nat} {α : Type} {f : α → List Value} {l : List α} (h : Sl w v sz (l.map f)) : ∃ a c, v = .slice a l.length c ∧ l.length ≤ c ∧ c ≤ maxLen ∧ (a = none → c = 0) := by
  obtain ⟨a, c, h1, h2, h3, _, h0, _⟩ := h
  rw [List.length_map] at h1 h2
  exact ⟨a, c, h1, h2, h3, h0⟩
theorem Sl.block {w : World} {v : Value} {sz : Nat} {α : Type} {f : α → List Value} {l : List α} (h : Sl w v sz (l.map f)) (h0 : 0 < l.length) :
    ∃ b k c, v = .slice (some ⟨b, k, none⟩) l.length c ∧ b < w.heap.size ∧ ∀ i x, l[i]? = some x → Cells w b (k + i * sz) (f x) := by
  obtain ⟨a, c, h1, h2, h3, h4, _, h5⟩ := h
  obtain ⟨b, k, rfl, hb, hc⟩ := h5 (by intro hn; rw [List.map_eq_nil_iff] at hn; subst hn; simp at h0)
  rw [List.length_map] at h1
  exact ⟨b, k, c, h1, hb, fun i x hx => hc i (f x) (by rw [List.getElem?_map, hx]; rfl)⟩
theorem q1u {α : Type} {l : List α} {Ok : α → Prop} (h : ∀ x ∈ l, Ok x) {k : Nat} (hk : k < l.length) : ∃ x, l[k]? = some x ∧ Ok x := ⟨l[k], List.getElem?_eq_getElem hk, h _ (List.getElem_mem _)⟩
theorem q9j {α : Type} (l : List α) (g : α → Bool) (k : Nat) (x : α) (h : l[k]? = some x) : (l.take (k + 1)).any g = ((l.take k).any g || g x) := by
  obtain ⟨hk, rfl⟩ := List.getElem?_eq_some_iff.1 h
  rw [List.take_succ_eq_append_getElem hk, List.any_append]
  simp
theorem q6v {α : Type} {l : List α} {g : α → Bool} {k : Nat} {x : α} (h : l[k]? = some x) (hg : g x = true) : l.any g = true := by
  rw [List.any_eq_true]
  exact ⟨x, List.mem_of_getElem? h, hg⟩
theorem j1u {α : Type} (l : List α) (g : α → Bool) : (l.any fun x => !(g x)) = !(l.all g) := by
  induction l with
  | nil => rfl
  | cons x r ih => rw [List.any_cons, List.all_cons, ih, Bool.not_and]
theorem j3p {α : Type} (g : α → List UInt8) (x y : α) : ∀ l : List α, risesB g (l ++ [x, y]) = (risesB g (l ++ [x]) && Op.bytesLess (g x) (g y))
  | [] => by simp [risesB]
  | [a] => by simp [risesB, Bool.and_assoc]
  | a :: b :: l => by
    have ih := j3p g x y (b :: l)
    simp only [List.cons_append, risesB] at ih ⊢
    rw [ih, Bool.and_assoc]
theorem q8c {α : Type} (g : α → List UInt8) (l : List α) (k : Nat) (x y : α) (hx : l[k - 1]? = some x) (hy : l[k]? = some y) (h0 : 0 < k) : risesB g (l.take (k + 1)) = (risesB g (l.take k) && Op.bytesLess (g x) (g y)) := by
  obtain ⟨j, rfl⟩ : ∃ j, k = j + 1 := ⟨k - 1, by omega⟩
  rw [Nat.add_sub_cancel] at hx
  obtain ⟨hj, rfl⟩ := List.getElem?_eq_some_iff.1 hx
  obtain ⟨hk, rfl⟩ := List.getElem?_eq_some_iff.1 hy
  rw [List.take_succ_eq_append_getElem hk, List.take_succ_eq_append_getElem hj, List.append_assoc]
  exact j3p g _ _ _
theorem q7b {α : Type} (g : α → List UInt8) : ∀ (l : List α) (k : Nat), risesB g (l.take k) = false → risesB g l = false
  | [], k, h => by simp [risesB] at h
  | [a], 0, h => by simp [risesB] at h
  | [a], k + 1, h => by simp [risesB] at h
  | a :: b :: l, 0, h => by simp [risesB] at h
  | a :: b :: l, 1, h => by simp [risesB] at h
  | a :: b :: l, k + 2, h => by
    simp only [List.take_succ_cons, risesB, Bool.and_eq_false_iff] at h ⊢
    rcases h with h | h
    · exact .inl h
    · exact .inr (q7b g (b :: l) (k + 1) (by rw [List.take_succ_cons]; exact h))
theorem q9h {α : Type} (g : α → List UInt8) (l : List α) : risesB g (l.take 1) = true := by
  cases l <;> simp [risesB]
end Go.Proofs.YtbbfnpfkbbpjgaaGreat
/- Deeds in memory. -/
namespace Go.Proofs.YtbbfnpfkbbpjgaaGreat
open Go.RowKit Go.Lib
set_option linter.unusedVariables false
set_option linter.unusedSimpArgs false
set_option maxRecDepth 100000
set_option maxHeartbeats 4000000
def deedCs (v1 v2 v3 v4 v5 : Value) (f s t : Nat) : List Value := [v1, v2, .int .u64 f, .int .u64 s, .int .u64 t, v3, v4, v5]
def deedV (v1 v2 v3 v4 v5 : Value) (f s t : Nat) : Value := .agg (deedCs v1 v2 v3 v4 v5 f s t).toArray
/-- v is the deed d. -/
def DeedIs (w : World) (v : Value) (d : Deed) : Prop := ∃ v1 v2 v3 v4 v5, v = deedV v1 v2 v3 v4 v5 d.fee d.frm d.til ∧ Sl w v1 33 (d.ins.map inCs) ∧ Sl w v2 65 (d.outs.map outCs) ∧ Sl w v3 68 (d.certs.map certCs) ∧ Sl w v4 33 (d.pays.map payCs) ∧ Sl w v5 33 (d.wits.map witCs) ∧ d.Ok
theorem DeedIs.later {w w' : World} {v : Value} {d : Deed} (h : DeedIs w v d) (hb : Below w.heap.size w w') : DeedIs w' v d := by
  obtain ⟨v1, v2, v3, v4, v5, h0, h1, h2, h3, h4, h5, h6⟩ := h
  exact ⟨v1, v2, v3, v4, v5, h0, h1.later hb, h2.later hb, h3.later hb, h4.later hb, h5.later hb, h6⟩
theorem deedSize : (Tryz.prog.info? 29).map (·.size) = some 8 := by kernel_rfl
/-- A variable that holds a deed. -/
structure DAt (w : World) (g : Nat) (v1 v2 v3 v4 v5 : Value) (f s t : Nat) : Prop where
  o1 : v1.oneCell' = true
  o2 : v2.oneCell' = true
  o3 : v3.oneCell' = true
  o4 : v4.oneCell' = true
  o5 : v5.oneCell' = true
  arr : Arr w g 29 (deedCs v1 v2 v3 v4 v5 f s t)
section
variable {w w' : World} {g : Nat} {v1 v2 v3 v4 v5 : Value} {f s t : Nat}
theorem DAt.lt (h : DAt w g v1 v2 v3 v4 v5 f s t) : g < w.heap.size := Arr.lt h.arr
theorem DAt.later (h : DAt w g v1 v2 v3 v4 v5 f s t) (hb : Below w.heap.size w w') : DAt w' g v1 v2 v3 v4 v5 f s t := ⟨h.o1, h.o2, h.o3, h.o4, h.o5, h.arr.later hb⟩
theorem DAt.touch {S : Nat → Prop} (h : DAt w g v1 v2 v3 v4 v5 f s t) (ht : Touch S w w') (hS : ¬ S g) : DAt w' g v1 v2 v3 v4 v5 f s t := ⟨h.o1, h.o2, h.o3, h.o4, h.o5, h.arr.touch ht hS⟩
theorem DAt.tt {g' : Nat} (h : DAt w g v1 v2 v3 v4 v5 f s t) (ht : Touch (fun y => y = g') w w') (hS : ¬ g = g' := by omega) : DAt w' g v1 v2 v3 v4 v5 f s t := h.touch ht hS
theorem DAt.cells (h : DAt w g v1 v2 v3 v4 v5 f s t) : Cells w g 0 (deedCs v1 v2 v3 v4 v5 f s t) := Cells.arr h.arr
theorem DAt.c0 (h : DAt w g v1 v2 v3 v4 v5 f s t) : w.cell? ⟨g, 0, none⟩ = some v1 := h.cells.one
theorem DAt.c1 (h : DAt w g v1 v2 v3 v4 v5 f s t) : w.cell? ⟨g, 1, none⟩ = some v2 := h.cells.tail.one
theorem DAt.c2 (h : DAt w g v1 v2 v3 v4 v5 f s t) : w.cell? ⟨g, 2, none⟩ = some (.int .u64 f) := h.cells.tail.tail.one
theorem DAt.c3 (h : DAt w g v1 v2 v3 v4 v5 f s t) : w.cell? ⟨g, 3, none⟩ = some (.int .u64 s) := h.cells.tail.tail.tail.one
theorem DAt.c4 (h : DAt w g v1 v2 v3 v4 v5 f s t) : w.cell? ⟨g, 4, none⟩ = some (.int .u64 t) := h.cells.tail.tail.tail.tail.one
theorem DAt.c5 (h : DAt w g v1 v2 v3 v4 v5 f s t) : w.cell? ⟨g, 5, none⟩ = some v3 := h.cells.tail.tail.tail.tail.tail.one
theorem DAt.c6 (h : DAt w g v1 v2 v3 v4 v5 f s t) : w.cell? ⟨g, 6, none⟩ = some v4 := h.cells.tail.tail.tail.tail.tail.tail.one
theorem DAt.c7 (h : DAt w g v1 v2 v3 v4 v5 f s t) : w.cell? ⟨g, 7, none⟩ = some v5 := h.cells.tail.tail.tail.tail.tail.tail.tail.one
end
theorem Sl.one' {w : World} {v : Value} {sz : Nat} {els : List (List Value)} (h : Sl w v sz els) : v.oneCell' = true := by
  obtain ⟨_, _, rfl, _⟩ := h; rfl
section
variable {ops : Array Oper} {rest : List Oper} {o : Oper} {a : Act} {w w0 : World} {Q : Exit → Act → World → Prop} {K : Act → Prop} {v1 v2 v3 v4 v5 : Value} {f s t : Nat}
theorem q1h (hw : Region.wanted o (yielded ops a.tmps) = true) (x : Operand) (ho : o.op = .box 29 x) (hx : a.eval x = deedV v1 v2 v3 v4 v5 f s t) (o1 : v1.oneCell' = true) (o2 : v2.oneCell' = true) (o3 : v3.oneCell' = true) (o4 : v4.oneCell' = true) (o5 : v5.oneCell' = true)
    (hk : ∀ w2 g, w.heap.size ≤ g → DAt w2 g v1 v2 v3 v4 v5 f s t → Below w.heap.size w w2 → wpList Tryz.prog ops Q rest (a.put o.dst (.pointer (some ⟨g, 0, none⟩))) w2) : wpList Tryz.prog ops Q (o :: rest) a w :=
  q4k hw 29 x ho hx (cs := deedCs v1 v2 v3 v4 v5 f s t) (by simp [deedV, Value.cells]) (fun w2 g hg h hb => hk w2 g hg ⟨o1, o2, o3, o4, o5, h⟩ hb)
theorem q0f (hw : Region.wanted o (yielded ops a.tmps) = true) (x : Operand) (ho : o.op = .load 29 x) {g : Nat} (hx : a.eval x = .pointer (some ⟨g, 0, none⟩)) (h : DAt w g v1 v2 v3 v4 v5 f s t)
    (hk : wpList Tryz.prog ops Q rest (a.put o.dst (deedV v1 v2 v3 v4 v5 f s t)) w) : wpList Tryz.prog ops Q (o :: rest) a w :=
  q1f hw 29 x ho hx h.cells _ Tryz.underlying29 rfl deedSize hk
theorem q4j {P : Program} {ops : Array Oper} {rest : List Oper} {o : Oper} {a : Act} {w : World} {Q : Exit → Act → World → Prop} (hw : Region.wanted o (yielded ops a.tmps) = true) {t u : TypeId} (x y : Operand) (ho : o.op = .binOp .gtr t x y u) {k : IntKind} {m n : Int} (hx : a.eval x = .int k m) (hy : a.eval y = .int k n) {B : Bool} (hB : decide (n < m) = B) (hk : wpList P ops Q rest (a.put o.dst (.bool B)) w) : wpList P ops Q (o :: rest) a w :=
  q3v hw _ (by
    unfold execOp
    simp only [ho, hx, hy, Sem.run_bind]
    subst hB
    simp [eqGuard, binOp, Op.intCmp]) hk
end
end Go.Proofs.YtbbfnpfkbbpjgaaGreat
