/- A key in memory; the steps of a walk that make, load and fill it. -/
import Derived.Test.YtofjjpielkfloaaQEvo2
namespace Go.Proofs.Ytofjjpielkfloaa
open Go.RowKit Go.Lib
set_option linter.unusedVariables false
set_option linter.unusedSimpArgs false

def evCs (d p : Int) (leaf : List UInt8) (rv sv : Value) : List Value := .int .i64 d :: .int .i64 p :: (bvs leaf ++ [rv, sv])
def evV (d p : Int) (leaf : List UInt8) (rv sv : Value) : Value := .agg (evCs d p leaf rv sv).toArray
theorem evCs_length {d p : Int} {leaf : List UInt8} {rv sv : Value} (h : leaf.length = 32) : (evCs d p leaf rv sv).length = 36 := by
  unfold evCs; simp [bvs_length, h]
structure EvoAt (w : World) (g : Nat) (d p : Int) (leaf : List UInt8) (rv sv : Value) : Prop where
  len : leaf.length = 32
  r1 : rv.oneCell' = true
  s1 : sv.oneCell' = true
  arr : Arr w g 26 (evCs d p leaf rv sv)
section
variable {w w' : World} {g : Nat} {d p : Int} {leaf : List UInt8} {rv sv : Value}
theorem EvoAt.lt (h : EvoAt w g d p leaf rv sv) : g < w.heap.size := Arr.lt h.arr
theorem EvoAt.later (h : EvoAt w g d p leaf rv sv) (hb : Below w.heap.size w w') : EvoAt w' g d p leaf rv sv := ⟨h.len, h.r1, h.s1, h.arr.later hb⟩
theorem EvoAt.touch {S : Nat → Prop} (h : EvoAt w g d p leaf rv sv) (ht : Touch S w w') (hS : ¬ S g) : EvoAt w' g d p leaf rv sv := ⟨h.len, h.r1, h.s1, h.arr.touch ht hS⟩
theorem EvoAt.tt {g' : Nat} (h : EvoAt w g d p leaf rv sv) (ht : Touch (fun x => x = g') w w') (hS : ¬ g = g' := by omega) : EvoAt w' g d p leaf rv sv := h.touch ht hS
theorem EvoAt.cells (h : EvoAt w g d p leaf rv sv) : Cells w g 0 (evCs d p leaf rv sv) := Cells.arr h.arr
theorem EvoAt.cd (h : EvoAt w g d p leaf rv sv) : w.cell? ⟨g, 0, none⟩ = some (.int .i64 d) := h.cells.one
theorem EvoAt.cp (h : EvoAt w g d p leaf rv sv) : w.cell? ⟨g, 1, none⟩ = some (.int .i64 p) := h.cells.tail.one
theorem EvoAt.cl (h : EvoAt w g d p leaf rv sv) : Cells w g 2 (bvs leaf) := Cells.left h.cells.tail.tail
theorem EvoAt.cr (h : EvoAt w g d p leaf rv sv) : w.cell? ⟨g, 34, none⟩ = some rv := (Cells.right (n := 32) h.cells.tail.tail (by rw [bvs_length, h.len])).one
theorem EvoAt.cs (h : EvoAt w g d p leaf rv sv) : w.cell? ⟨g, 35, none⟩ = some sv := (Cells.right (n := 32) h.cells.tail.tail (by rw [bvs_length, h.len])).tail.one
theorem EvoAt.all1 (h : EvoAt w g d p leaf rv sv) : ∀ v ∈ evCs d p leaf rv sv, v.oneCell' = true := by
  intro v hv
  unfold evCs at hv
  simp only [List.mem_cons, List.mem_append, List.not_mem_nil, or_false] at hv
  rcases hv with rfl | rfl | hv | rfl | rfl
  · rfl
  · rfl
  · exact List.all_eq_true.1 (bvs_one leaf) v hv
  · exact h.r1
  · exact h.s1
end
theorem evSize : (Try.prog.info? 26).map (·.size) = some 36 := by kernel_rfl
theorem evZero : (Try.prog.info? 26).bind (·.zero) = some (evV 0 0 zero32 (.slice none 0 0) (.slice none 0 0)) := by kernel_rfl
theorem leafSet {d p : Int} {leaf leaf' : List UInt8} {rv sv : Value} (h : leaf.length = 32) (h' : leaf'.length = 32) :
    (evCs d p leaf rv sv).take 2 ++ bvs leaf' ++ (evCs d p leaf rv sv).drop (2 + (bvs leaf').length) = evCs d p leaf' rv sv := by
  have e : (bvs leaf).length = 32 := by rw [bvs_length, h]
  have e' : (bvs leaf').length = 32 := by rw [bvs_length, h']
  unfold evCs
  rw [e', show (2 + 32) = 32 + 1 + 1 by omega]
  simp only [List.take_succ_cons, List.take_zero, List.drop_succ_cons]
  rw [← e, List.drop_left]
  rfl
theorem rightSet {d p : Int} {leaf : List UInt8} {rv sv v : Value} (h : leaf.length = 32) : (evCs d p leaf rv sv).set 34 v = evCs d p leaf v sv := by
  have e : (bvs leaf).length = 32 := by rw [bvs_length, h]
  unfold evCs
  simp [List.set_append, e]
theorem sideSet {d p : Int} {leaf : List UInt8} {rv sv v : Value} (h : leaf.length = 32) : (evCs d p leaf rv sv).set 35 v = evCs d p leaf rv v := by
  have e : (bvs leaf).length = 32 := by rw [bvs_length, h]
  unfold evCs
  simp [List.set_append, e]
section
variable {ops : Array Oper} {rest : List Oper} {o : Oper} {a : Act} {w w0 : World} {Q : Exit → Act → World → Prop} {K : Act → Prop}
theorem wpl_box_evo (hw : Region.wanted o (yielded ops a.tmps) = true) (x : Operand) (ho : o.op = .box 26 x) {d p : Int} {leaf : List UInt8} {rv sv : Value} (hx : a.eval x = evV d p leaf rv sv) (hl : leaf.length = 32) (hr : rv.oneCell' = true) (hs : sv.oneCell' = true)
    (hk : ∀ w2 g, w.heap.size ≤ g → EvoAt w2 g d p leaf rv sv → Below w.heap.size w w2 → wpList Try.prog ops Q rest (a.put o.dst (.pointer (some ⟨g, 0, none⟩))) w2) : wpList Try.prog ops Q (o :: rest) a w :=
  wpl_box hw 26 x ho hx (cs := evCs d p leaf rv sv) (by simp [evV, Value.cells]) (fun w2 g hg h hb => hk w2 g hg ⟨hl, hr, hs, h⟩ hb)
theorem wpl_mk_evo (hw : Region.wanted o (yielded ops a.tmps) = true) (ho : o.op = .alloc 26)
    (hk : ∀ w2 g, w.heap.size ≤ g → EvoAt w2 g 0 0 zero32 (.slice none 0 0) (.slice none 0 0) → Below w.heap.size w w2 → wpList Try.prog ops Q rest (a.put o.dst (.pointer (some ⟨g, 0, none⟩))) w2) : wpList Try.prog ops Q (o :: rest) a w :=
  wpl_mk hw 26 ho evZero (cs := evCs 0 0 zero32 (.slice none 0 0) (.slice none 0 0)) (by simp [evV, Value.cells]) (fun w2 g hg h hb => hk w2 g hg ⟨rfl, rfl, rfl, h⟩ hb)
theorem wpl_set_evo (hgd : o.guard = none) (x y : Operand) (ho : o.op = .store 26 x y) {g : Nat} {d0 p0 : Int} {leaf0 : List UInt8} {rv0 sv0 : Value} {d p : Int} {leaf : List UInt8} {rv sv : Value} (hx : a.eval x = .pointer (some ⟨g, 0, none⟩)) (hy : a.eval y = evV d p leaf rv sv)
    (hl : leaf.length = 32) (hr : rv.oneCell' = true) (hs : sv.oneCell' = true) (h : EvoAt w g d0 p0 leaf0 rv0 sv0)
    (hk : ∀ w2, EvoAt w2 g d p leaf rv sv → Touch (fun b => b = g) w w2 → wpList Try.prog ops Q rest (a.put o.dst undef) w2) : wpList Try.prog ops Q (o :: rest) a w :=
  wpl_fill hgd 26 x y ho hx hy h.arr (by rw [evCs_length hl]; exact evSize) (by rw [evCs_length hl, evCs_length h.len]) (EvoAt.all1 (w := w.alloc (.cells (evCs d p leaf rv sv).toArray 26)) ⟨hl, hr, hs, Arr.new w _ _⟩) (fun w2 ha ht => hk w2 ⟨hl, hr, hs, ha⟩ ht)
theorem wpl_set_leaf (hgd : o.guard = none) (x y : Operand) (ho : o.op = .store 23 x y) {g : Nat} {d p : Int} {leaf : List UInt8} {rv sv : Value} {l : List UInt8} (hx : a.eval x = .pointer (some ⟨g, 2, none⟩)) (hy : a.eval y = hv l)
    (hl : l.length = 32) (h : EvoAt w g d p leaf rv sv)
    (hk : ∀ w2, EvoAt w2 g d p l rv sv → Touch (fun b => b = g) w w2 → wpList Try.prog ops Q rest (a.put o.dst undef) w2) : wpList Try.prog ops Q (o :: rest) a w :=
  wpl_put_at hgd 23 x y ho hx hy h.arr (by rw [bvs_length, hl]; exact hashInfo) (by rw [evCs_length h.len, bvs_length, hl]; omega) (fun v hv => List.all_eq_true.1 (bvs_one l) v hv) _ (leafSet h.len hl) (fun w2 ha ht => hk w2 ⟨hl, h.r1, h.s1, ha⟩ ht)
theorem sliceSize : (Try.prog.info? 24).map (·.size) = some 1 := by kernel_rfl
theorem wpl_set_right (hgd : o.guard = none) (x y : Operand) (ho : o.op = .store 24 x y) {g : Nat} {d p : Int} {leaf : List UInt8} {rv sv : Value} {b : Option Addr} {n c : Nat} (hx : a.eval x = .pointer (some ⟨g, 34, none⟩)) (hy : a.eval y = .slice b n c) (h : EvoAt w g d p leaf rv sv)
    (hk : ∀ w2, EvoAt w2 g d p leaf (.slice b n c) sv → Touch (fun b => b = g) w w2 → wpList Try.prog ops Q rest (a.put o.dst undef) w2) : wpList Try.prog ops Q (o :: rest) a w :=
  wpl_set_one hgd 24 x y ho hx hy h.arr (by rw [evCs_length h.len]; omega) sliceSize rfl rfl (fun w2 ha ht => hk w2 ⟨h.len, rfl, h.s1, by rw [rightSet h.len] at ha; exact ha⟩ ht)
theorem wpl_set_side (hgd : o.guard = none) (x y : Operand) (ho : o.op = .store 24 x y) {g : Nat} {d p : Int} {leaf : List UInt8} {rv sv : Value} {b : Option Addr} {n c : Nat} (hx : a.eval x = .pointer (some ⟨g, 35, none⟩)) (hy : a.eval y = .slice b n c) (h : EvoAt w g d p leaf rv sv)
    (hk : ∀ w2, EvoAt w2 g d p leaf rv (.slice b n c) → Touch (fun b => b = g) w w2 → wpList Try.prog ops Q rest (a.put o.dst undef) w2) : wpList Try.prog ops Q (o :: rest) a w :=
  wpl_set_one hgd 24 x y ho hx hy h.arr (by rw [evCs_length h.len]; omega) sliceSize rfl rfl (fun w2 ha ht => hk w2 ⟨h.len, h.r1, rfl, by rw [sideSet h.len] at ha; exact ha⟩ ht)
theorem wpl_load_evo (hw : Region.wanted o (yielded ops a.tmps) = true) (x : Operand) (ho : o.op = .load 26 x) {g : Nat} {d p : Int} {leaf : List UInt8} {rv sv : Value} (hx : a.eval x = .pointer (some ⟨g, 0, none⟩)) (h : EvoAt w g d p leaf rv sv)
    (hk : wpList Try.prog ops Q rest (a.put o.dst (evV d p leaf rv sv)) w) : wpList Try.prog ops Q (o :: rest) a w :=
  wpl_load_cells hw 26 x ho hx h.cells _ Try.underlying26 rfl (by rw [evCs_length h.len]; exact evSize) hk
theorem wpl_load_leaf (hw : Region.wanted o (yielded ops a.tmps) = true) (x : Operand) (ho : o.op = .load 23 x) {g : Nat} {d p : Int} {leaf : List UInt8} {rv sv : Value} (hx : a.eval x = .pointer (some ⟨g, 2, none⟩)) (h : EvoAt w g d p leaf rv sv)
    (hk : wpList Try.prog ops Q rest (a.put o.dst (hv leaf)) w) : wpList Try.prog ops Q (o :: rest) a w := wpl_load_elem hw x ho hx h.cl h.len hk
theorem since_load_leaf (x : Operand) (ho : o.op = .load 23 x) {g : Nat} {d p : Int} {leaf : List UInt8} {rv sv : Value} (hx : a.eval x = .pointer (some ⟨g, 2, none⟩)) (h : EvoAt w0 g d p leaf rv sv) (hk : K (a.put o.dst (hv leaf))) :
    o.quiet Try.prog a (fun w' => ∃ s : Since w0, w' = s.w) K := since_load_elem x ho hx h.cl h.len hk
theorem plan_load_leaf (x : Operand) (ho : o.op = .load 23 x) {g : Nat} {d p : Int} {leaf : List UInt8} {rv sv : Value} (hx : a.eval x = .pointer (some ⟨g, 2, none⟩)) (h : EvoAt w0 g d p leaf rv sv) (hk : K (a.put o.dst (hv leaf))) :
    o.quiet Try.prog a (fun w' => ∃ s : Kept (fun x => Below w0.heap.size w0 x), w' = s.w) K := plan_load_elem x ho hx h.cl h.len hk
end
theorem evSizeOf {d p : Int} {leaf : List UInt8} {rv sv : Value} (h : leaf.length = 32) : (Try.prog.info? 26).map (·.size) = some (evCs d p leaf rv sv).toArray.size := by
  rw [List.size_toArray, evCs_length h]; exact evSize
theorem ret_evo {fn : Func} {q : Tmp} (hr : fn.results = #[.cell q 26]) (tmps : Array Value) (w : World) {g : Nat} {d p : Int} {leaf : List UInt8} {rv sv : Value} (hp : tmps.getD q undef = .pointer (some ⟨g, 0, none⟩)) (h : EvoAt w g d p leaf rv sv) :
    (results fn tmps).run Try.prog w = .ok (evV d p leaf rv sv) w :=
  results_cell_row hr tmps w g 26 (evCs d p leaf rv sv).toArray (0, 0) _ hp h.arr Try.underlying26 rfl (evSizeOf h.len)
theorem ret_evo_tmp {fn : Func} {q u : Tmp} (hr : fn.results = #[.cell q 26, .tmp u]) (tmps : Array Value) (w : World) {g : Nat} {d p : Int} {leaf : List UInt8} {rv sv : Value} (v : Value) (hp : tmps.getD q undef = .pointer (some ⟨g, 0, none⟩)) (hu : tmps.getD u undef = v) (h : EvoAt w g d p leaf rv sv) :
    (results fn tmps).run Try.prog w = .ok (.tuple #[evV d p leaf rv sv, v]) w :=
  results_row_tmp hr tmps w g 26 (evCs d p leaf rv sv).toArray (0, 0) _ v hp hu h.arr Try.underlying26 rfl (evSizeOf h.len)
theorem evBuilt1 (d : Int) : Try.prog.built 26 [(0, .int .i64 d)] = some (evCs d 0 zero32 (.slice none 0 0) (.slice none 0 0)).toArray := by kernel_rfl
/-- A value that is a key. -/
def EvoIs (w : World) (v : Value) (k : Evo) : Prop := ∃ rv sv, v = evV k.d k.p k.leaf rv sv ∧ Hs w rv k.right ∧ Hs w sv k.side ∧ k.leaf.length = 32
theorem EvoIs.later {w w' : World} {v : Value} {k : Evo} (h : EvoIs w v k) (hb : Below w.heap.size w w') : EvoIs w' v k := by
  obtain ⟨rv, sv, h1, h2, h3, h4⟩ := h
  exact ⟨rv, sv, h1, h2.later hb, h3.later hb, h4⟩
/-- .. whose rows are one's own. -/
def EvoOwn (w : World) (B : Nat) (v : Value) (k : Evo) : Prop := ∃ rv sv, v = evV k.d k.p k.leaf rv sv ∧ OwnU w B rv k.right [] ∧ OwnU w B sv k.side [] ∧ k.leaf.length = 32
theorem EvoOwn.later {w w' : World} {B : Nat} {v : Value} {k : Evo} (h : EvoOwn w B v k) (hb : Below w.heap.size w w') : EvoOwn w' B v k := by
  obtain ⟨rv, sv, h1, h2, h3, h4⟩ := h
  exact ⟨rv, sv, h1, h2.later hb, h3.later hb, h4⟩
theorem EvoOwn.is {w : World} {B : Nat} {v : Value} {k : Evo} (h : EvoOwn w B v k) : EvoIs w v k := by
  obtain ⟨rv, sv, h1, h2, h3, h4⟩ := h
  exact ⟨rv, sv, h1, h2.hs, h3.hs, h4⟩
end Go.Proofs.Ytofjjpielkfloaa
