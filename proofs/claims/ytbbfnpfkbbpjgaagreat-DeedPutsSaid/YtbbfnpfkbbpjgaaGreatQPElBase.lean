/- Structs compared, field by field. -/
import Derived.Test.YtbbfnpfkbbpjgaaGreatQPDeedL
import Derived.Test.YtbbfnpfkbbpjgaaGreatQPDig8
namespace Go.Proofs.YtbbfnpfkbbpjgaaGreat
open Go.RowKit Go.Lib
set_option linter.unusedVariables false
set_option linter.unusedSimpArgs false

set_option maxRecDepth 100000 in
theorem eqItems_two (d : Nat) (a b : List UInt8) (ha : a.length = 32) (hb : b.length = 32) (w : World) : ∀ is : List Nat, (∀ i ∈ is, i < 32) →
    (Op.eqItems (d + 1) 5 1 (bvs a).toArray (bvs b).toArray is).run Tryz.prog w = .ok (is.all fun i => a.getD i 0 == b.getD i 0) w
  | [], _ => by simp [Op.eqItems]
  | i :: is, h => by
    have hi : i < 32 := h i (by simp)
    have ih := eqItems_two d a b ha hb w is (fun j hj => h j (by simp [hj]))
    simp only [Op.eqItems, Sem.run_bind, Nat.mul_one]
    rw [part_byte a i (by omega)]
    simp only [Result.andThen_ok]
    rw [part_byte b i (by omega)]
    simp only [Result.andThen_ok]
    rw [run_equalIn_int w d 5 .u8 .u8 _ _ Tryz.underlying5]
    simp only [Result.andThen_ok, List.all_cons]
    by_cases he : a.getD i 0 = b.getD i 0
    · have e1 : (((a.getD i 0).toNat : Int) == ((b.getD i 0).toNat : Int)) = true := by rw [he]; simp
      have e2 : (a.getD i 0 == b.getD i 0) = true := by rw [he]; simp
      rw [e1, e2]
      simpa using ih
    · have e1 : (((a.getD i 0).toNat : Int) == ((b.getD i 0).toNat : Int)) = false := by
        rw [beq_eq_false_iff_ne]
        intro h'
        exact he (UInt8.toNat_inj.1 (by omega))
      have e2 : (a.getD i 0 == b.getD i 0) = false := by rw [beq_eq_false_iff_ne]; exact he
      rw [e1, e2]
      simp
set_option maxRecDepth 100000 in
theorem run_two_hash (d : Nat) (a b : List UInt8) (ha : a.length = 32) (hb : b.length = 32) (w : World) : (Op.equalIn (d + 2) 34 (hv a) (hv b)).run Tryz.prog w = .ok (decide (a = b)) w := by
  obtain ⟨i, hi, _⟩ := Option.map_eq_some_iff.1 (show (Tryz.prog.info? 5).map (·.size) = some 1 by kernel_rfl)
  unfold hv
  rw [run_equalIn_array w (d + 1) (bvs a).toArray (bvs b).toArray Tryz.underlying34 hi, cellsByte, eqItems_two d a b ha hb w _ (fun j hj => List.mem_range.1 hj)]
  congr 1
  by_cases h : a = b
  · subst h; simp
  · rw [decide_eq_false h, Bool.eq_false_iff]
    intro hall
    apply h
    apply List.ext_getElem (by omega)
    intro j h1 h2
    have := List.all_eq_true.1 hall j (List.mem_range.2 (by omega))
    simpa [h1, h2] using this
theorem field_two {P : Program} {d : Nat} {xs ys : Array Value} {f : Field} {fs : List Field} {w : World} {v u : Value} {r q : Bool} (hn : f.name ≠ "_") (hp : (Go.part f.type xs f.offset).run P w = .ok v w) (hu : (Go.part f.type ys f.offset).run P w = .ok u w)
    (he : (Op.equalIn d f.type v u).run P w = .ok r w) (hr : (Op.eqFields d xs ys fs).run P w = .ok q w) : (Op.eqFields d xs ys (f :: fs)).run P w = .ok (r && q) w := by
  unfold Op.eqFields
  simp only [hn, ne_eq, not_false_eq_true, if_true, Sem.run_bind, hp, hu, he, Result.andThen_ok]
  cases r
  · simp
  · simpa using hr
theorem field_last {P : Program} {d : Nat} {xs ys : Array Value} {f : Field} {w : World} {v u : Value} {r : Bool} (hn : f.name ≠ "_") (hp : (Go.part f.type xs f.offset).run P w = .ok v w) (hu : (Go.part f.type ys f.offset).run P w = .ok u w)
    (he : (Op.equalIn d f.type v u).run P w = .ok r w) : (Op.eqFields d xs ys [f]).run P w = .ok r w := by
  have := field_two (fs := []) (q := true) hn hp hu he (by simp [Op.eqFields])
  rwa [Bool.and_true] at this
theorem nat_beq (n m : Nat) : ((n : Int) == (m : Int)) = decide (n = m) := by
  by_cases h : n = m
  · subst h; simp
  · rw [decide_eq_false h, beq_eq_false_iff_ne]; omega
theorem str_beq (a b : ByteArray) : (a.toList == b.toList) = decide (a = b) := by
  rw [ByteArray.toList_eq, ByteArray.toList_eq]
  by_cases h : a = b
  · subst h; simp
  · rw [decide_eq_false h, beq_eq_false_iff_ne]
    intro h2
    apply h
    apply ByteArray.ext
    exact Array.toList_inj.1 h2
theorem plain_u8 : Tryz.prog.plainKey 5 = true := by kernel_rfl
section
variable {ops : Array Oper} {rest : List Oper} {o : Oper} {a : Act} {w : World} {Q : Exit → Act → World → Prop} {K : Act → Prop}
/-- Two structs compared, of which the fields' comparing is known. -/
theorem exec_eq (t : TypeId) (x y : Operand) (ho : o.op = .binOp .eql t x y t) {xs ys : Array Value} (hx : a.eval x = .agg xs) (hy : a.eval y = .agg ys) (hg : Tryz.prog.eqGuardType Tryz.prog.depth t = false) {r : Bool} (h : ∀ w, (Op.equalIn 10000 t (.agg xs) (.agg ys)).run Tryz.prog w = .ok r w) (w : World) :
    (execOp a.eval o).run Tryz.prog w = .ok (.value (.bool r)) w := by
  unfold execOp
  simp only [ho, hx, hy, Sem.run_bind]
  rw [run_eqGuard_agg w .eql t x y _ _ hg]
  simp only [Result.andThen_ok]
  rw [run_eql_struct, h w]
  rfl
theorem exec_ne (t : TypeId) (x y : Operand) (ho : o.op = .binOp .neq t x y t) {xs ys : Array Value} (hx : a.eval x = .agg xs) (hy : a.eval y = .agg ys) (hg : Tryz.prog.eqGuardType Tryz.prog.depth t = false) {r : Bool} (h : ∀ w, (Op.equalIn 10000 t (.agg xs) (.agg ys)).run Tryz.prog w = .ok r w) (w : World) :
    (execOp a.eval o).run Tryz.prog w = .ok (.value (.bool (!r))) w := by
  unfold execOp
  simp only [ho, hx, hy, Sem.run_bind]
  rw [run_eqGuard_agg w .neq t x y _ _ hg]
  simp only [Result.andThen_ok]
  rw [run_neq_struct, h w]
  rfl
end
end Go.Proofs.YtbbfnpfkbbpjgaaGreat

/- One field of a struct stored: its cells. -/
namespace Go.Proofs.YtbbfnpfkbbpjgaaGreat
open Go.RowKit Go.Lib
set_option linter.unusedVariables false
set_option linter.unusedSimpArgs false

theorem put_mid {A X Y B cs : List Value} {n : Nat} (hc : cs = A ++ (X ++ B)) (hA : A.length = n) (hX : X.length = Y.length) : cs.take n ++ Y ++ cs.drop (n + Y.length) = A ++ (Y ++ B) := by
  subst hc
  subst hA
  rw [List.take_left, List.append_assoc]
  congr 2
  rw [← List.drop_drop, List.drop_left, ← hX, List.drop_left]
theorem set_mid {A B cs : List Value} {u v : Value} {n : Nat} (hc : cs = A ++ u :: B) (hA : A.length = n) : cs.set n v = A ++ v :: B := by
  subst hc
  subst hA
  rw [List.set_append, if_neg (by omega), Nat.sub_self, List.set_cons_zero]
theorem u64Sz : (Tryz.prog.info? 24).map (·.size) = some 1 := by kernel_rfl
theorem hashSz32 : (Tryz.prog.info? 34).map (·.size) = some 32 := by kernel_rfl
end Go.Proofs.YtbbfnpfkbbpjgaaGreat

/- api.In: its cells, in memory, made, boxed, filled, loaded, compared. -/
namespace Go.Proofs.YtbbfnpfkbbpjgaaGreat
open Go.RowKit Go.Lib
set_option linter.unusedVariables false
set_option linter.unusedSimpArgs false

def inCs (x : InT) : List Value := bvs x.tx ++ ([.int .u64 x.index])
def inV (x : InT) : Value := .agg (inCs x).toArray
theorem inCs_length {x : InT} (h : x.Ok) : (inCs x).length = 33 := by
  have q0 : x.tx.length = 32 := h.1
  unfold inCs; simp [bvs_length, q0]
theorem inCs_one (x : InT) : ∀ v ∈ inCs x, v.oneCell' = true := by
  intro v hv
  unfold inCs at hv
  simp only [List.mem_cons, List.mem_append, List.not_mem_nil, or_false] at hv
  rcases hv with hv | rfl
  · exact List.all_eq_true.1 (bvs_one x.tx) v hv
  · rfl
structure InAt (w : World) (g : Nat) (x : InT) : Prop where
  ok : x.Ok
  arr : Arr w g 80 (inCs x)
section
variable {w w' : World} {g bb kk : Nat} {x : InT}
theorem InAt.lt (h : InAt w g x) : g < w.heap.size := Arr.lt h.arr
theorem InAt.later (h : InAt w g x) (hb : Below w.heap.size w w') : InAt w' g x := ⟨h.ok, h.arr.later hb⟩
theorem InAt.below {B : Nat} (h : InAt w g x) (hb : Below B w w') (hB : g < B) : InAt w' g x := ⟨h.ok, Arr.below h.arr hb hB⟩
theorem InAt.touch {S : Nat → Prop} (h : InAt w g x) (ht : Touch S w w') (hS : ¬ S g) : InAt w' g x := ⟨h.ok, h.arr.touch ht hS⟩
theorem InAt.tt {g' : Nat} (h : InAt w g x) (ht : Touch (fun y => y = g') w w') (hS : ¬ g = g' := by omega) : InAt w' g x := h.touch ht hS
theorem InAt.cells (h : InAt w g x) : Cells w g 0 (inCs x) := Cells.arr h.arr
theorem inR0 (h : Cells w bb kk (inCs x)) : Cells w bb kk (bvs x.tx ++ ([.int .u64 x.index])) := h
theorem InAt.tx (h : InAt w g x) : Cells w g 0 (bvs x.tx) := Cells.left (inR0 h.cells)
theorem inR1 (h : Cells w bb kk (inCs x)) (ok : x.Ok) : Cells w bb (kk + 32) ([.int .u64 x.index]) := Cells.right (n := 32) (inR0 h) (by rw [bvs_length, show x.tx.length = 32 from ok.1])
theorem InAt.index (h : InAt w g x) : w.cell? ⟨g, 32, none⟩ = some (.int .u64 x.index) := by
  have := (inR1 h.cells h.ok).one
  rwa [Nat.zero_add] at this
end
theorem inSize : (Tryz.prog.info? 80).map (·.size) = some 33 := by kernel_rfl
theorem inSz {x : InT} (h : x.Ok) : (Tryz.prog.info? 80).map (·.size) = some (inCs x).length := by rw [inCs_length h]; exact inSize
def in0 : InT := ⟨zero32, 0⟩
theorem in0_ok : in0.Ok := ⟨rfl, by decide⟩
theorem inZero : (Tryz.prog.info? 80).bind (·.zero) = some (inV in0) := by kernel_rfl
section
variable {ops : Array Oper} {rest : List Oper} {o : Oper} {a : Act} {w w0 : World} {Q : Exit → Act → World → Prop} {K : Act → Prop}
theorem wpl_box_in (hw : Region.wanted o (yielded ops a.tmps) = true) (x : Operand) (ho : o.op = .box 80 x) {d : InT} (hx : a.eval x = inV d) (hr : d.Ok)
    (hk : ∀ w2 g, w.heap.size ≤ g → InAt w2 g d → Below w.heap.size w w2 → wpList Tryz.prog ops Q rest (a.put o.dst (.pointer (some ⟨g, 0, none⟩))) w2) : wpList Tryz.prog ops Q (o :: rest) a w :=
  wpl_box hw 80 x ho hx (cs := inCs d) (by simp [inV, Value.cells]) (fun w2 g hg h hb => hk w2 g hg ⟨hr, h⟩ hb)
theorem wpl_mk_in (hw : Region.wanted o (yielded ops a.tmps) = true) (ho : o.op = .alloc 80)
    (hk : ∀ w2 g, w.heap.size ≤ g → InAt w2 g in0 → Below w.heap.size w w2 → wpList Tryz.prog ops Q rest (a.put o.dst (.pointer (some ⟨g, 0, none⟩))) w2) : wpList Tryz.prog ops Q (o :: rest) a w :=
  wpl_mk hw 80 ho inZero (cs := inCs in0) (by simp [inV, Value.cells]) (fun w2 g hg h hb => hk w2 g hg ⟨in0_ok, h⟩ hb)
theorem wpl_set_in (hgd : o.guard = none) (x y : Operand) (ho : o.op = .store 80 x y) {g : Nat} {d0 d : InT} (hx : a.eval x = .pointer (some ⟨g, 0, none⟩)) (hy : a.eval y = inV d) (hr : d.Ok) (h : InAt w g d0)
    (hk : ∀ w2, InAt w2 g d → Touch (fun b => b = g) w w2 → wpList Tryz.prog ops Q rest (a.put o.dst undef) w2) : wpList Tryz.prog ops Q (o :: rest) a w :=
  wpl_fill hgd 80 x y ho hx hy h.arr (inSz hr) (by rw [inCs_length hr, inCs_length h.ok]) (inCs_one d) (fun w2 ha ht => hk w2 ⟨hr, ha⟩ ht)
theorem wpl_ld_in (hw : Region.wanted o (yielded ops a.tmps) = true) (x : Operand) (ho : o.op = .load 80 x) {b k : Nat} {d : InT} (hx : a.eval x = .pointer (some ⟨b, k, none⟩)) (h : Cells w b k (inCs d)) (hr : d.Ok)
    (hk : wpList Tryz.prog ops Q rest (a.put o.dst (inV d)) w) : wpList Tryz.prog ops Q (o :: rest) a w :=
  wpl_load_cells hw 80 x ho hx h _ Tryz.underlying80 rfl (inSz hr) hk
theorem since_ld_in (x : Operand) (ho : o.op = .load 80 x) {b k : Nat} {d : InT} (hx : a.eval x = .pointer (some ⟨b, k, none⟩)) (h : Cells w0 b k (inCs d)) (hr : d.Ok) (hk : K (a.put o.dst (inV d))) :
    o.quiet Tryz.prog a (fun w' => ∃ s : Since w0, w' = s.w) K := since_load_cells 80 x ho hx h _ Tryz.underlying80 rfl (inSz hr) hk
set_option maxRecDepth 100000 in
theorem run_eq_in (x y : InT) (hx : x.Ok) (hy : y.Ok) (w : World) : (Op.equalIn 10000 80 (inV x) (inV y)).run Tryz.prog w = .ok (sameIn x y) w := by
  unfold inV
  rw [run_equalIn_struct w 9999 80 _ _ (by kernel_rfl) (by kernel_rfl)]
  have bx0 : (bvs x.tx).length = 32 := by rw [bvs_length, hx.1]
  have dx0 : (inCs x).drop 0 = bvs x.tx ++ ([.int .u64 x.index]) := rfl
  have ex0 : ((inCs x).drop 0).take 32 = bvs x.tx := by rw [dx0]; exact take_left bx0
  have dx1 : (inCs x).drop 32 = [.int .u64 x.index] := by
    rw [show 32 = 0 + 32 by rfl, ← List.drop_drop, dx0, drop_left bx0]
  have ex1 := at_of dx1
  have by0 : (bvs y.tx).length = 32 := by rw [bvs_length, hy.1]
  have dy0 : (inCs y).drop 0 = bvs y.tx ++ ([.int .u64 y.index]) := rfl
  have ey0 : ((inCs y).drop 0).take 32 = bvs y.tx := by rw [dy0]; exact take_left by0
  have dy1 : (inCs y).drop 32 = [.int .u64 y.index] := by
    rw [show 32 = 0 + 32 by rfl, ← List.drop_drop, dy0, drop_left by0]
  have ey1 := at_of dy1
  unfold Program.fieldsOf
  rw [Tryz.underlying80]
  unfold sameIn
  refine field_two (by decide) (part_hash ex0 w) (part_hash ey0 w) (run_two_hash 9997 x.tx y.tx hx.1 hy.1 w) ?_
  exact field_last (by decide) (run_part_plain w plain_u64 ex1) (run_part_plain w plain_u64 ey1) (by rw [run_equalIn_int w 9998 24 .u64 .u64 _ _ Tryz.underlying24, nat_beq])
theorem quiet_ne_in {C : World → Prop} (p q : Operand) (ho : o.op = .binOp .neq 80 p q 80) {x y : InT} (hx : a.eval p = inV x) (hy : a.eval q = inV y) (kx : x.Ok) (ky : y.Ok) (hk : K (a.put o.dst (.bool (!(sameIn x y))))) : o.quiet Tryz.prog a C K :=
  quiet_value _ (fun w _ => exec_ne 80 p q ho hx hy (by kernel_rfl) (run_eq_in x y kx ky) w) hk
end
theorem ret_in {fn : Func} {q : Tmp} (hr : fn.results = #[.cell q 80]) (tmps : Array Value) (w : World) {g : Nat} {d : InT} (hp : tmps.getD q undef = .pointer (some ⟨g, 0, none⟩)) (h : InAt w g d) :
    (results fn tmps).run Tryz.prog w = .ok (inV d) w :=
  results_cell_row hr tmps w g 80 (inCs d).toArray (0, 0) _ hp h.arr Tryz.underlying80 rfl (by rw [List.size_toArray]; exact inSz h.ok)
end Go.Proofs.YtbbfnpfkbbpjgaaGreat

/- api.Out: its cells, in memory, made, boxed, filled, loaded, compared. -/
namespace Go.Proofs.YtbbfnpfkbbpjgaaGreat
open Go.RowKit Go.Lib
set_option linter.unusedVariables false
set_option linter.unusedSimpArgs false

def outCs (x : OutT) : List Value := bvs x.dst ++ (bvs x.stake ++ ([.int .u64 x.amount]))
def outV (x : OutT) : Value := .agg (outCs x).toArray
theorem outCs_length {x : OutT} (h : x.Ok) : (outCs x).length = 65 := by
  have q0 : x.dst.length = 32 := h.1
  have q1 : x.stake.length = 32 := h.2.1
  unfold outCs; simp [bvs_length, q0, q1]
theorem outCs_one (x : OutT) : ∀ v ∈ outCs x, v.oneCell' = true := by
  intro v hv
  unfold outCs at hv
  simp only [List.mem_cons, List.mem_append, List.not_mem_nil, or_false] at hv
  rcases hv with hv | hv | rfl
  · exact List.all_eq_true.1 (bvs_one x.dst) v hv
  · exact List.all_eq_true.1 (bvs_one x.stake) v hv
  · rfl
structure OutAt (w : World) (g : Nat) (x : OutT) : Prop where
  ok : x.Ok
  arr : Arr w g 84 (outCs x)
section
variable {w w' : World} {g bb kk : Nat} {x : OutT}
theorem OutAt.lt (h : OutAt w g x) : g < w.heap.size := Arr.lt h.arr
theorem OutAt.later (h : OutAt w g x) (hb : Below w.heap.size w w') : OutAt w' g x := ⟨h.ok, h.arr.later hb⟩
theorem OutAt.below {B : Nat} (h : OutAt w g x) (hb : Below B w w') (hB : g < B) : OutAt w' g x := ⟨h.ok, Arr.below h.arr hb hB⟩
theorem OutAt.touch {S : Nat → Prop} (h : OutAt w g x) (ht : Touch S w w') (hS : ¬ S g) : OutAt w' g x := ⟨h.ok, h.arr.touch ht hS⟩
theorem OutAt.tt {g' : Nat} (h : OutAt w g x) (ht : Touch (fun y => y = g') w w') (hS : ¬ g = g' := by omega) : OutAt w' g x := h.touch ht hS
theorem OutAt.cells (h : OutAt w g x) : Cells w g 0 (outCs x) := Cells.arr h.arr
theorem outR0 (h : Cells w bb kk (outCs x)) : Cells w bb kk (bvs x.dst ++ (bvs x.stake ++ ([.int .u64 x.amount]))) := h
theorem OutAt.dst (h : OutAt w g x) : Cells w g 0 (bvs x.dst) := Cells.left (outR0 h.cells)
theorem outR1 (h : Cells w bb kk (outCs x)) (ok : x.Ok) : Cells w bb (kk + 32) (bvs x.stake ++ ([.int .u64 x.amount])) := Cells.right (n := 32) (outR0 h) (by rw [bvs_length, show x.dst.length = 32 from ok.1])
theorem OutAt.stake (h : OutAt w g x) : Cells w g 32 (bvs x.stake) := by
  have := outR1 h.cells h.ok
  rw [Nat.zero_add] at this
  exact Cells.left this
theorem outR2 (h : Cells w bb kk (outCs x)) (ok : x.Ok) : Cells w bb (kk + 64) ([.int .u64 x.amount]) := by
  have := Cells.right (n := 32) (outR1 h ok) (by rw [bvs_length, ok.2.1])
  rwa [Nat.add_assoc] at this
theorem OutAt.amount (h : OutAt w g x) : w.cell? ⟨g, 64, none⟩ = some (.int .u64 x.amount) := by
  have := (outR2 h.cells h.ok).one
  rwa [Nat.zero_add] at this
end
theorem outSize : (Tryz.prog.info? 84).map (·.size) = some 65 := by kernel_rfl
theorem outSz {x : OutT} (h : x.Ok) : (Tryz.prog.info? 84).map (·.size) = some (outCs x).length := by rw [outCs_length h]; exact outSize
def out0 : OutT := ⟨zero32, zero32, 0⟩
theorem out0_ok : out0.Ok := ⟨rfl, rfl, by decide⟩
theorem outZero : (Tryz.prog.info? 84).bind (·.zero) = some (outV out0) := by kernel_rfl
section
variable {ops : Array Oper} {rest : List Oper} {o : Oper} {a : Act} {w w0 : World} {Q : Exit → Act → World → Prop} {K : Act → Prop}
theorem wpl_box_out (hw : Region.wanted o (yielded ops a.tmps) = true) (x : Operand) (ho : o.op = .box 84 x) {d : OutT} (hx : a.eval x = outV d) (hr : d.Ok)
    (hk : ∀ w2 g, w.heap.size ≤ g → OutAt w2 g d → Below w.heap.size w w2 → wpList Tryz.prog ops Q rest (a.put o.dst (.pointer (some ⟨g, 0, none⟩))) w2) : wpList Tryz.prog ops Q (o :: rest) a w :=
  wpl_box hw 84 x ho hx (cs := outCs d) (by simp [outV, Value.cells]) (fun w2 g hg h hb => hk w2 g hg ⟨hr, h⟩ hb)
theorem wpl_mk_out (hw : Region.wanted o (yielded ops a.tmps) = true) (ho : o.op = .alloc 84)
    (hk : ∀ w2 g, w.heap.size ≤ g → OutAt w2 g out0 → Below w.heap.size w w2 → wpList Tryz.prog ops Q rest (a.put o.dst (.pointer (some ⟨g, 0, none⟩))) w2) : wpList Tryz.prog ops Q (o :: rest) a w :=
  wpl_mk hw 84 ho outZero (cs := outCs out0) (by simp [outV, Value.cells]) (fun w2 g hg h hb => hk w2 g hg ⟨out0_ok, h⟩ hb)
theorem wpl_set_out (hgd : o.guard = none) (x y : Operand) (ho : o.op = .store 84 x y) {g : Nat} {d0 d : OutT} (hx : a.eval x = .pointer (some ⟨g, 0, none⟩)) (hy : a.eval y = outV d) (hr : d.Ok) (h : OutAt w g d0)
    (hk : ∀ w2, OutAt w2 g d → Touch (fun b => b = g) w w2 → wpList Tryz.prog ops Q rest (a.put o.dst undef) w2) : wpList Tryz.prog ops Q (o :: rest) a w :=
  wpl_fill hgd 84 x y ho hx hy h.arr (outSz hr) (by rw [outCs_length hr, outCs_length h.ok]) (outCs_one d) (fun w2 ha ht => hk w2 ⟨hr, ha⟩ ht)
theorem wpl_ld_out (hw : Region.wanted o (yielded ops a.tmps) = true) (x : Operand) (ho : o.op = .load 84 x) {b k : Nat} {d : OutT} (hx : a.eval x = .pointer (some ⟨b, k, none⟩)) (h : Cells w b k (outCs d)) (hr : d.Ok)
    (hk : wpList Tryz.prog ops Q rest (a.put o.dst (outV d)) w) : wpList Tryz.prog ops Q (o :: rest) a w :=
  wpl_load_cells hw 84 x ho hx h _ Tryz.underlying84 rfl (outSz hr) hk
theorem since_ld_out (x : Operand) (ho : o.op = .load 84 x) {b k : Nat} {d : OutT} (hx : a.eval x = .pointer (some ⟨b, k, none⟩)) (h : Cells w0 b k (outCs d)) (hr : d.Ok) (hk : K (a.put o.dst (outV d))) :
    o.quiet Tryz.prog a (fun w' => ∃ s : Since w0, w' = s.w) K := since_load_cells 84 x ho hx h _ Tryz.underlying84 rfl (outSz hr) hk
set_option maxRecDepth 100000 in
theorem run_eq_out (x y : OutT) (hx : x.Ok) (hy : y.Ok) (w : World) : (Op.equalIn 10000 84 (outV x) (outV y)).run Tryz.prog w = .ok (sameOut x y) w := by
  unfold outV
  rw [run_equalIn_struct w 9999 84 _ _ (by kernel_rfl) (by kernel_rfl)]
  have bx0 : (bvs x.dst).length = 32 := by rw [bvs_length, hx.1]
  have bx1 : (bvs x.stake).length = 32 := by rw [bvs_length, hx.2.1]
  have dx0 : (outCs x).drop 0 = bvs x.dst ++ (bvs x.stake ++ ([.int .u64 x.amount])) := rfl
  have ex0 : ((outCs x).drop 0).take 32 = bvs x.dst := by rw [dx0]; exact take_left bx0
  have dx1 : (outCs x).drop 32 = bvs x.stake ++ ([.int .u64 x.amount]) := by
    rw [show 32 = 0 + 32 by rfl, ← List.drop_drop, dx0, drop_left bx0]
  have ex1 : ((outCs x).drop 32).take 32 = bvs x.stake := by rw [dx1]; exact take_left bx1
  have dx2 : (outCs x).drop 64 = [.int .u64 x.amount] := by
    rw [show 64 = 32 + 32 by rfl, ← List.drop_drop, dx1, drop_left bx1]
  have ex2 := at_of dx2
  have by0 : (bvs y.dst).length = 32 := by rw [bvs_length, hy.1]
  have by1 : (bvs y.stake).length = 32 := by rw [bvs_length, hy.2.1]
  have dy0 : (outCs y).drop 0 = bvs y.dst ++ (bvs y.stake ++ ([.int .u64 y.amount])) := rfl
  have ey0 : ((outCs y).drop 0).take 32 = bvs y.dst := by rw [dy0]; exact take_left by0
  have dy1 : (outCs y).drop 32 = bvs y.stake ++ ([.int .u64 y.amount]) := by
    rw [show 32 = 0 + 32 by rfl, ← List.drop_drop, dy0, drop_left by0]
  have ey1 : ((outCs y).drop 32).take 32 = bvs y.stake := by rw [dy1]; exact take_left by1
  have dy2 : (outCs y).drop 64 = [.int .u64 y.amount] := by
    rw [show 64 = 32 + 32 by rfl, ← List.drop_drop, dy1, drop_left by1]
  have ey2 := at_of dy2
  unfold Program.fieldsOf
  rw [Tryz.underlying84]
  unfold sameOut
  refine field_two (by decide) (part_hash ex0 w) (part_hash ey0 w) (run_two_hash 9997 x.dst y.dst hx.1 hy.1 w) ?_
  refine field_two (by decide) (part_hash ex1 w) (part_hash ey1 w) (run_two_hash 9997 x.stake y.stake hx.2.1 hy.2.1 w) ?_
  exact field_last (by decide) (run_part_plain w plain_u64 ex2) (run_part_plain w plain_u64 ey2) (by rw [run_equalIn_int w 9998 24 .u64 .u64 _ _ Tryz.underlying24, nat_beq])
theorem quiet_ne_out {C : World → Prop} (p q : Operand) (ho : o.op = .binOp .neq 84 p q 84) {x y : OutT} (hx : a.eval p = outV x) (hy : a.eval q = outV y) (kx : x.Ok) (ky : y.Ok) (hk : K (a.put o.dst (.bool (!(sameOut x y))))) : o.quiet Tryz.prog a C K :=
  quiet_value _ (fun w _ => exec_ne 84 p q ho hx hy (by kernel_rfl) (run_eq_out x y kx ky) w) hk
end
theorem ret_out {fn : Func} {q : Tmp} (hr : fn.results = #[.cell q 84]) (tmps : Array Value) (w : World) {g : Nat} {d : OutT} (hp : tmps.getD q undef = .pointer (some ⟨g, 0, none⟩)) (h : OutAt w g d) :
    (results fn tmps).run Tryz.prog w = .ok (outV d) w :=
  results_cell_row hr tmps w g 84 (outCs d).toArray (0, 0) _ hp h.arr Tryz.underlying84 rfl (by rw [List.size_toArray]; exact outSz h.ok)
end Go.Proofs.YtbbfnpfkbbpjgaaGreat
