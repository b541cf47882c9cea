/- Steps of a walk in which the world stays a variable: a variable is made, is boxed, is filled; what is known of the others is carried over. -/
import Derived.Test.YtbbfnpfkbbpjgaaGreatQPMCells
import Derived.Test.YtbbfnpfkbbpjgaaGreatQPMRef
import Derived.Test.YtbbfnpfkbbpjgaaGreatQPMOf
import Derived.ArgAppend
namespace Go.Proofs.YtbbfnpfkbbpjgaaGreat
open Go.RowKit Go.Lib
set_option linter.unusedVariables false
set_option linter.unusedSimpArgs false

theorem hash_zero : (Tryz.prog.info? 34).bind (·.zero) = some (hv zero32) := by kernel_rfl
section
variable {P : Program} {ops : Array Oper} {rest : List Oper} {o : Oper} {a : Act} {w : World} {Q : Exit → Act → World → Prop}
theorem run_alloc_arr (t : TypeId) {z : Value} (hz : (P.info? t).bind (·.zero) = some z) (w : World) : (Instr.alloc t true (.tuple #[])).run P w = .ok (.pointer (some ⟨w.heap.size, 0, none⟩)) (w.alloc (.cells z.cells t)) := by
  cases hi : P.info? t with
  | none => rw [hi] at hz; cases hz
  | some i =>
    rw [hi] at hz
    have hz' : i.zero = some z := hz
    simp [Instr.alloc, zeroValue, typeInfo, Sem.run_bind, hi, hz', newVar, newRow]
theorem run_box_arr (t : TypeId) (v : Value) (w : World) : (Instr.box t v).run P w = .ok (.pointer (some ⟨w.heap.size, 0, none⟩)) (w.alloc (.cells v.cells t)) := by
  simp [Instr.box, Sem.run_bind, newVar, newRow]
/-- A variable is made. -/
theorem wpl_mk (hw : Region.wanted o (yielded ops a.tmps) = true) (t : TypeId) (ho : o.op = .alloc t) {z : Value} (hz : (P.info? t).bind (·.zero) = some z) {cs : List Value} (hcs : z.cells.toList = cs)
    (hk : ∀ w2 g, w.heap.size ≤ g → Arr w2 g t cs → Below w.heap.size w w2 → wpList P ops Q rest (a.put o.dst (.pointer (some ⟨g, 0, none⟩))) w2) : wpList P ops Q (o :: rest) a w := by
  refine BigFrame.wpList_want hw fun _ hK => ?_
  unfold Oper.wp execOp
  simp only [ho, Sem.run_bind, run_alloc_arr t hz, Result.andThen_ok]
  subst hcs
  refine hK _ _ (hk _ _ (Nat.le_refl _) ?_ (below1 _ _))
  simpa using Arr.new w z.cells.toList t
theorem wpl_box (hw : Region.wanted o (yielded ops a.tmps) = true) (t : TypeId) (x : Operand) (ho : o.op = .box t x) {v : Value} (hx : a.eval x = v) {cs : List Value} (hcs : v.cells.toList = cs)
    (hk : ∀ w2 g, w.heap.size ≤ g → Arr w2 g t cs → Below w.heap.size w w2 → wpList P ops Q rest (a.put o.dst (.pointer (some ⟨g, 0, none⟩))) w2) : wpList P ops Q (o :: rest) a w := by
  refine BigFrame.wpList_want hw fun _ hK => ?_
  unfold Oper.wp execOp
  simp only [ho, hx, Sem.run_bind, run_box_arr, Result.andThen_ok]
  subst hcs
  refine hK _ _ (hk _ _ (Nat.le_refl _) ?_ (below1 _ _))
  simpa using Arr.new w v.cells.toList t
/-- A whole variable is filled. -/
theorem wpl_fill (hgd : o.guard = none) (t : TypeId) (x y : Operand) (ho : o.op = .store t x y) {g : Nat} {cs0 cs : List Value} (hx : a.eval x = .pointer (some ⟨g, 0, none⟩)) (hy : a.eval y = .agg cs.toArray) (h : Arr w g t cs0)
    (hi : (P.info? t).map (·.size) = some cs.length) (hl : cs.length = cs0.length) (h1 : ∀ v ∈ cs, v.oneCell' = true)
    (hk : ∀ w2, Arr w2 g t cs → Touch (fun b => b = g) w w2 → wpList P ops Q rest (a.put o.dst undef) w2) : wpList P ops Q (o :: rest) a w :=
  wpl_put_at hgd t x y ho hx hy h hi (by omega) h1 cs (by rw [Nat.zero_add, hl, List.drop_length, List.take_zero]; simp) hk
end
section
variable {ops : Array Oper} {rest : List Oper} {o : Oper} {a : Act} {w : World} {Q : Exit → Act → World → Prop}
theorem wpl_mk_hash (hw : Region.wanted o (yielded ops a.tmps) = true) (ho : o.op = .alloc 34)
    (hk : ∀ w2 g, w.heap.size ≤ g → HashAt w2 g zero32 → Below w.heap.size w w2 → wpList Tryz.prog ops Q rest (a.put o.dst (.pointer (some ⟨g, 0, none⟩))) w2) : wpList Tryz.prog ops Q (o :: rest) a w :=
  wpl_mk hw 34 ho hash_zero (cs := bvs zero32) (by rfl) (fun w2 g hg h hb => hk w2 g hg ⟨rfl, h⟩ hb)
theorem wpl_box_hash (hw : Region.wanted o (yielded ops a.tmps) = true) (x : Operand) (ho : o.op = .box 34 x) {l : List UInt8} (hx : a.eval x = hv l) (hl : l.length = 32)
    (hk : ∀ w2 g, w.heap.size ≤ g → HashAt w2 g l → Below w.heap.size w w2 → wpList Tryz.prog ops Q rest (a.put o.dst (.pointer (some ⟨g, 0, none⟩))) w2) : wpList Tryz.prog ops Q (o :: rest) a w :=
  wpl_box hw 34 x ho hx (cs := bvs l) (by simp [hv, Value.cells]) (fun w2 g hg h hb => hk w2 g hg ⟨hl, h⟩ hb)
theorem wpl_set_hash (hgd : o.guard = none) (x y : Operand) (ho : o.op = .store 34 x y) {g : Nat} {l0 l : List UInt8} (hx : a.eval x = .pointer (some ⟨g, 0, none⟩)) (hy : a.eval y = hv l) (hl : l.length = 32) (h : HashAt w g l0)
    (hk : ∀ w2, HashAt w2 g l → Touch (fun b => b = g) w w2 → wpList Tryz.prog ops Q rest (a.put o.dst undef) w2) : wpList Tryz.prog ops Q (o :: rest) a w :=
  wpl_fill hgd 34 x y ho hx hy h.2 (by rw [bvs_length, hl]; exact hashInfo) (by rw [bvs_length, bvs_length, hl, h.1]) (fun v hv => List.all_eq_true.1 (bvs_one l) v hv) (fun w2 ha ht => hk w2 ⟨hl, ha⟩ ht)
end
/-! ### One cell loaded or stored, anywhere in a block -/
/-- A type of one cell. -/
def flat (P : Program) (t : TypeId) : Bool := match P.underlying t with | some (.struct _) => false | some (.array _ _) => false | some _ => true | none => false
theorem run_load_one {P : Program} {t : TypeId} (hf : flat P t = true) {w : World} {ad : Addr} {v : Value} (hc : w.cell? ad = some v) : (loadVar t ad).run P w = .ok v w := by
  unfold flat at hf
  cases hu : P.underlying t with
  | none => rw [hu] at hf; cases hf
  | some d =>
    rw [hu] at hf
    have hagg : (isAgg t).run P w = .ok false w := by
      unfold isAgg
      rw [Sem.run_bind, run_underlying hu w]
      cases d <;> simp_all
    simp [loadVar, Sem.run_bind, hagg, run_load, hc]
section
variable {P : Program} {ops : Array Oper} {rest : List Oper} {o : Oper} {a : Act} {w : World} {Q : Exit → Act → World → Prop} {K : Act → Prop}
theorem load_one (t : TypeId) (x : Operand) (ho : o.op = .load t x) {b k : Nat} {v : Value} (hx : a.eval x = .pointer (some ⟨b, k, none⟩)) (hc : w.cell? ⟨b, k, none⟩ = some v) (hf : flat P t = true) : (execOp a.eval o).run P w = .ok (.value v) w := by
  unfold execOp
  simp only [ho, hx, Instr.loadAt, Instr.sureAddr, Sem.run_bind, Sem.run_pure, Result.andThen_ok, run_load_one hf hc]
theorem wpl_load_one (hw : Region.wanted o (yielded ops a.tmps) = true) (t : TypeId) (x : Operand) (ho : o.op = .load t x) {b k : Nat} {v : Value} (hx : a.eval x = .pointer (some ⟨b, k, none⟩)) (hc : w.cell? ⟨b, k, none⟩ = some v) (hf : flat P t = true)
    (hk : wpList P ops Q rest (a.put o.dst v) w) : wpList P ops Q (o :: rest) a w := wpl_value hw v (load_one t x ho hx hc hf) hk
theorem quiet_load_one {C : World → Prop} (t : TypeId) (x : Operand) (ho : o.op = .load t x) {b k : Nat} {v : Value} (hx : a.eval x = .pointer (some ⟨b, k, none⟩)) (hc : ∀ w, C w → w.cell? ⟨b, k, none⟩ = some v) (hf : flat P t = true)
    (hk : K (a.put o.dst v)) : o.quiet P a C K := quiet_value v (fun w hw => load_one t x ho hx (hc w hw) hf) hk
theorem cell_since {w0 : World} {ad : Addr} {v : Value} (hc : w0.cell? ad = some v) : ∀ w, (∃ s : Since w0, w = s.w) → w.cell? ad = some v := fun w ⟨s, hs⟩ => by subst hs; exact Since.cell hc s
theorem cell_kept {w0 : World} {ad : Addr} {v : Value} (hc : w0.cell? ad = some v) : ∀ w, (∃ s : Kept (fun x => Below w0.heap.size w0 x), w = s.w) → w.cell? ad = some v := fun w ⟨s, hs⟩ => by subst hs; exact kept_cell hc s
theorem since_load_one {w0 : World} (t : TypeId) (x : Operand) (ho : o.op = .load t x) {b k : Nat} {v : Value} (hx : a.eval x = .pointer (some ⟨b, k, none⟩)) (hc : w0.cell? ⟨b, k, none⟩ = some v) (hf : flat P t = true)
    (hk : K (a.put o.dst v)) : o.quiet P a (fun w' => ∃ s : Since w0, w' = s.w) K := quiet_load_one t x ho hx (cell_since hc) hf hk
theorem plan_load_one {w0 : World} (t : TypeId) (x : Operand) (ho : o.op = .load t x) {b k : Nat} {v : Value} (hx : a.eval x = .pointer (some ⟨b, k, none⟩)) (hc : w0.cell? ⟨b, k, none⟩ = some v) (hf : flat P t = true)
    (hk : K (a.put o.dst v)) : o.quiet P a (fun w' => ∃ s : Kept (fun x => Below w0.heap.size w0 x), w' = s.w) K := quiet_load_one t x ho hx (cell_kept hc) hf hk
theorem since_load_cells {w0 : World} (ty : TypeId) (x : Operand) (ho : o.op = .load ty x) {b k : Nat} {cs : List Value} (hx : a.eval x = .pointer (some ⟨b, k, none⟩)) (h : Cells w0 b k cs) (d : TypeDesc) (hu : P.underlying ty = some d)
    (hd : (match d with | .struct _ | .array _ _ => true | _ => false) = true) (hi : (P.info? ty).map (·.size) = some cs.length) (hk : K (a.put o.dst (.agg cs.toArray))) : o.quiet P a (fun w' => ∃ s : Since w0, w' = s.w) K :=
  quiet_load_cells ty x ho hx h.since d hu hd hi hk
theorem run_store_one {t : TypeId} {g k : Nat} {t' : TypeId} {cs : List Value} {v : Value} (h : Arr w g t' cs) (hk : k < cs.length) (hi : (P.info? t).map (·.size) = some 1) (hc : v.cells = #[v]) (hv : v.oneCell' = true) :
    (storeVar t ⟨g, k, none⟩ v).run P w = .ok () (w.setRow g (cs.set k v).toArray) := by
  have := run_storeCells_at (P := P) g k t' [v] 0 cs.toArray w h (by simp; omega) (by simpa using hv)
  have e : cs.take k ++ [v] ++ cs.drop (k + 1) = cs.set k v := by
    rw [List.set_eq_take_append_cons_drop, if_pos hk]; simp
  cases hq : P.info? t with
  | none => simp [hq] at hi
  | some i =>
    have hs : i.size = 1 := by simpa [hq] using hi
    simp only [Nat.add_zero, List.length_singleton, e] at this
    simp [storeVar, sizeOf, typeInfo, hq, hc, hs, this]
theorem wpl_set_one (hgd : o.guard = none) (t : TypeId) (x y : Operand) (ho : o.op = .store t x y) {g k : Nat} {t' : TypeId} {cs : List Value} {v : Value} (hx : a.eval x = .pointer (some ⟨g, k, none⟩)) (hy : a.eval y = v) (h : Arr w g t' cs) (hk : k < cs.length)
    (hi : (P.info? t).map (·.size) = some 1) (hc : v.cells = #[v]) (hv : v.oneCell' = true)
    (hn : ∀ w2, Arr w2 g t' (cs.set k v) → Touch (fun b => b = g) w w2 → wpList P ops Q rest (a.put o.dst undef) w2) : wpList P ops Q (o :: rest) a w := by
  refine wpList_plain hgd fun _ hK => ?_
  unfold Oper.wp execOp
  simp only [ho, hx, hy, Instr.storeAt, Instr.sureAddr, Sem.run_bind, Sem.run_pure, Result.andThen_ok, run_store_one h hk hi hc hv]
  exact hK _ _ (hn _ (Arr.row h _) (touch_row w g _))
end
/-! ### copy(h[:], s) -/
theorem byteSize : (Tryz.prog.info? 5).map (·.size) = some 1 := by kernel_rfl
theorem byteSize1 (w : World) : (Go.sizeOf 5).run Tryz.prog w = .ok 1 w := by
  have hi := byteSize
  cases hq : Tryz.prog.info? 5 with
  | none => simp [hq] at hi
  | some i =>
    have hs : i.size = 1 := by simpa [hq] using hi
    simp [Go.sizeOf, typeInfo, hq, hs]
theorem run_copy_hash (w : World) (ty : TypeId) {g : Nat} {l0 : List UInt8} (h : HashAt w g l0) (c : Nat) (t : ByteArray) (ht : 32 ≤ t.size) :
    (Builtin.copy_ #[93, 9] ty #[.slice (some ⟨g, 0, none⟩) 32 c, .string t]).run Tryz.prog w = .ok (goInt 32) (w.setRow g (bvs (t.data.toList.take 32)).toArray) := by
  have hz : ∀ w, (Go.sizeOf 5).run Tryz.prog w = .ok 1 w := byteSize1
  have hmin : Nat.min t.size 32 = 32 := Nat.min_eq_right ht
  have hl : (t.data.toList.take 32).length = 32 := by rw [List.length_take, Nat.min_eq_left]; simpa using ht
  have hst := run_storeCells_from (P := Tryz.prog) g 34 (bvs (t.data.toList.take 32)) 0 (bvs l0).toArray w h.2 (by simp [bvs_length, hl, h.1]) (fun v hv => List.all_eq_true.1 (bvs_one _) v hv)
  simp only [List.take_zero, List.nil_append] at hst
  simp [Builtin.copy_, run_underlying Tryz.underlying93, Builtin.lenOf, Builtin.firstCells, hz, hmin]
  have e : List.take 32 (List.map (fun x => Value.int IntKind.u8 (x.toNat : Int)) t.data.toList) = bvs (t.data.toList.take 32) := by
    unfold bvs; rw [List.map_take]
  rw [e, hst]
  rfl
theorem wpl_copy_hash {ops : Array Oper} {rest : List Oper} {o : Oper} {a : Act} {w : World} {Q : Exit → Act → World → Prop} (hw : Region.wanted o (yielded ops a.tmps) = true) (d x : Operand)
    (ho : o.op = .call { callee := .builtin .copy, args := #[d, x], argTypes := #[93, 9] }) {g c : Nat} {l0 : List UInt8} {t : ByteArray} (hd : a.eval d = .slice (some ⟨g, 0, none⟩) 32 c) (hx : a.eval x = .string t) (ht : 32 ≤ t.size) (h : HashAt w g l0)
    (hk : ∀ w2, HashAt w2 g (t.data.toList.take 32) → Touch (fun b => b = g) w w2 → wpList Tryz.prog ops Q rest (a.put o.dst (.int .i64 32)) w2) : wpList Tryz.prog ops Q (o :: rest) a w := by
  refine BigFrame.wpList_want hw fun _ hK => ?_
  have hr := run_copy_hash w o.type h c t ht
  unfold Oper.wp
  simp [execOp, ho, resolve, invoke, builtin, hd, hx, hr, Result.andThen]
  exact hK _ _ (hk _ ⟨by rw [List.length_take, Nat.min_eq_left]; simpa using ht, Arr.row h.2 _⟩ (touch_row w g _))
theorem own_one {g : Nat} {X : List Nat} (h : g ∈ X) : ∀ b, (fun b => b = g) b → b ∈ X := fun b hb => by have : b = g := hb; rw [this]; exact h
/-- What only turned one block of one's own. -/
theorem below_touch {B g : Nat} {w w1 w2 : World} (h : Below B w w1) (ht : Touch (fun b => b = g) w1 w2) (hB : B ≤ g) (hs : B ≤ w.heap.size) : Below B w w2 :=
  h.trans (ht.below (Nat.le_trans hs h.size) (fun x hx => by have : x = g := hx; omega))
theorem off_one {g m : Nat} (h : m ≤ g) : ∀ x, (fun b => b = g) x → m ≤ x := fun x hx => by have : x = g := hx; omega
theorem HashAt.tt {w w' : World} {b g : Nat} {l : List UInt8} (h : HashAt w b l) (ht : Touch (fun x => x = g) w w') (hS : ¬ b = g := by omega) : HashAt w' b l := h.touch ht hS
theorem One.tt {w w' : World} {b g : Nat} {t : TypeId} {v : Value} (h : One w b t v) (ht : Touch (fun x => x = g) w w') (hS : ¬ b = g := by omega) : One w' b t v := h.touch ht hS
theorem Since.out {w0 : World} (s : Since w0) : Below w0.heap.size w0 s.w := s.ok
end Go.Proofs.YtbbfnpfkbbpjgaaGreat

/- A strings.Builder in a walk in which the world stays a variable. -/
namespace Go.Proofs.YtbbfnpfkbbpjgaaGreat
open Go.RowKit Go.Lib
set_option linter.unusedVariables false
set_option linter.unusedSimpArgs false

theorem One.below {w w' : World} {b B : Nat} {t : TypeId} {v : Value} (h : One w b t v) (hb : Below B w w') (hB : b < B) : One w' b t v := Arr.below h hb hB
theorem wpl_built {P : Program} {ops : Array Oper} {rest : List Oper} {o : Oper} {a : Act} {w : World} {Q : Exit → Act → World → Prop} (hw : Region.wanted o (yielded ops a.tmps) = true) (t : TypeId) (parts : Array (Nat × Operand)) (ho : o.op = .build t parts) {ps : List (Nat × Value)}
    (hp : (parts.map fun (i, x) => (i, a.eval x)).toList = ps) {cs : List Value} (hc : P.built t ps = some cs.toArray) (hk : wpList P ops Q rest (a.put o.dst (.agg cs.toArray)) w) : wpList P ops Q (o :: rest) a w :=
  wpl_build hw t parts ho cs.toArray (by rw [hp]; exact hc) hk
section
variable {P : Program} {ops : Array Oper} {rest : List Oper} {o : Oper} {a : Act} {w : World} {Q : Exit → Act → World → Prop}
theorem wpl_built1 (hw : Region.wanted o (yielded ops a.tmps) = true) (t : TypeId) {i : Nat} (x : Operand) (ho : o.op = .build t #[(i, x)]) {v : Value} (hx : a.eval x = v) {cs : List Value} (hc : P.built t [(i, v)] = some cs.toArray)
    (hk : wpList P ops Q rest (a.put o.dst (.agg cs.toArray)) w) : wpList P ops Q (o :: rest) a w := wpl_built hw t _ ho (by simp [hx]) hc hk
theorem wpl_built0 (hw : Region.wanted o (yielded ops a.tmps) = true) (t : TypeId) (ho : o.op = .build t #[]) {cs : List Value} (hc : P.built t [] = some cs.toArray)
    (hk : wpList P ops Q rest (a.put o.dst (.agg cs.toArray)) w) : wpList P ops Q (o :: rest) a w := wpl_built hw t _ ho (by simp) hc hk
end
theorem wpl_box_one {P : Program} {ops : Array Oper} {rest : List Oper} {o : Oper} {a : Act} {w : World} {Q : Exit → Act → World → Prop} (hw : Region.wanted o (yielded ops a.tmps) = true) (t : TypeId) (x : Operand) (ho : o.op = .box t x) {v : Value} (hx : a.eval x = v) (hc : v.cells = #[v])
    (hk : ∀ w2 g, w.heap.size ≤ g → One w2 g t v → Below w.heap.size w w2 → wpList P ops Q rest (a.put o.dst (.pointer (some ⟨g, 0, none⟩))) w2) : wpList P ops Q (o :: rest) a w :=
  wpl_box hw t x ho hx (cs := [v]) (by rw [hc]) hk
/-- What holds of w, and of every world in which only blocks from m on have been turned. -/
def Stab (P : World → Prop) (m : Nat) (w : World) : Prop := m ≤ w.heap.size ∧ ∀ w', Touch (fun b => m ≤ b) w w' → P w'
section
variable {P : World → Prop} {m : Nat} {w w' : World}
theorem Stab.lt (h : Stab P m w) : m ≤ w.heap.size := h.1
theorem Stab.touch {S : Nat → Prop} (h : Stab P m w) (ht : Touch S w w') (hS : ∀ x, S x → m ≤ x) : Stab P m w' :=
  ⟨Nat.le_trans h.1 ht.size, fun w2 h2 => h.2 w2 (Touch.trans ⟨ht.os, ht.tape, ht.output, ht.size, fun k hk hn => ht.block k hk (fun hs => hn (hS k hs))⟩ h2 (fun x hx => .inl hx))⟩
theorem Stab.later (h : Stab P m w) (hb : Below w.heap.size w w') : Stab P m w' := h.touch (touch_below (S := fun _ => False) hb) (fun _ h => h.elim)
theorem Stab.below {B : Nat} (h : Stab P m w) (hb : Below B w w') (hB : m ≤ B) : Stab P m w' :=
  h.touch (S := fun b => B ≤ b) ⟨hb.os, hb.tape, hb.output, hb.size, fun k _ hn => hb.block k (by omega)⟩ (fun x hx => Nat.le_trans hB hx)
theorem Stab.of (hP : ∀ w w', P w → Below w.heap.size w w' → P w') (h : P w) : Stab P w.heap.size w :=
  ⟨Nat.le_refl _, fun w' ht => hP w w' h (ht.below (Nat.le_refl _) (fun _ hx => hx))⟩
end
theorem Cells.st {w : World} {b o : Nat} {cs : List Value} (h : Cells w b o cs) : Stab (fun w => Cells w b o cs) w.heap.size w := Stab.of (fun _ _ h hb => Cells.later h hb) h
/-- .. or blocks of X. -/
def StabX (P : World → Prop) (m : Nat) (X : List Nat) (w : World) : Prop := m ≤ w.heap.size ∧ ∀ w', Touch (fun b => m ≤ b ∨ b ∈ X) w w' → P w'
section
variable {P : World → Prop} {m : Nat} {X : List Nat} {w w' : World}
theorem StabX.lt (h : StabX P m X w) : m ≤ w.heap.size := h.1
theorem StabX.touch {S : Nat → Prop} (h : StabX P m X w) (ht : Touch S w w') (hS : ∀ x, S x → m ≤ x ∨ x ∈ X) : StabX P m X w' :=
  ⟨Nat.le_trans h.1 ht.size, fun w2 h2 => h.2 w2 (Touch.trans ⟨ht.os, ht.tape, ht.output, ht.size, fun k hk hn => ht.block k hk (fun hs => hn (hS k hs))⟩ h2 (fun x hx => .inl hx))⟩
theorem StabX.later (h : StabX P m X w) (hb : Below w.heap.size w w') : StabX P m X w' := h.touch (touch_below (S := fun _ => False) hb) (fun _ h => h.elim)
theorem StabX.below {B : Nat} (h : StabX P m X w) (hb : Below B w w') (hB : m ≤ B) : StabX P m X w' :=
  h.touch (S := fun b => B ≤ b) ⟨hb.os, hb.tape, hb.output, hb.size, fun k _ hn => hb.block k (by omega)⟩ (fun x hx => .inl (Nat.le_trans hB hx))
end
theorem stx_m {g m : Nat} {X : List Nat} (h : m ≤ g) : ∀ x, (fun b => b = g) x → m ≤ x ∨ x ∈ X := fun x hx => .inl (by have : x = g := hx; omega)
theorem stx_x {g m : Nat} {X : List Nat} (h : g ∈ X) : ∀ x, (fun b => b = g) x → m ≤ x ∨ x ∈ X := fun x hx => .inr (by have : x = g := hx; rw [this]; exact h)
theorem Stab.tt {P : World → Prop} {m g : Nat} {w w' : World} (h : Stab P m w) (ht : Touch (fun x => x = g) w w') (hS : m ≤ g := by omega) : Stab P m w' := h.touch ht (off_one hS)
theorem StabX.tt {P : World → Prop} {m g : Nat} {X : List Nat} {w w' : World} (h : StabX P m X w) (ht : Touch (fun x => x = g) w w') (hS : m ≤ g ∨ g ∈ X := by first | exact .inl (by omega) | exact .inr (by simp)) : StabX P m X w' := h.touch ht (hS.elim stx_m stx_x)
theorem below_more {B n : Nat} {w w1 w2 : World} (h : Below n w w1) (hb : Below B w1 w2) (hn : n ≤ B) : Below n w w2 := h.trans (hb.mono hn)
end Go.Proofs.YtbbfnpfkbbpjgaaGreat
