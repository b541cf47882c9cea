/- Steps of a walk in which the world stays a variable: a variable is made, is boxed, is filled; what is known of the others is carried over. -/
import Derived.Test.YtbbfnpfkbbpjgaaGreatQHMCells
import Derived.Test.YtbbfnpfkbbpjgaaGreatQHMOnce
import Derived.ArgAppend
namespace Go.Proofs.YtbbfnpfkbbpjgaaGreat
open Go.RowKit Go.Lib
set_option linter.unusedVariables false
set_option linter.unusedSimpArgs false
set_option maxRecDepth 100000
set_option maxHeartbeats 4000000
theorem x4u : (Tryz.prog.info? 34).bind (·.zero) = some (hv zero32) := by kernel_rfl
section
variable {P : Program} {ops : Array Oper} {rest : List Oper} {o : Oper} {a : Act} {w : World} {Q : Exit → Act → World → Prop}
theorem j6b (t : TypeId) {z : Value} (hz : (P.info? t).bind (·.zero) = some z) (w : World) : (Instr.alloc t true (.tuple #[])).run P w = .ok (.pointer (some ⟨w.heap.size, 0, none⟩)) (w.alloc (.cells z.cells t)) := by
 cases hi : P.info? t with
 | none => rw [hi] at hz; cases hz
 | some i =>
  rw [hi] at hz
  have hz' : i.zero = some z := hz
  simp [Instr.alloc, zeroValue, typeInfo, Sem.run_bind, hi, hz', newVar, newRow]
theorem x0l (t : TypeId) (v : Value) (w : World) : (Instr.box t v).run P w = .ok (.pointer (some ⟨w.heap.size, 0, none⟩)) (w.alloc (.cells v.cells t)) := by
 simp [Instr.box, Sem.run_bind, newVar, newRow]
/-- A variable is made. -/
theorem q5e (hw : Region.wanted o (yielded ops a.tmps) = true) (t : TypeId) (ho : o.op = .alloc t) {z : Value} (hz : (P.info? t).bind (·.zero) = some z) {cs : List Value} (hcs : z.cells.toList = cs)
  (hk : ∀ w2 g, w.heap.size ≤ g → Arr w2 g t cs → Below w.heap.size w w2 → wpList P ops Q rest (a.put o.dst (.pointer (some ⟨g, 0, none⟩))) w2) : wpList P ops Q (o :: rest) a w := by
 refine BigFrame.wpList_want hw fun _ hK => ?_
 unfold Oper.wp execOp
 simp only [ho, Sem.run_bind, j6b t hz, Result.andThen_ok]
 subst hcs
 refine hK _ _ (hk _ _ (Nat.le_refl _) ?_ (below1 _ _))
 simpa using Arr.new w z.cells.toList t
theorem q4j (hw : Region.wanted o (yielded ops a.tmps) = true) (t : TypeId) (x : Operand) (ho : o.op = .box t x) {v : Value} (hx : a.eval x = v) {cs : List Value} (hcs : v.cells.toList = cs)
  (hk : ∀ w2 g, w.heap.size ≤ g → Arr w2 g t cs → Below w.heap.size w w2 → wpList P ops Q rest (a.put o.dst (.pointer (some ⟨g, 0, none⟩))) w2) : wpList P ops Q (o :: rest) a w := by
 refine BigFrame.wpList_want hw fun _ hK => ?_
 unfold Oper.wp execOp
 simp only [ho, hx, Sem.run_bind, x0l, Result.andThen_ok]
 subst hcs
 refine hK _ _ (hk _ _ (Nat.le_refl _) ?_ (below1 _ _))
 simpa using Arr.new w v.cells.toList t
/-- A whole variable is filled. -/
theorem q5t (hgd : o.guard = none) (t : TypeId) (x y : Operand) (ho : o.op = .store t x y) {g : Nat} {cs0 cs : List Value} (hx : a.eval x = .pointer (some ⟨g, 0, none⟩)) (hy : a.eval y = .agg cs.toArray) (h : Arr w g t cs0)
  (hi : (P.info? t).map (·.size) = some cs.length) (hl : cs.length = cs0.length) (h1 : ∀ v ∈ cs, v.oneCell' = true)
  (hk : ∀ w2, Arr w2 g t cs → Touch (fun b => b = g) w w2 → wpList P ops Q rest (a.put o.dst undef) w2) : wpList P ops Q (o :: rest) a w :=
 q2r hgd t x y ho hx hy h hi (by omega) h1 cs (by rw [Nat.zero_add, hl, List.drop_length, List.take_zero]; simp) hk
end
section
variable {ops : Array Oper} {rest : List Oper} {o : Oper} {a : Act} {w : World} {Q : Exit → Act → World → Prop}
theorem q0r (hw : Region.wanted o (yielded ops a.tmps) = true) (ho : o.op = .alloc 34)
  (hk : ∀ w2 g, w.heap.size ≤ g → HashAt w2 g zero32 → Below w.heap.size w w2 → wpList Tryz.prog ops Q rest (a.put o.dst (.pointer (some ⟨g, 0, none⟩))) w2) : wpList Tryz.prog ops Q (o :: rest) a w :=
 q5e hw 34 ho x4u (cs := bvs zero32) (by rfl) (fun w2 g hg h hb => hk w2 g hg ⟨rfl, h⟩ hb)
theorem j1v (hw : Region.wanted o (yielded ops a.tmps) = true) (x : Operand) (ho : o.op = .box 34 x) {l : List UInt8} (hx : a.eval x = hv l) (hl : l.length = 32)
  (hk : ∀ w2 g, w.heap.size ≤ g → HashAt w2 g l → Below w.heap.size w w2 → wpList Tryz.prog ops Q rest (a.put o.dst (.pointer (some ⟨g, 0, none⟩))) w2) : wpList Tryz.prog ops Q (o :: rest) a w :=
 q4j hw 34 x ho hx (cs := bvs l) (by simp [hv, Value.cells]) (fun w2 g hg h hb => hk w2 g hg ⟨hl, h⟩ hb)
theorem q0k (hgd : o.guard = none) (x y : Operand) (ho : o.op = .store 34 x y) {g : Nat} {l0 l : List UInt8} (hx : a.eval x = .pointer (some ⟨g, 0, none⟩)) (hy : a.eval y = hv l) (hl : l.length = 32) (h : HashAt w g l0)
  (hk : ∀ w2, HashAt w2 g l → Touch (fun b => b = g) w w2 → wpList Tryz.prog ops Q rest (a.put o.dst undef) w2) : wpList Tryz.prog ops Q (o :: rest) a w :=
 q5t hgd 34 x y ho hx hy h.2 (by rw [q0c, hl]; exact hashInfo) (by rw [q0c, q0c, hl, h.1]) (fun v hv => List.all_eq_true.1 (q1f l) v hv) (fun w2 ha ht => hk w2 ⟨hl, ha⟩ ht)
end
/-! ### One cell loaded or stored, anywhere in a block -/
/-- A type of one cell. -/
def flat (P : Program) (t : TypeId) : Bool := match P.underlying t with | some (.struct _) => false | some (.array _ _) => false | some _ => true | none => false
theorem j1s {P : Program} {t : TypeId} (hf : flat P t = true) {w : World} {ad : Addr} {v : Value} (hc : w.cell? ad = some v) : (loadVar t ad).run P w = .ok v w := by
 unfold flat at hf
 cases hu : P.underlying t with
 | none => rw [hu] at hf; cases hf
 | some d =>
  rw [hu] at hf
  have hagg : (isAgg t).run P w = .ok false w := by
   unfold isAgg
   rw [Sem.run_bind, run_underlying hu w]
   cases d <;> simp_all
  simp [loadVar, Sem.run_bind, hagg, run_load, hc]
section
variable {P : Program} {ops : Array Oper} {rest : List Oper} {o : Oper} {a : Act} {w : World} {Q : Exit → Act → World → Prop} {K : Act → Prop}
theorem x1a (t : TypeId) (x : Operand) (ho : o.op = .load t x) {b k : Nat} {v : Value} (hx : a.eval x = .pointer (some ⟨b, k, none⟩)) (hc : w.cell? ⟨b, k, none⟩ = some v) (hf : flat P t = true) : (execOp a.eval o).run P w = .ok (.value v) w := by
 unfold execOp
 simp only [ho, hx, Instr.loadAt, Instr.sureAddr, Sem.run_bind, Sem.run_pure, Result.andThen_ok, j1s hf hc]
theorem q0a (hw : Region.wanted o (yielded ops a.tmps) = true) (t : TypeId) (x : Operand) (ho : o.op = .load t x) {b k : Nat} {v : Value} (hx : a.eval x = .pointer (some ⟨b, k, none⟩)) (hc : w.cell? ⟨b, k, none⟩ = some v) (hf : flat P t = true)
  (hk : wpList P ops Q rest (a.put o.dst v) w) : wpList P ops Q (o :: rest) a w := q3l hw v (x1a t x ho hx hc hf) hk
theorem q1u {C : World → Prop} (t : TypeId) (x : Operand) (ho : o.op = .load t x) {b k : Nat} {v : Value} (hx : a.eval x = .pointer (some ⟨b, k, none⟩)) (hc : ∀ w, C w → w.cell? ⟨b, k, none⟩ = some v) (hf : flat P t = true)
  (hk : K (a.put o.dst v)) : o.quiet P a C K := q2z v (fun w hw => x1a t x ho hx (hc w hw) hf) hk
theorem x2d {w0 : World} {ad : Addr} {v : Value} (hc : w0.cell? ad = some v) : ∀ w, (∃ s : Since w0, w = s.w) → w.cell? ad = some v := fun w ⟨s, hs⟩ => by subst hs; exact Since.cell hc s
theorem x6y {w0 : World} {ad : Addr} {v : Value} (hc : w0.cell? ad = some v) : ∀ w, (∃ s : Kept (fun x => Below w0.heap.size w0 x), w = s.w) → w.cell? ad = some v := fun w ⟨s, hs⟩ => by subst hs; exact x8a hc s
theorem q0d {w0 : World} (t : TypeId) (x : Operand) (ho : o.op = .load t x) {b k : Nat} {v : Value} (hx : a.eval x = .pointer (some ⟨b, k, none⟩)) (hc : w0.cell? ⟨b, k, none⟩ = some v) (hf : flat P t = true)
  (hk : K (a.put o.dst v)) : o.quiet P a (fun w' => ∃ s : Since w0, w' = s.w) K := q1u t x ho hx (x2d hc) hf hk
theorem q5u {w0 : World} (t : TypeId) (x : Operand) (ho : o.op = .load t x) {b k : Nat} {v : Value} (hx : a.eval x = .pointer (some ⟨b, k, none⟩)) (hc : w0.cell? ⟨b, k, none⟩ = some v) (hf : flat P t = true)
  (hk : K (a.put o.dst v)) : o.quiet P a (fun w' => ∃ s : Kept (fun x => Below w0.heap.size w0 x), w' = s.w) K := q1u t x ho hx (x6y hc) hf hk
theorem q2h {w0 : World} (ty : TypeId) (x : Operand) (ho : o.op = .load ty x) {b k : Nat} {cs : List Value} (hx : a.eval x = .pointer (some ⟨b, k, none⟩)) (h : Cells w0 b k cs) (d : TypeDesc) (hu : P.underlying ty = some d)
  (hd : (match d with | .struct _ | .array _ _ => true | _ => false) = true) (hi : (P.info? ty).map (·.size) = some cs.length) (hk : K (a.put o.dst (.agg cs.toArray))) : o.quiet P a (fun w' => ∃ s : Since w0, w' = s.w) K :=
 q2i ty x ho hx h.since d hu hd hi hk
theorem j6e {t : TypeId} {g k : Nat} {t' : TypeId} {cs : List Value} {v : Value} (h : Arr w g t' cs) (hk : k < cs.length) (hi : (P.info? t).map (·.size) = some 1) (hc : v.cells = #[v]) (hv : v.oneCell' = true) :
  (storeVar t ⟨g, k, none⟩ v).run P w = .ok () (w.setRow g (cs.set k v).toArray) := by
 have := run_storeCells_at (P := P) g k t' [v] 0 cs.toArray w h (by simp; omega) (by simpa using hv)
 have e : cs.take k ++ [v] ++ cs.drop (k + 1) = cs.set k v := by
  rw [List.set_eq_take_append_cons_drop, if_pos hk]; simp
 cases hq : P.info? t with
 | none => simp [hq] at hi
 | some i =>
  have hs : i.size = 1 := by simpa [hq] using hi
  simp only [Nat.add_zero, List.length_singleton, e] at this
  simp [storeVar, sizeOf, typeInfo, hq, hc, hs, this]
theorem q0i (hgd : o.guard = none) (t : TypeId) (x y : Operand) (ho : o.op = .store t x y) {g k : Nat} {t' : TypeId} {cs : List Value} {v : Value} (hx : a.eval x = .pointer (some ⟨g, k, none⟩)) (hy : a.eval y = v) (h : Arr w g t' cs) (hk : k < cs.length)
  (hi : (P.info? t).map (·.size) = some 1) (hc : v.cells = #[v]) (hv : v.oneCell' = true)
  (hn : ∀ w2, Arr w2 g t' (cs.set k v) → Touch (fun b => b = g) w w2 → wpList P ops Q rest (a.put o.dst undef) w2) : wpList P ops Q (o :: rest) a w := by
 refine wpList_plain hgd fun _ hK => ?_
 unfold Oper.wp execOp
 simp only [ho, hx, hy, Instr.storeAt, Instr.sureAddr, Sem.run_bind, Sem.run_pure, Result.andThen_ok, j6e h hk hi hc hv]
 exact hK _ _ (hn _ (Arr.row h _) (j0b w g _))
end
/-! ### copy(h[:], s) -/
theorem byteSize : (Tryz.prog.info? 5).map (·.size) = some 1 := by kernel_rfl
theorem byteSize1 (w : World) : (Go.sizeOf 5).run Tryz.prog w = .ok 1 w := by
 have hi := byteSize
 cases hq : Tryz.prog.info? 5 with
 | none => simp [hq] at hi
 | some i =>
  have hs : i.size = 1 := by simpa [hq] using hi
  simp [Go.sizeOf, typeInfo, hq, hs]
theorem j6i (w : World) (ty : TypeId) {g : Nat} {l0 : List UInt8} (h : HashAt w g l0) (c : Nat) (t : ByteArray) (ht : 32 ≤ t.size) :
  (Builtin.copy_ #[93, 9] ty #[.slice (some ⟨g, 0, none⟩) 32 c, .string t]).run Tryz.prog w = .ok (goInt 32) (w.setRow g (bvs (t.data.toList.take 32)).toArray) := by
 have hz : ∀ w, (Go.sizeOf 5).run Tryz.prog w = .ok 1 w := byteSize1
 have hmin : Nat.min t.size 32 = 32 := Nat.min_eq_right ht
 have hl : (t.data.toList.take 32).length = 32 := by rw [List.length_take, Nat.min_eq_left]; simpa using ht
 have hst := run_storeCells_from (P := Tryz.prog) g 34 (bvs (t.data.toList.take 32)) 0 (bvs l0).toArray w h.2 (by simp [q0c, hl, h.1]) (fun v hv => List.all_eq_true.1 (q1f _) v hv)
 simp only [List.take_zero, List.nil_append] at hst
 simp [Builtin.copy_, run_underlying Tryz.underlying93, Builtin.lenOf, Builtin.firstCells, hz, hmin]
 have e : List.take 32 (List.map (fun x => Value.int IntKind.u8 (x.toNat : Int)) t.data.toList) = bvs (t.data.toList.take 32) := by
  unfold bvs; rw [List.map_take]
 rw [e, hst]
 rfl
theorem q9q {ops : Array Oper} {rest : List Oper} {o : Oper} {a : Act} {w : World} {Q : Exit → Act → World → Prop} (hw : Region.wanted o (yielded ops a.tmps) = true) (d x : Operand)
  (ho : o.op = .call { callee := .builtin .copy, args := #[d, x], argTypes := #[93, 9] }) {g c : Nat} {l0 : List UInt8} {t : ByteArray} (hd : a.eval d = .slice (some ⟨g, 0, none⟩) 32 c) (hx : a.eval x = .string t) (ht : 32 ≤ t.size) (h : HashAt w g l0)
  (hk : ∀ w2, HashAt w2 g (t.data.toList.take 32) → Touch (fun b => b = g) w w2 → wpList Tryz.prog ops Q rest (a.put o.dst (.int .i64 32)) w2) : wpList Tryz.prog ops Q (o :: rest) a w := by
 refine BigFrame.wpList_want hw fun _ hK => ?_
 have hr := j6i w o.type h c t ht
 unfold Oper.wp
 simp [execOp, ho, resolve, invoke, builtin, hd, hx, hr, Result.andThen]
 exact hK _ _ (hk _ ⟨by rw [List.length_take, Nat.min_eq_left]; simpa using ht, Arr.row h.2 _⟩ (j0b w g _))
theorem z2k {g : Nat} {X : List Nat} (h : g ∈ X) : ∀ b, (fun b => b = g) b → b ∈ X := fun b hb => by have : b = g := hb; rw [this]; exact h
/-- What only turned one block of one's own. -/
theorem q0b {B g : Nat} {w w1 w2 : World} (h : Below B w w1) (ht : Touch (fun b => b = g) w1 w2) (hB : B ≤ g) (hs : B ≤ w.heap.size) : Below B w w2 :=
 h.trans (ht.below (Nat.le_trans hs h.size) (fun x hx => by have : x = g := hx; omega))
theorem z1t {g m : Nat} (h : m ≤ g) : ∀ x, (fun b => b = g) x → m ≤ x := fun x hx => by have : x = g := hx; omega
theorem HashAt.tt {w w' : World} {b g : Nat} {l : List UInt8} (h : HashAt w b l) (ht : Touch (fun x => x = g) w w') (hS : ¬ b = g := by omega) : HashAt w' b l := h.touch ht hS
theorem One.tt {w w' : World} {b g : Nat} {t : TypeId} {v : Value} (h : One w b t v) (ht : Touch (fun x => x = g) w w') (hS : ¬ b = g := by omega) : One w' b t v := h.touch ht hS
theorem Since.out {w0 : World} (s : Since w0) : Below w0.heap.size w0 s.w := s.ok
/-- Block g holds a builder that has the bytes s; all that is its own stands from g on. -/
def Bld (w : World) (g : Nat) (s : List UInt8) : Prop := Lib.IsBuilder 113 5 g g (Lib.byteCells s) w
theorem Bld.later {w w' : World} {g : Nat} {s : List UInt8} (h : Bld w g s) (hb : Below w.heap.size w w') : Bld w' g s := q5b h hb
theorem Bld.lt {w : World} {g : Nat} {s : List UInt8} (h : Bld w g s) : g < w.heap.size := by
 rcases h with ⟨_, v, h, _⟩ | ⟨_, v, h, _⟩ <;> exact (Array.getElem?_eq_some_iff.1 h).1
theorem bldZero : (Tryz.prog.info? 113).bind (·.zero) = some (.agg #[.pointer none, .slice none 0 0]) := by kernel_rfl
theorem x7g (g : Nat) (x s : List UInt8) (w : World) (h : Bld w g x) (hl : x.length + s.length ≤ 140737488355328) :
  Calls Tryz.prog 75 #[.pointer (some ⟨g, 0, none⟩), .string ⟨s.toArray⟩] w fun e w' => e = .returned (.tuple #[.int .i64 (⟨s.toArray⟩ : ByteArray).size, .nilIface]) ∧ Bld w' g (x ++ s) ∧ Below g w w' := by
 refine (writeString g g _ ⟨s.toArray⟩ w h (by rw [Lib.byteCells_length]; simpa [ByteArray.size] using hl) (Nat.le_of_lt h.lt)).mono ?_
 rintro e w' ⟨he, hb, hB⟩
 exact ⟨he, j8i hb rfl, hB⟩
theorem j1i (g : Nat) (x : List UInt8) (s : ByteArray) (w : World) (h : Bld w g x) (hl : x.length + s.size ≤ 140737488355328) :
  Calls Tryz.prog 75 #[.pointer (some ⟨g, 0, none⟩), .string s] w fun e w' => e = .returned (.tuple #[.int .i64 s.size, .nilIface]) ∧ Bld w' g (x ++ s.data.toList) ∧ Below g w w' := by
 have e : (⟨s.data.toList.toArray⟩ : ByteArray) = s := by cases s; simp
 have := x7g g x s.data.toList w h (by simpa using hl)
 rw [e] at this
 exact this
theorem x2l (g : Nat) (x : List UInt8) (w : World) (h : Bld w g x) :
  Calls Tryz.prog 78 #[.pointer (some ⟨g, 0, none⟩)] w fun e w' => e = .returned (.string ⟨x.toArray⟩) ∧ Below g w w' :=
 Tryz.Builder_String_any g g x w h (Nat.le_of_lt h.lt)
theorem One.below {w w' : World} {b B : Nat} {t : TypeId} {v : Value} (h : One w b t v) (hb : Below B w w') (hB : b < B) : One w' b t v := Arr.below h hb hB
theorem q8d {P : Program} {ops : Array Oper} {rest : List Oper} {o : Oper} {a : Act} {w : World} {Q : Exit → Act → World → Prop} (hw : Region.wanted o (yielded ops a.tmps) = true) (t : TypeId) (parts : Array (Nat × Operand)) (ho : o.op = .build t parts) {ps : List (Nat × Value)}
  (hp : (parts.map fun (i, x) => (i, a.eval x)).toList = ps) {cs : List Value} (hc : P.built t ps = some cs.toArray) (hk : wpList P ops Q rest (a.put o.dst (.agg cs.toArray)) w) : wpList P ops Q (o :: rest) a w :=
 j4g hw t parts ho cs.toArray (by rw [hp]; exact hc) hk
section
variable {P : Program} {ops : Array Oper} {rest : List Oper} {o : Oper} {a : Act} {w : World} {Q : Exit → Act → World → Prop}
theorem q2x (hw : Region.wanted o (yielded ops a.tmps) = true) (t : TypeId) {i : Nat} (x : Operand) (ho : o.op = .build t #[(i, x)]) {v : Value} (hx : a.eval x = v) {cs : List Value} (hc : P.built t [(i, v)] = some cs.toArray)
  (hk : wpList P ops Q rest (a.put o.dst (.agg cs.toArray)) w) : wpList P ops Q (o :: rest) a w := q8d hw t _ ho (by simp [hx]) hc hk
theorem j5f (hw : Region.wanted o (yielded ops a.tmps) = true) (t : TypeId) {i j : Nat} (x y : Operand) (ho : o.op = .build t #[(i, x), (j, y)]) {v u : Value} (hx : a.eval x = v) (hy : a.eval y = u) {cs : List Value} (hc : P.built t [(i, v), (j, u)] = some cs.toArray)
  (hk : wpList P ops Q rest (a.put o.dst (.agg cs.toArray)) w) : wpList P ops Q (o :: rest) a w := q8d hw t _ ho (by simp [hx, hy]) hc hk
theorem q0q (hw : Region.wanted o (yielded ops a.tmps) = true) (t : TypeId) (ho : o.op = .build t #[]) {cs : List Value} (hc : P.built t [] = some cs.toArray)
  (hk : wpList P ops Q rest (a.put o.dst (.agg cs.toArray)) w) : wpList P ops Q (o :: rest) a w := q8d hw t _ ho (by simp) hc hk
end
theorem q6i {P : Program} {ops : Array Oper} {rest : List Oper} {o : Oper} {a : Act} {w : World} {Q : Exit → Act → World → Prop} (hw : Region.wanted o (yielded ops a.tmps) = true) (t : TypeId) (x : Operand) (ho : o.op = .box t x) {v : Value} (hx : a.eval x = v) (hc : v.cells = #[v])
  (hk : ∀ w2 g, w.heap.size ≤ g → One w2 g t v → Below w.heap.size w w2 → wpList P ops Q rest (a.put o.dst (.pointer (some ⟨g, 0, none⟩))) w2) : wpList P ops Q (o :: rest) a w :=
 q4j hw t x ho hx (cs := [v]) (by rw [hc]) hk
/-- What holds of w, and of every world in which only blocks from m on have been turned. -/
def Stab (P : World → Prop) (m : Nat) (w : World) : Prop := m ≤ w.heap.size ∧ ∀ w', Touch (fun b => m ≤ b) w w' → P w'
section
variable {P : World → Prop} {m : Nat} {w w' : World}
theorem Stab.now (h : Stab P m w) : P w := h.2 w (Touch.refl _ w)
theorem Stab.lt (h : Stab P m w) : m ≤ w.heap.size := h.1
theorem Stab.touch {S : Nat → Prop} (h : Stab P m w) (ht : Touch S w w') (hS : ∀ x, S x → m ≤ x) : Stab P m w' :=
 ⟨Nat.le_trans h.1 ht.size, fun w2 h2 => h.2 w2 (Touch.trans ⟨ht.os, ht.tape, ht.output, ht.size, fun k hk hn => ht.block k hk (fun hs => hn (hS k hs))⟩ h2 (fun x hx => .inl hx))⟩
theorem Stab.later (h : Stab P m w) (hb : Below w.heap.size w w') : Stab P m w' := h.touch (q2s (S := fun _ => False) hb) (fun _ h => h.elim)
theorem Stab.below {B : Nat} (h : Stab P m w) (hb : Below B w w') (hB : m ≤ B) : Stab P m w' :=
 h.touch (S := fun b => B ≤ b) ⟨hb.os, hb.tape, hb.output, hb.size, fun k _ hn => hb.block k (by omega)⟩ (fun x hx => Nat.le_trans hB hx)
theorem Stab.of (hP : ∀ w w', P w → Below w.heap.size w w' → P w') (h : P w) : Stab P w.heap.size w :=
 ⟨Nat.le_refl _, fun w' ht => hP w w' h (ht.below (Nat.le_refl _) (fun _ hx => hx))⟩
end
theorem Cells.st {w : World} {b o : Nat} {cs : List Value} (h : Cells w b o cs) : Stab (fun w => Cells w b o cs) w.heap.size w := Stab.of (fun _ _ h hb => Cells.later h hb) h
/-- .. or blocks of X. -/
def StabX (P : World → Prop) (m : Nat) (X : List Nat) (w : World) : Prop := m ≤ w.heap.size ∧ ∀ w', Touch (fun b => m ≤ b ∨ b ∈ X) w w' → P w'
section
variable {P : World → Prop} {m : Nat} {X : List Nat} {w w' : World}
theorem StabX.now (h : StabX P m X w) : P w := h.2 w (Touch.refl _ w)
theorem StabX.lt (h : StabX P m X w) : m ≤ w.heap.size := h.1
theorem StabX.touch {S : Nat → Prop} (h : StabX P m X w) (ht : Touch S w w') (hS : ∀ x, S x → m ≤ x ∨ x ∈ X) : StabX P m X w' :=
 ⟨Nat.le_trans h.1 ht.size, fun w2 h2 => h.2 w2 (Touch.trans ⟨ht.os, ht.tape, ht.output, ht.size, fun k hk hn => ht.block k hk (fun hs => hn (hS k hs))⟩ h2 (fun x hx => .inl hx))⟩
theorem StabX.later (h : StabX P m X w) (hb : Below w.heap.size w w') : StabX P m X w' := h.touch (q2s (S := fun _ => False) hb) (fun _ h => h.elim)
theorem StabX.below {B : Nat} (h : StabX P m X w) (hb : Below B w w') (hB : m ≤ B) : StabX P m X w' :=
 h.touch (S := fun b => B ≤ b) ⟨hb.os, hb.tape, hb.output, hb.size, fun k _ hn => hb.block k (by omega)⟩ (fun x hx => .inl (Nat.le_trans hB hx))
end
theorem stx_m {g m : Nat} {X : List Nat} (h : m ≤ g) : ∀ x, (fun b => b = g) x → m ≤ x ∨ x ∈ X := fun x hx => .inl (by have : x = g := hx; omega)
theorem stx_x {g m : Nat} {X : List Nat} (h : g ∈ X) : ∀ x, (fun b => b = g) x → m ≤ x ∨ x ∈ X := fun x hx => .inr (by have : x = g := hx; rw [this]; exact h)
theorem Bld.st {w : World} {g : Nat} {s : List UInt8} (h : Bld w g s) : Stab (fun w => Bld w g s) w.heap.size w := Stab.of (fun _ _ h hb => Bld.later h hb) h
theorem Stab.tt {P : World → Prop} {m g : Nat} {w w' : World} (h : Stab P m w) (ht : Touch (fun x => x = g) w w') (hS : m ≤ g := by omega) : Stab P m w' := h.touch ht (z1t hS)
theorem StabX.tt {P : World → Prop} {m g : Nat} {X : List Nat} {w w' : World} (h : StabX P m X w) (ht : Touch (fun x => x = g) w w') (hS : m ≤ g ∨ g ∈ X := by first | exact .inl (by omega) | exact .inr (by simp)) : StabX P m X w' := h.touch ht (hS.elim stx_m stx_x)
theorem q0u {B n : Nat} {w w1 w2 : World} (h : Below n w w1) (hb : Below B w1 w2) (hn : n ≤ B) : Below n w w2 := h.trans (hb.mono hn)
theorem x3r (n k : Nat) (h : k < 8) : (eightL n).take (k + 1) = (eightL n).take k ++ [UInt8.ofNat (n / 2 ^ (56 - 8 * k) % 256)] := by
 rw [List.take_succ_eq_append_getElem (by rw [q0o]; exact h)]
 simp [eightL]
theorem q4i (n0 : Nat) (w : World) (hn : n0 < 18446744073709551616) :
  Calls Tryz.prog 153 #[.int .u64 n0] w fun e w' => e = .returned (.string ⟨(eightL n0).toArray⟩) ∧ Below w.heap.size w w' := by
 have HS := hide (x3r n0)
 have HL := hide (q0o n0)
 generalize eightL n0 = R at *
 go_enter Tryz.func153, Tryz.ntmps153
 go_wp2_with fail
 have r0 : Byts (w.alloc (.cells (bvs (bpad [] 8)).toArray 204)) w.heap.size 204 (bpad (R.take 0) 8) := Arr.new w _ _
 have hb := below1 w (.cells (bvs (bpad [] 8)).toArray 204)
 show Code.wp _ _ _ _ (w.alloc (.cells (bvs (bpad [] 8)).toArray 204))
 generalize w.alloc (.cells (bvs (bpad [] 8)).toArray 204) = W at *
 go_loopw [5] (fun i wr => ∃ k : Nat, i = .int .i64 k ∧ k ≤ 8 ∧ Byts wr w.heap.size 204 (bpad (R.take k) 8) ∧ Below w.heap.size w wr) (fun i _ => 8 - (RowKit.intOf i).toNat)
 case atStart => exact ⟨0, rfl, by omega, r0, hb⟩
 case round =>
  obtain ⟨k, rfl, hk, q0, qb⟩ := hrel
  clear r0 hb
  have t0 := Arr.thaw q0 k
  by_cases hlt : k < 8
  ·have HK := hide (HS.out k hlt)
   have hpl : (R.take k).length = k := by rw [List.length_take, HL.out]; omega
   have c0 := q0.cell (i := k) (by rw [j4d _ _ (by rw [hpl]; omega)]; omega)
   have d1 := Byts.set q0 k (UInt8.ofNat (n0 / 2 ^ (56 - 8 * k) % 256))
   have en := j3q (R.take k) 8 (by rw [hpl]; omega) (UInt8.ofNat (n0 / 2 ^ (56 - 8 * k) % 256))
   rw [hpl, ← HK.out] at en
   have e8 : ((UInt8.ofNat (n0 / 2 ^ (56 - 8 * k) % 256)).toNat : Int) = ((n0 / 2 ^ (56 - 8 * k) : Nat) : Int) % 256 := by rw [UInt8.toNat_ofNat']; omega
   rw [en, e8] at d1
   have e1 : (56 : Int) - 8 * (k : Int) = ((56 - 8 * k : Nat) : Int) := by omega
   have e2 : (n0 : Int) / 2 ^ (56 - 8 * k) = ((n0 / 2 ^ (56 - 8 * k) : Nat) : Int) := by simp
   generalize n0 / 2 ^ (56 - 8 * k) = y at *
   have d2 := qb.setCell (p := ⟨w.heap.size, k, none⟩) (Nat.le_refl _) (.int .u8 ((y : Int) % 256))
   have i0 : (k : Int) < 8 := by omega
   clear en e8 q0 qb hpl
   go_wp2_with fail
   go_roundw
   case rel => exact ⟨k + 1, by simp, by omega, d1, d2⟩
   case measure => simp [RowKit.intOf]; omega
  ·obtain rfl : k = 8 := by omega
   have e8 : bpad (R.take 8) 8 = R := by
    rw [List.take_of_length_le (by rw [HL.out]; omega)]; unfold bpad; rw [HL.out]; simp
   rw [e8] at q0
   have ht := Byts.text (P := Tryz.prog) q0 93 9 5 8 8 HL.out Tryz.underlying93 Tryz.underlying5 Tryz.underlying9
   clear e8
   go_wp2_with fail
   go_ret
   exact ⟨rfl, qb⟩
/-- A number of bytes, the greatest first. -/
def numL (l : List UInt8) : Nat := l.foldl (fun n x => n * 256 + x.toNat) 0
theorem j8p (l : List UInt8) (x : UInt8) : numL (l ++ [x]) = numL l * 256 + x.toNat := by unfold numL; rw [List.foldl_append]; rfl
theorem x5e (l : List UInt8) : numL l < 256 ^ l.length := by
 obtain ⟨r, hr⟩ : ∃ r, r = l.reverse := ⟨_, rfl⟩
 have : l = r.reverse := by rw [hr, List.reverse_reverse]
 subst this
 clear hr
 induction r with
 | nil => simp [numL]
 | cons x r ih =>
  have h1 : (r.reverse ++ [x]).length = r.reverse.length + 1 := by simp
  rw [List.reverse_cons, j8p, h1, Nat.pow_succ]
  have := x.toNat_lt
  omega
theorem or_low (n c : Nat) (hn : n < 72057594037927936) (hc : c < 256) : bits BinOp.or .u64 (IntKind.u64.wrap ((n : Int) * 256)) (IntKind.u64.wrap (c : Int)) = ((n * 256 + c : Nat) : Int) := by
 have e1 : IntKind.u64.wrap ((n : Int) * 256) = ((n * 256 : Nat) : Int) := by rw [IntKind.wrap_u64]; omega
 have e2 : IntKind.u64.wrap (c : Int) = ((c : Nat) : Int) := by rw [IntKind.wrap_u64]; omega
 rw [e1, e2]
 have h1 : (BitVec.ofInt 64 ((n * 256 : Nat) : Int)).toNat = n * 256 := by
  rw [BitVec.ofInt_natCast, BitVec.toNat_ofNat]; exact Nat.mod_eq_of_lt (by omega)
 have h2 : (BitVec.ofInt 64 (c : Int)).toNat = c := by
  rw [BitVec.ofInt_natCast, BitVec.toNat_ofNat]; exact Nat.mod_eq_of_lt (by omega)
 show IntKind.u64.wrap ((BitVec.ofInt 64 ((n * 256 : Nat) : Int) ||| BitVec.ofInt 64 (c : Int)).toNat : Int) = _
 have h3 := Nat.two_pow_add_eq_or_of_lt (i := 8) (b := c) (by omega) n
 rw [BitVec.toNat_or, h1, h2, show n * 256 = 2 ^ 8 * n by omega, ← h3, IntKind.wrap_u64]
 omega
theorem j7g (s : ByteArray) (k : Nat) (h : k < s.size) : numL (s.data.toList.take (k + 1)) = numL (s.data.toList.take k) * 256 + (s[k]'h).toNat := by
 have hl : k < s.data.toList.length := by simpa using h
 rw [List.take_succ_eq_append_getElem hl, j8p]
 rfl
theorem x1u (l : List UInt8) (k : Nat) (h : k < 8) : numL (l.take k) < 72057594037927936 := by
 have h1 := x5e (l.take k)
 have h2 : (l.take k).length ≤ 7 := by rw [List.length_take]; omega
 have h3 : 256 ^ (l.take k).length ≤ 256 ^ 7 := Nat.pow_le_pow_right (by omega) h2
 omega
theorem j6r (s : ByteArray) (w : World) (hs : 8 ≤ s.size) (hm : s.size ≤ 9223372036854775807) :
  Calls Tryz.prog 174 #[.string s] w fun e w' => e = .returned (.tuple #[.int .u64 (numL (s.data.toList.take 8)), .int .i64 0]) ∧ Below w.heap.size w w' := by
 have b := Below.refl w.heap.size w
 go_enter Tryz.func174, Tryz.ntmps174
 go_wp2_with fail
 go_loopw [4, 9] (fun n i wr => ∃ k : Nat, i = .int .i64 k ∧ k ≤ 8 ∧ n = .int .u64 (numL (s.data.toList.take k)) ∧ Below w.heap.size w wr) (fun _ i _ => 8 - (RowKit.intOf i).toNat)
 case atStart => exact ⟨0, rfl, by omega, rfl, b⟩
 case round =>
  obtain ⟨k, rfl, hk, rfl, qb⟩ := hrel
  clear b
  by_cases hlt : k < 8
  ·have hks : k < s.size := by omega
   have e8 := j7g s k hks
   have e9 := or_low (numL (s.data.toList.take k)) (s[k]'hks).toNat (x1u _ k hlt) (UInt8.toNat_lt _)
   have E8 := hide e8
   generalize numL (s.data.toList.take k) = n at *
   clear e8
   go_wp2_with fail
   go_roundw
   case rel => exact ⟨k + 1, by simp, by omega, by rw [E8.out]; simp, qb⟩
   case measure => simp [RowKit.intOf]; omega
  ·obtain rfl : k = 8 := by omega
   go_wp2_with fail
   go_ret2
   exact ⟨rfl, qb⟩
theorem j1z (s : ByteArray) (w : World) (hs : 8 ≤ s.size) (hm : s.size ≤ 9223372036854775807) :
  Calls Tryz.prog 175 #[.string s] w fun e w' => e = .returned (.tuple #[.int .u64 (numL (s.data.toList.take 8)), .int .i64 0]) ∧ Below w.heap.size w w' := by
 have b := Below.refl w.heap.size w
 go_enter Tryz.func175, Tryz.ntmps175
 go_wp2_with fail
 go_loopw [4, 5] (fun n i wr => ∃ k : Nat, i = .int .i64 k ∧ k ≤ 8 ∧ n = .int .u64 (numL (s.data.toList.take k)) ∧ Below w.heap.size w wr) (fun _ i _ => 8 - (RowKit.intOf i).toNat)
 case atStart => exact ⟨0, rfl, by omega, rfl, b⟩
 case round =>
  obtain ⟨k, rfl, hk, rfl, qb⟩ := hrel
  clear b
  by_cases hlt : k < 8
  ·have hks : k < s.size := by omega
   have e8 := j7g s k hks
   have hn := x1u s.data.toList k hlt
   have hc := UInt8.toNat_lt (s[k]'hks)
   have E8 := hide e8
   generalize numL (s.data.toList.take k) = n at *
   clear e8
   go_wp2_with fail
   go_roundw
   case rel => exact ⟨k + 1, by simp, by omega, by rw [E8.out]; congr 1, qb⟩
   case measure => simp [RowKit.intOf]; omega
  ·obtain rfl : k = 8 := by omega
   go_wp2_with fail
   go_ret2
   exact ⟨rfl, qb⟩
end Go.Proofs.YtbbfnpfkbbpjgaaGreat
