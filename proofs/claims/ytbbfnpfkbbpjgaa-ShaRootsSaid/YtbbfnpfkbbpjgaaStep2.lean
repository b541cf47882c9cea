/- A strings.Builder in a walk in which the world stays a variable. -/
import Derived.Test.YtbbfnpfkbbpjgaaStep
import Derived.Test.YtbbfnpfkbbpjgaaMOnce
import Derived.ArgAppend
namespace Go.Proofs.Ytbbfnpfkbbpjgaa
open Go.RowKit Go.Lib
set_option linter.unusedVariables false
set_option linter.unusedSimpArgs false

/-- Block g holds a builder that has the bytes s; all that is its own stands from g on. -/
def Bld (w : World) (g : Nat) (s : List UInt8) : Prop := Lib.IsBuilder 105 5 g g (Lib.byteCells s) w
theorem Bld.later {w w' : World} {g : Nat} {s : List UInt8} (h : Bld w g s) (hb : Below w.heap.size w w') : Bld w' g s := builder_later h hb
theorem Bld.lt {w : World} {g : Nat} {s : List UInt8} (h : Bld w g s) : g < w.heap.size := by
  rcases h with ⟨_, v, h, _⟩ | ⟨_, v, h, _⟩ <;> exact (Array.getElem?_eq_some_iff.1 h).1
theorem bldZero : (Try.prog.info? 105).bind (·.zero) = some (.agg #[.pointer none, .slice none 0 0]) := by kernel_rfl
theorem wpl_mk_bld {ops : Array Oper} {rest : List Oper} {o : Oper} {a : Act} {w : World} {Q : Exit → Act → World → Prop} (hw : Region.wanted o (yielded ops a.tmps) = true) (ho : o.op = .alloc 105)
    (hk : ∀ w2 g, w.heap.size ≤ g → Bld w2 g [] → Below w.heap.size w w2 → wpList Try.prog ops Q rest (a.put o.dst (.pointer (some ⟨g, 0, none⟩))) w2) : wpList Try.prog ops Q (o :: rest) a w :=
  wpl_mk hw 105 ho bldZero (cs := [.pointer none, .slice none 0 0]) rfl (fun w2 g hg h hb => hk w2 g hg (Or.inl ⟨Nat.le_refl _, .slice none 0 0, h, World.ownsRow_nil _ _ _ _, by simp [Value.ownBlock]⟩) hb)
theorem bld_write (g : Nat) (x s : List UInt8) (w : World) (h : Bld w g x) (hl : x.length + s.length ≤ 140737488355328) :
    Calls Try.prog 63 #[.pointer (some ⟨g, 0, none⟩), .string ⟨s.toArray⟩] w fun e w' => e = .returned (.tuple #[.int .i64 (⟨s.toArray⟩ : ByteArray).size, .nilIface]) ∧ Bld w' g (x ++ s) ∧ Below g w w' := by
  refine (writeString g g _ ⟨s.toArray⟩ w h (by rw [Lib.byteCells_length]; simpa [ByteArray.size] using hl) (Nat.le_of_lt h.lt)).mono ?_
  rintro e w' ⟨he, hb, hB⟩
  exact ⟨he, builder_more hb rfl, hB⟩
theorem bld_writeB (g : Nat) (x : List UInt8) (s : ByteArray) (w : World) (h : Bld w g x) (hl : x.length + s.size ≤ 140737488355328) :
    Calls Try.prog 63 #[.pointer (some ⟨g, 0, none⟩), .string s] w fun e w' => e = .returned (.tuple #[.int .i64 s.size, .nilIface]) ∧ Bld w' g (x ++ s.data.toList) ∧ Below g w w' := by
  have e : (⟨s.data.toList.toArray⟩ : ByteArray) = s := by cases s; simp
  have := bld_write g x s.data.toList w h (by simpa using hl)
  rw [e] at this
  exact this
theorem bld_string (g : Nat) (x : List UInt8) (w : World) (h : Bld w g x) :
    Calls Try.prog 73 #[.pointer (some ⟨g, 0, none⟩)] w fun e w' => e = .returned (.string ⟨x.toArray⟩) ∧ Below g w w' :=
  Try.Builder_String_any g g x w h (Nat.le_of_lt h.lt)
theorem HsU.below {w w' : World} {v : Value} {l : List (List UInt8)} {m B : Nat} (h : HsU w v l m) (hb : Below B w w') (hB : m ≤ B) : HsU w' v l m := by
  refine ⟨h.1.touch2 (S := fun b => B ≤ b) ⟨hb.os, hb.tape, hb.output, hb.size, fun k _ hn => hb.block k (by omega)⟩ (fun h0 b hb' hs => ?_), h.2⟩
  have h1 := h.2 h0 b hb'
  have h2 : B ≤ b := hs
  omega
theorem One.below {w w' : World} {b B : Nat} {t : TypeId} {v : Value} (h : One w b t v) (hb : Below B w w') (hB : b < B) : One w' b t v := Arr.below h hb hB
theorem wpl_built {P : Program} {ops : Array Oper} {rest : List Oper} {o : Oper} {a : Act} {w : World} {Q : Exit → Act → World → Prop} (hw : Region.wanted o (yielded ops a.tmps) = true) (t : TypeId) (parts : Array (Nat × Operand)) (ho : o.op = .build t parts) {ps : List (Nat × Value)}
    (hp : (parts.map fun (i, x) => (i, a.eval x)).toList = ps) {cs : List Value} (hc : P.built t ps = some cs.toArray) (hk : wpList P ops Q rest (a.put o.dst (.agg cs.toArray)) w) : wpList P ops Q (o :: rest) a w :=
  wpl_build hw t parts ho cs.toArray (by rw [hp]; exact hc) hk
section
variable {P : Program} {ops : Array Oper} {rest : List Oper} {o : Oper} {a : Act} {w : World} {Q : Exit → Act → World → Prop}
theorem wpl_built1 (hw : Region.wanted o (yielded ops a.tmps) = true) (t : TypeId) {i : Nat} (x : Operand) (ho : o.op = .build t #[(i, x)]) {v : Value} (hx : a.eval x = v) {cs : List Value} (hc : P.built t [(i, v)] = some cs.toArray)
    (hk : wpList P ops Q rest (a.put o.dst (.agg cs.toArray)) w) : wpList P ops Q (o :: rest) a w := wpl_built hw t _ ho (by simp [hx]) hc hk
theorem wpl_built2 (hw : Region.wanted o (yielded ops a.tmps) = true) (t : TypeId) {i j : Nat} (x y : Operand) (ho : o.op = .build t #[(i, x), (j, y)]) {v u : Value} (hx : a.eval x = v) (hy : a.eval y = u) {cs : List Value} (hc : P.built t [(i, v), (j, u)] = some cs.toArray)
    (hk : wpList P ops Q rest (a.put o.dst (.agg cs.toArray)) w) : wpList P ops Q (o :: rest) a w := wpl_built hw t _ ho (by simp [hx, hy]) hc hk
theorem wpl_built3 (hw : Region.wanted o (yielded ops a.tmps) = true) (t : TypeId) {i j k : Nat} (x y z : Operand) (ho : o.op = .build t #[(i, x), (j, y), (k, z)]) {v u q : Value} (hx : a.eval x = v) (hy : a.eval y = u) (hz : a.eval z = q) {cs : List Value} (hc : P.built t [(i, v), (j, u), (k, q)] = some cs.toArray)
    (hk : wpList P ops Q rest (a.put o.dst (.agg cs.toArray)) w) : wpList P ops Q (o :: rest) a w := wpl_built hw t _ ho (by simp [hx, hy, hz]) hc hk
theorem wpl_built0 (hw : Region.wanted o (yielded ops a.tmps) = true) (t : TypeId) (ho : o.op = .build t #[]) {cs : List Value} (hc : P.built t [] = some cs.toArray)
    (hk : wpList P ops Q rest (a.put o.dst (.agg cs.toArray)) w) : wpList P ops Q (o :: rest) a w := wpl_built hw t _ ho (by simp) hc hk
end
theorem wpl_box_one {P : Program} {ops : Array Oper} {rest : List Oper} {o : Oper} {a : Act} {w : World} {Q : Exit → Act → World → Prop} (hw : Region.wanted o (yielded ops a.tmps) = true) (t : TypeId) (x : Operand) (ho : o.op = .box t x) {v : Value} (hx : a.eval x = v) (hc : v.cells = #[v])
    (hk : ∀ w2 g, w.heap.size ≤ g → One w2 g t v → Below w.heap.size w w2 → wpList P ops Q rest (a.put o.dst (.pointer (some ⟨g, 0, none⟩))) w2) : wpList P ops Q (o :: rest) a w :=
  wpl_box hw t x ho hx (cs := [v]) (by rw [hc]) hk
theorem Hs.cut {w : World} {a : Option Addr} {n cap : Nat} {l : List (List UInt8)} (h : Hs w (.slice a n cap) l) (j : Nat) (hj : j ≤ n) : Hs w (.slice a j j) (l.take j) := by
  obtain ⟨a', cap', h1, h2, h3, h0⟩ := h.shape
  simp only [Value.slice.injEq] at h1
  obtain ⟨rfl, rfl, rfl⟩ := h1
  refine ⟨?_, fun x hx => h.2 x (List.mem_of_mem_take hx)⟩
  have := Sl.take h.1 j j hj (Nat.le_refl _) (by omega) (fun hn => by have := h0 hn; omega)
  rwa [← List.map_take] at this
theorem OwnU.base {w : World} {B B' : Nat} {v : Value} {l : List (List UInt8)} {X : List Nat} (h : OwnU w B v l X) (hB : B' ≤ B) : OwnU w B' v l X := ⟨owns_base h.1 hB, h.2⟩
/-- What holds of w, and of every world in which only blocks from m on have been turned. -/
def Stab (P : World → Prop) (m : Nat) (w : World) : Prop := m ≤ w.heap.size ∧ ∀ w', Touch (fun b => m ≤ b) w w' → P w'
section
variable {P : World → Prop} {m : Nat} {w w' : World}
theorem Stab.now (h : Stab P m w) : P w := h.2 w (Touch.refl _ w)
theorem Stab.lt (h : Stab P m w) : m ≤ w.heap.size := h.1
theorem Stab.touch {S : Nat → Prop} (h : Stab P m w) (ht : Touch S w w') (hS : ∀ x, S x → m ≤ x) : Stab P m w' :=
  ⟨Nat.le_trans h.1 ht.size, fun w2 h2 => h.2 w2 (Touch.trans ⟨ht.os, ht.tape, ht.output, ht.size, fun k hk hn => ht.block k hk (fun hs => hn (hS k hs))⟩ h2 (fun x hx => .inl hx))⟩
theorem Stab.later (h : Stab P m w) (hb : Below w.heap.size w w') : Stab P m w' := h.touch (touch_below (S := fun _ => False) hb) (fun _ h => h.elim)
theorem Stab.below {B : Nat} (h : Stab P m w) (hb : Below B w w') (hB : m ≤ B) : Stab P m w' :=
  h.touch (S := fun b => B ≤ b) ⟨hb.os, hb.tape, hb.output, hb.size, fun k _ hn => hb.block k (by omega)⟩ (fun x hx => Nat.le_trans hB hx)
theorem Stab.of (hP : ∀ w w', P w → Below w.heap.size w w' → P w') (h : P w) : Stab P w.heap.size w :=
  ⟨Nat.le_refl _, fun w' ht => hP w w' h (ht.below (Nat.le_refl _) (fun _ hx => hx))⟩
end
theorem Cells.st {w : World} {b o : Nat} {cs : List Value} (h : Cells w b o cs) : Stab (fun w => Cells w b o cs) w.heap.size w := Stab.of (fun _ _ h hb => Cells.later h hb) h
/-- .. or blocks of X. -/
def StabX (P : World → Prop) (m : Nat) (X : List Nat) (w : World) : Prop := m ≤ w.heap.size ∧ ∀ w', Touch (fun b => m ≤ b ∨ b ∈ X) w w' → P w'
section
variable {P : World → Prop} {m : Nat} {X : List Nat} {w w' : World}
theorem StabX.now (h : StabX P m X w) : P w := h.2 w (Touch.refl _ w)
theorem StabX.lt (h : StabX P m X w) : m ≤ w.heap.size := h.1
theorem StabX.touch {S : Nat → Prop} (h : StabX P m X w) (ht : Touch S w w') (hS : ∀ x, S x → m ≤ x ∨ x ∈ X) : StabX P m X w' :=
  ⟨Nat.le_trans h.1 ht.size, fun w2 h2 => h.2 w2 (Touch.trans ⟨ht.os, ht.tape, ht.output, ht.size, fun k hk hn => ht.block k hk (fun hs => hn (hS k hs))⟩ h2 (fun x hx => .inl hx))⟩
theorem StabX.later (h : StabX P m X w) (hb : Below w.heap.size w w') : StabX P m X w' := h.touch (touch_below (S := fun _ => False) hb) (fun _ h => h.elim)
theorem StabX.below {B : Nat} (h : StabX P m X w) (hb : Below B w w') (hB : m ≤ B) : StabX P m X w' :=
  h.touch (S := fun b => B ≤ b) ⟨hb.os, hb.tape, hb.output, hb.size, fun k _ hn => hb.block k (by omega)⟩ (fun x hx => .inl (Nat.le_trans hB hx))
end
theorem stx_m {g m : Nat} {X : List Nat} (h : m ≤ g) : ∀ x, (fun b => b = g) x → m ≤ x ∨ x ∈ X := fun x hx => .inl (by have : x = g := hx; omega)
theorem stx_x {g m : Nat} {X : List Nat} (h : g ∈ X) : ∀ x, (fun b => b = g) x → m ≤ x ∨ x ∈ X := fun x hx => .inr (by have : x = g := hx; rw [this]; exact h)
theorem Bld.st {w : World} {g : Nat} {s : List UInt8} (h : Bld w g s) : Stab (fun w => Bld w g s) w.heap.size w := Stab.of (fun _ _ h hb => Bld.later h hb) h
/-- w has at least B blocks. -/
def Geq (w : World) (B : Nat) : Prop := B ≤ w.heap.size
theorem Geq.later {w w' : World} {B : Nat} (h : Geq w B) (hb : Below w.heap.size w w') : Geq w' B := Nat.le_trans h hb.size
theorem Geq.touch {S : Nat → Prop} {w w' : World} {B : Nat} (h : Geq w B) (ht : Touch S w w') (_ : True) : Geq w' B := Nat.le_trans h ht.size
theorem Geq.below {w w' : World} {B n : Nat} (h : Geq w B) (hb : Below n w w') (_ : 0 ≤ n) : Geq w' B := Nat.le_trans h hb.size
theorem Geq.lt {w : World} {B : Nat} (h : Geq w B) : B ≤ w.heap.size := h
theorem Geq.tt {w w' : World} {B g : Nat} (h : Geq w B) (ht : Touch (fun x => x = g) w w') : Geq w' B := h.touch ht trivial
theorem Stab.tt {P : World → Prop} {m g : Nat} {w w' : World} (h : Stab P m w) (ht : Touch (fun x => x = g) w w') (hS : m ≤ g := by omega) : Stab P m w' := h.touch ht (off_one hS)
theorem StabX.tt {P : World → Prop} {m g : Nat} {X : List Nat} {w w' : World} (h : StabX P m X w) (ht : Touch (fun x => x = g) w w') (hS : m ≤ g ∨ g ∈ X := by first | exact .inl (by omega) | exact .inr (by simp)) : StabX P m X w' := h.touch ht (hS.elim stx_m stx_x)
theorem below_more {B n : Nat} {w w1 w2 : World} (h : Below n w w1) (hb : Below B w1 w2) (hn : n ≤ B) : Below n w w2 := h.trans (hb.mono hn)
end Go.Proofs.Ytbbfnpfkbbpjgaa
