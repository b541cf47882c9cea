/- Hashes in memory: a block that holds one; the steps of a walk that load, store, compare and return them. -/
import Derived.Test.YtikphhhkikdhaaaHashEq
import Derived.Test.YtikphhhkikdhaaaMix
import Derived.Test.YtikphhhkikdhaaaRead
import Derived.BigFrame
namespace Go.Proofs.Ytikphhhkikdhaaa
open Go.RowKit Go.Lib

/-- Block b holds the hash l. -/
def HashAt (w : World) (b : Nat) (l : List UInt8) : Prop := l.length = 32 ∧ Arr w b 23 (bvs l)
section
variable {w w' : World} {b : Nat} {l : List UInt8}
theorem HashAt.lt (h : HashAt w b l) : b < w.heap.size := Arr.lt h.2
theorem HashAt.below (h : HashAt w b l) {B : Nat} (hb : Below B w w') (hB : b < B) : HashAt w' b l := ⟨h.1, Arr.below h.2 hb hB⟩
theorem HashAt.later (h : HashAt w b l) (hb : Below w.heap.size w w') : HashAt w' b l := h.below hb h.lt
theorem HashAt.alloc (h : HashAt w b l) (o : Obj) : HashAt (w.alloc o) b l := h.later ((Below.refl _ _).alloc (Nat.le_refl _) _)
theorem HashAt.new (w : World) (l : List UInt8) (hl : l.length = 32) : HashAt (w.alloc (.cells (bvs l).toArray 23)) w.heap.size l := ⟨hl, Arr.new _ _ _⟩
theorem HashAt.new2 (w : World) (o : Obj) (l : List UInt8) (hl : l.length = 32) : HashAt ((w.alloc o).alloc (.cells (bvs l).toArray 23)) (w.heap.size + 1) l := ⟨hl, Arr.new2 _ _ _ _⟩
theorem HashAt.row (h : HashAt w b l) (l' : List UInt8) (hl : l'.length = 32) : HashAt (w.setRow b (bvs l').toArray) b l' := ⟨hl, Arr.row h.2 _⟩
theorem HashAt.row_other (h : HashAt w b l) (g : Nat) (a : Array Value) (hne : b ≠ g) : HashAt (w.setRow g a) b l := ⟨h.1, Arr.row_other h.2 g a hne⟩
theorem HashAt.zero (w : World) : HashAt (w.alloc (.cells (bvs zero32).toArray 23)) w.heap.size zero32 := HashAt.new w zero32 rfl
end
theorem hashInfo : (Try.prog.info? 23).map (·.size) = some 32 := by kernel_rfl
theorem hashInfoOf (l : List UInt8) (h : l.length = 32) : (Try.prog.info? 23).map (·.size) = some (bvs l).toArray.size := by
  rw [show (bvs l).toArray.size = 32 by simp [bvs, h]]; exact hashInfo
theorem hashBuilt : Try.prog.built 23 [] = some (bvs zero32).toArray := by kernel_rfl
/-- A variable that was made and filled at once. -/
theorem hash_set (w : World) (l : List UInt8) (hl : l.length = 32) : HashAt ((w.alloc (.cells (bvs zero32).toArray 23)).setRow w.heap.size (bvs l).toArray) w.heap.size l ∧
    Below w.heap.size w ((w.alloc (.cells (bvs zero32).toArray 23)).setRow w.heap.size (bvs l).toArray) :=
  ⟨(HashAt.zero w).row l hl, below_setRow (below1 w _) (Nat.le_refl _) _⟩

section
variable {ops : Array Oper} {rest : List Oper} {o : Oper} {a : Act} {w : World} {Q : Exit → Act → World → Prop}
theorem wpl_load_hash (hw : Region.wanted o (yielded ops a.tmps) = true) (x : Operand) (ho : o.op = .load 23 x) {g : Nat} {l : List UInt8} (hx : a.eval x = .pointer (some ⟨g, 0, none⟩)) (h : HashAt w g l)
    (hk : wpList Try.prog ops Q rest (a.put o.dst (hv l)) w) : wpList Try.prog ops Q (o :: rest) a w :=
  BigFrame.wpList_want hw fun _ hK => wp_load_row 23 x ho g hx 23 (bvs l).toArray (0, 0) _ h.2 Try.underlying23 rfl (hashInfoOf l h.1) (hK _ _ hk)
/-- .. in a world behind the one of which the fact speaks. -/
theorem wpl_load_hashB {W : World} (hB : Below W.heap.size W w) (hw : Region.wanted o (yielded ops a.tmps) = true) (x : Operand) (ho : o.op = .load 23 x) {g : Nat} {l : List UInt8} (hx : a.eval x = .pointer (some ⟨g, 0, none⟩)) (h : HashAt W g l)
    (hk : wpList Try.prog ops Q rest (a.put o.dst (hv l)) w) : wpList Try.prog ops Q (o :: rest) a w := wpl_load_hash hw x ho hx (h.later hB) hk
theorem wpl_store_hash (hgd : o.guard = none) (x y : Operand) (ho : o.op = .store 23 x y) {g : Nat} {l0 l : List UInt8} (hx : a.eval x = .pointer (some ⟨g, 0, none⟩)) (hy : a.eval y = hv l) (hl : l.length = 32) (h : HashAt w g l0)
    (hk : wpList Try.prog ops Q rest (a.put o.dst undef) (w.setRow g (bvs l).toArray)) : wpList Try.prog ops Q (o :: rest) a w :=
  wpList_store_row hgd 23 x y ho g (bvs l).toArray hx hy 23 _ h.2 (hashInfoOf l hl) (by simp [bvs, hl, h.1]) (by simpa using bvs_one l) hk
theorem wpl_eq_hash (hw : Region.wanted o (yielded ops a.tmps) = true) (x y : Operand) (ho : o.op = .binOp .eql 23 x y 23) {l g : List UInt8} (hx : a.eval x = hv l) (hy : a.eval y = hv g) (hl : l.length = 32) (hg : g.length = 32)
    (hk : wpList Try.prog ops Q rest (a.put o.dst (.bool (decide (l = g)))) w) : wpList Try.prog ops Q (o :: rest) a w :=
  BigFrame.wpList_want hw fun _ hK => by
    unfold Oper.wp execOp
    simp only [ho, hx, hy, hv, Sem.run_bind]
    rw [run_eqGuard_agg w .eql 23 x y _ _ Try.eqGuardType23]
    simp only [Result.andThen_ok]
    rw [eq_hash l g hl hg]
    exact hK _ _ hk
theorem ne_hash (a b : List UInt8) (ha : a.length = 32) (hb : b.length = 32) (w : World) :
    (binOp .neq 23 (.agg (bvs a).toArray) (.agg (bvs b).toArray)).run Try.prog w = .ok (.bool (!decide (a = b))) w := by
  rw [run_neq_struct, run_eq_hash a b ha hb]; rfl
theorem wpl_ne_hash (hw : Region.wanted o (yielded ops a.tmps) = true) (x y : Operand) (ho : o.op = .binOp .neq 23 x y 23) {l g : List UInt8} (hx : a.eval x = hv l) (hy : a.eval y = hv g) (hl : l.length = 32) (hg : g.length = 32)
    (hk : wpList Try.prog ops Q rest (a.put o.dst (.bool (!decide (l = g)))) w) : wpList Try.prog ops Q (o :: rest) a w :=
  BigFrame.wpList_want hw fun _ hK => by
    unfold Oper.wp execOp
    simp only [ho, hx, hy, hv, Sem.run_bind]
    rw [run_eqGuard_agg w .neq 23 x y _ _ Try.eqGuardType23]
    simp only [Result.andThen_ok]
    rw [ne_hash l g hl hg]
    exact hK _ _ hk
theorem wpl_build {P : Program} (hw : Region.wanted o (yielded ops a.tmps) = true) (t : TypeId) (parts : Array (Nat × Operand)) (ho : o.op = .build t parts) (cs : Array Value) (hc : P.built t (parts.map fun (i, x) => (i, a.eval x)).toList = some cs)
    (hk : wpList P ops Q rest (a.put o.dst (.agg cs)) w) : wpList P ops Q (o :: rest) a w :=
  BigFrame.wpList_want hw fun _ hK => by
    unfold Oper.wp execOp
    simp only [ho, Sem.run_bind, run_build w t _ cs hc, Result.andThen_ok]
    exact hK _ _ hk
set_option maxRecDepth 100000 in
theorem wpl_zero_hash (hw : Region.wanted o (yielded ops a.tmps) = true) (ho : o.op = .build 23 #[])
    (hk : wpList Try.prog ops Q rest (a.put o.dst (hv zero32)) w) : wpList Try.prog ops Q (o :: rest) a w :=
  wpl_build hw 23 #[] ho (bvs zero32).toArray (by rw [Array.map_empty]; exact hashBuilt) hk
/-- A function whose one result is a hash. -/
theorem ret_hash {fn : Func} {p : Tmp} (hr : fn.results = #[.cell p 23]) (tmps : Array Value) (w : World) {g : Nat} {l : List UInt8} (hp : tmps.getD p undef = .pointer (some ⟨g, 0, none⟩)) (h : HashAt w g l) :
    (results fn tmps).run Try.prog w = .ok (hv l) w :=
  results_cell_row hr tmps w g 23 (bvs l).toArray (0, 0) _ hp h.2 Try.underlying23 rfl (hashInfoOf l h.1)
/-- A function whose results are a hash and a value. -/
theorem ret_hash_tmp {fn : Func} {p u : Tmp} (hr : fn.results = #[.cell p 23, .tmp u]) (tmps : Array Value) (w : World) {g : Nat} {l : List UInt8} (v : Value) (hp : tmps.getD p undef = .pointer (some ⟨g, 0, none⟩)) (hv' : tmps.getD u undef = v) (h : HashAt w g l) :
    (results fn tmps).run Try.prog w = .ok (.tuple #[hv l, v]) w :=
  results_row_tmp hr tmps w g 23 (bvs l).toArray (0, 0) _ v hp hv' h.2 Try.underlying23 rfl (hashInfoOf l h.1)
end

/-! ### In a region that draws its order -/
section
variable {o : Oper} {a : Act} {K : Act → Prop} {w0 : World}
theorem quiet_load_hash (x : Operand) (ho : o.op = .load 23 x) {g : Nat} {l : List UInt8} (hx : a.eval x = .pointer (some ⟨g, 0, none⟩)) (h : HashAt w0 g l) (hk : K (a.put o.dst (hv l))) :
    o.quiet Try.prog a (fun w' => ∃ s : Since w0, w' = s.w) K :=
  quiet_load_row 23 x ho g hx 23 (bvs l) _ h.2 Try.underlying23 rfl (hashInfoOf l h.1) hk
theorem mix_load_row {P : Program} {B : Nat} (ty : TypeId) (x : Operand) (ho : o.op = .load ty x) (g : Nat) (hx : a.eval x = .pointer (some ⟨g, 0, none⟩)) (t : TypeId) (cs : List Value) (d : TypeDesc)
    (hrow : Arr w0 g t cs) (hB : g < B) (hu : P.underlying ty = some d) (hd : (match d with | .struct _ | .array _ _ => true | _ => false) = true) (hi : (P.info? ty).map (·.size) = some cs.toArray.size)
    (hk : K (a.put o.dst (.agg cs.toArray))) : o.quiet P a (fun w' => ∃ s : From B w0, w' = s.w) K := by
  refine quiet_value (.agg cs.toArray) (fun w hw => ?_) hk
  obtain ⟨s, rfl⟩ := hw
  unfold execOp
  simp only [ho, hx, Instr.loadAt, Instr.sureAddr, Sem.run_bind, Sem.run_pure, Result.andThen_ok, run_loadVar_row s.w g t ty cs.toArray (0, 0) d (Arr.below hrow s.ok hB) hu hd hi]
theorem quiet_build {P : Program} {C : World → Prop} (t : TypeId) (parts : Array (Nat × Operand)) (ho : o.op = .build t parts) (cs : Array Value) (hc : P.built t (parts.map fun (i, x) => (i, a.eval x)).toList = some cs)
    (hk : K (a.put o.dst (.agg cs))) : o.quiet P a C K := by
  refine quiet_value _ (fun w _ => ?_) hk
  unfold execOp
  simp only [ho, Sem.run_bind, run_build w t _ cs hc, Result.andThen_ok]
  rfl
theorem mix_load_hash {B : Nat} (x : Operand) (ho : o.op = .load 23 x) {g : Nat} {l : List UInt8} (hx : a.eval x = .pointer (some ⟨g, 0, none⟩)) (h : HashAt w0 g l) (hB : g < B) (hk : K (a.put o.dst (hv l))) :
    o.quiet Try.prog a (fun w' => ∃ s : From B w0, w' = s.w) K :=
  mix_load_row 23 x ho g hx 23 (bvs l) _ h.2 hB Try.underlying23 rfl (hashInfoOf l h.1) hk
theorem quiet_eq {C : World → Prop} (x y : Operand) (ho : o.op = .binOp .eql 23 x y 23) {l g : List UInt8} (hx : a.eval x = hv l) (hy : a.eval y = hv g) (hl : l.length = 32) (hg : g.length = 32)
    (hk : K (a.put o.dst (.bool (decide (l = g))))) : o.quiet Try.prog a C K := quiet_eq_hash x y ho l g hl hg hx hy hk
theorem quiet_ne {C : World → Prop} (x y : Operand) (ho : o.op = .binOp .neq 23 x y 23) {l g : List UInt8} (hx : a.eval x = hv l) (hy : a.eval y = hv g) (hl : l.length = 32) (hg : g.length = 32)
    (hk : K (a.put o.dst (.bool (!decide (l = g))))) : o.quiet Try.prog a C K := by
  refine quiet_value _ (fun w _ => ?_) hk
  unfold execOp
  simp only [ho, hx, hy, hv, Sem.run_bind]
  rw [run_eqGuard_agg w .neq 23 x y _ _ Try.eqGuardType23]
  simp only [Result.andThen_ok]
  rw [ne_hash l g hl hg]
  rfl
end
end Go.Proofs.Ytikphhhkikdhaaa
