/- Rows of one-cell values in a block. -/
import Derived.Test.YtikphhhkikdhaaaShaSpec
import Derived.Test.YtikphhhkikdhaaaCmp
import Derived.Laws.Rows
namespace Go.Proofs.Ytikphhhkikdhaaa
open Go.RowKit Go.Lib

/-- Block b of w holds the values cs, of type t. -/
def Arr (w : World) (b : Nat) (t : TypeId) (cs : List Value) : Prop := w.heap[b]? = some (.cells cs.toArray t (0, 0))
section
variable {w w' : World} {b : Nat} {t : TypeId} {cs : List Value}
theorem Arr.cell (h : Arr w b t cs) {i : Nat} (hi : i < cs.length) : w.cell? ⟨b, i, none⟩ = some (cs.getD i undef) := by
  rw [cell_of_row w b i cs.toArray t (0, 0) h]
  simp [hi]
theorem Arr.thaw (h : Arr w b t cs) (i : Nat) : w.frozen? ⟨b, i, none⟩ = false := frozen_of_row w b i cs.toArray t h
theorem Arr.set (h : Arr w b t cs) (i : Nat) (v : Value) : Arr (w.setCell ⟨b, i, none⟩ v) b t (cs.set i v) := by
  unfold Arr
  rw [heap_setCell_same w b i cs.toArray t v h]
  simp
theorem Arr.other (h : Arr w b t cs) (a : Addr) (v : Value) (hne : b ≠ a.block) : Arr (w.setCell a v) b t cs := by
  unfold Arr
  rw [heap_setCell_other w a b v hne]
  exact h
theorem Arr.lt (h : Arr w b t cs) : b < w.heap.size := by
  unfold Arr at h
  exact (Array.getElem?_eq_some_iff.1 h).1
theorem Arr.later (h : Arr w b t cs) (hb : Below w.heap.size w w') : Arr w' b t cs := by
  unfold Arr
  rw [hb.block b h.lt]
  exact h
theorem Arr.below (h : Arr w b t cs) {B : Nat} (hb : Below B w w') (hB : b < B) : Arr w' b t cs := by
  unfold Arr
  rw [hb.block b hB]
  exact h
theorem Arr.new (w : World) (cs : List Value) (t : TypeId) : Arr (w.alloc (.cells cs.toArray t)) w.heap.size t cs := by
  unfold Arr
  show (w.heap.push _)[w.heap.size]? = _
  simp
theorem Arr.alloc (h : Arr w b t cs) (o : Obj) : Arr (w.alloc o) b t cs := h.later ((Below.refl _ _).alloc (Nat.le_refl _) _)
theorem Arr.load {P : Program} (h : Arr w b t cs) (ty : TypeId) (d : TypeDesc) (hu : P.underlying ty = some d) (hd : (match d with | .struct _ | .array _ _ => true | _ => false) = true) (hi : (P.info? ty).map (·.size) = some cs.length) :
    (loadVar ty ⟨b, 0, none⟩).run P w = .ok (.agg cs.toArray) w :=
  run_loadVar_row w b t ty cs.toArray (0, 0) d h hu hd (by simpa using hi)
/-- As the walk's simp leaves a load and a store of the whole array: laid into the context, these keep it from opening them. -/
theorem Arr.loads {P : Program} (h : Arr w b t cs) {n : Nat} (hn : cs.length = n) : (loadCellsFrom ⟨b, 0, none⟩ 0 n #[]).run P w = .ok cs.toArray w := by
  subst hn
  exact run_loadCells_list (P := P) w ⟨b, 0, none⟩ cs (fun j v hv => by
      have hadd : (⟨b, 0, none⟩ : Addr).add j = ⟨b, j, none⟩ := by unfold Addr.add; split <;> simp_all
      rw [hadd, cell_of_row w b j cs.toArray t (0, 0) h]
      simpa using hv)
theorem Arr.stores {P : Program} (h : Arr w b t cs) (cs' : List Value) (hl : cs.length = cs'.length) (h1 : cs'.all (·.oneCell') = true) : (storeCells ⟨b, 0, none⟩ cs' 0).run P w = .ok () (w.setRow b cs'.toArray) := by
  have := run_storeCells_from (P := P) b t cs' 0 cs.toArray w h (by simp; omega) (fun v hv => List.all_eq_true.1 h1 v hv)
  simpa using this
theorem Arr.row (h : Arr w b t cs) (cs' : List Value) : Arr (w.setRow b cs'.toArray) b t cs' := setRow_heap w b cs.toArray cs'.toArray t (0, 0) h
theorem Arr.row_other (h : Arr w b t cs) (g : Nat) (a : Array Value) (hne : b ≠ g) : Arr (w.setRow g a) b t cs := by
  unfold Arr; rw [setRow_other w g b a hne]; exact h
end
theorem below_setRow {B : Nat} {a w : World} (h : Below B a w) {b : Nat} (hB : B ≤ b) (c : Array Value) : Below B a (w.setRow b c) :=
  h.trans ⟨rfl, rfl, rfl, by simp, fun k hk => setRow_other w b k c (by omega)⟩

theorem Arr.new2 (w : World) (o : Obj) (cs : List Value) (t : TypeId) : Arr ((w.alloc o).alloc (.cells cs.toArray t)) (w.heap.size + 1) t cs := by
  have := Arr.new (w.alloc o) cs t
  have e : (w.alloc o).heap.size = w.heap.size + 1 := by simp
  rwa [e] at this

/-- Words as values. -/
def wvs (l : List W32) : List Value := l.map fun x => .int .u32 (wv x)
theorem wvs_one (l : List W32) : (wvs l).all (·.oneCell') = true := by simp only [wvs, List.all_map, List.all_eq_true]; intros; rfl
theorem wvs_length (l : List W32) : (wvs l).length = l.length := by simp [wvs]
theorem wvs_getD (l : List W32) (i : Nat) (h : i < l.length) : (wvs l).getD i undef = .int .u32 (wv (l.getD i 0)) := by simp [wvs, h]
theorem wvs_set (l : List W32) (i : Nat) (x : W32) : (wvs l).set i (.int .u32 (wv x)) = wvs (l.set i x) := by simp [wvs, List.map_set]
def Words (w : World) (b : Nat) (t : TypeId) (l : List W32) : Prop := Arr w b t (wvs l)
theorem Words.cell {w : World} {b : Nat} {t : TypeId} {l : List W32} (h : Words w b t l) {i : Nat} (hi : i < l.length) : w.cell? ⟨b, i, none⟩ = some (.int .u32 (wv (l.getD i 0))) := by
  rw [Arr.cell h (by rw [wvs_length]; exact hi), wvs_getD l i hi]
theorem Words.set {w : World} {b : Nat} {t : TypeId} {l : List W32} (h : Words w b t l) (i : Nat) (x : W32) : Words (w.setCell ⟨b, i, none⟩ (.int .u32 (wv x))) b t (l.set i x) := by
  unfold Words; rw [← wvs_set]; exact Arr.set h i _

end Go.Proofs.Ytikphhhkikdhaaa
