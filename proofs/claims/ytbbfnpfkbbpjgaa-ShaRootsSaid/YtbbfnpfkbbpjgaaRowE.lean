/- Rows of elements of any size, of one's own: made by a literal, lengthened by append. -/
import Derived.Test.YtbbfnpfkbbpjgaaStep2
namespace Go.Proofs.Ytbbfnpfkbbpjgaa
open Go.RowKit Go.Lib
set_option linter.unusedVariables false
set_option linter.unusedSimpArgs false

/-- Elements of sz cells. -/
def Els (sz : Nat) (els : List (List Value)) : Prop := ∀ x ∈ els, x.length = sz ∧ ∀ u ∈ x, u.oneCell' = true
theorem Els.len {sz : Nat} {els : List (List Value)} (h : Els sz els) : ∀ x ∈ els, x.length = sz := fun x hx => (h x hx).1
theorem Els.flat {sz : Nat} {els : List (List Value)} (h : Els sz els) : ∀ u ∈ els.flatten, u.oneCell' = true := fun u hu => by
  obtain ⟨x, hx, hu'⟩ := List.mem_flatten.1 hu
  exact (h x hx).2 u hu'
theorem Els.app {sz : Nat} {a b : List (List Value)} (ha : Els sz a) (hb : Els sz b) : Els sz (a ++ b) := fun x hx => (List.mem_append.1 hx).elim (ha x) (hb x)
theorem Els.one {sz : Nat} {x : List Value} (hl : x.length = sz) (h1 : ∀ u ∈ x, u.oneCell' = true) : Els sz [x] := fun y hy => by simp at hy; subst hy; exact ⟨hl, h1⟩
theorem Els.nil (sz : Nat) : Els sz [] := fun _ h => by simp at h
theorem Els.flat_length {sz : Nat} : ∀ {els : List (List Value)}, Els sz els → els.flatten.length = els.length * sz
  | [], _ => by simp
  | x :: r, h => by rw [List.flatten_cons, List.length_append, (h x (by simp)).1, Els.flat_length (els := r) (fun y hy => h y (by simp [hy])), List.length_cons, Nat.add_mul]; omega
/-- The cells that a slice has. -/
theorem Sl.cellsOf {w : World} {b k n cap sz : Nat} {els : List (List Value)} (hz : 0 < sz) (h : Sl w (.slice (some ⟨b, k, none⟩) n cap) sz els) : ∀ j u, els.flatten[j]? = some u → w.cell? ((⟨b, k, none⟩ : Addr).add j) = some u := by
  intro j u hu
  obtain ⟨a, cap', hv, _, _, hl, _, hc⟩ := h
  have hlen : els.flatten.length = els.length * sz := by
    have : ∀ (es : List (List Value)), (∀ e ∈ es, e.length = sz) → es.flatten.length = es.length * sz := by
      intro es
      induction es with
      | nil => intro _; simp
      | cons x r ih => intro hh; rw [List.flatten_cons, List.length_append, hh x (by simp), ih (fun y hy => hh y (by simp [hy])), List.length_cons, Nat.add_mul]; omega
    exact this els hl
  have hj : j < els.length * sz := by rw [← hlen]; exact (List.getElem?_eq_some_iff.1 hu).1
  have hne : els ≠ [] := by intro h0; subst h0; simp at hj
  obtain ⟨b', k', rfl, _, hc⟩ := hc hne
  simp only [Value.slice.injEq, Option.some.injEq, Addr.mk.injEq, and_true] at hv
  obtain ⟨⟨rfl, rfl⟩, _, _⟩ := hv
  have hi : j / sz < els.length := (Nat.div_lt_iff_lt_mul hz).2 hj
  have hr : j % sz < sz := Nat.mod_lt _ hz
  have he : els[j / sz]? = some (els[j / sz]) := List.getElem?_eq_getElem hi
  have hle : (els[j / sz]).length = sz := hl _ (List.getElem_mem _)
  have h1 := hc (j / sz) _ he (j % sz)
  have h2 := flatten_get sz els hl (j / sz) _ he (j % sz) _ (List.getElem?_eq_getElem (by rw [hle]; exact hr))
  have hdm : j / sz * sz + j % sz = j := by rw [Nat.mul_comm]; exact Nat.div_add_mod _ _
  rw [hdm] at h2
  have hu' : u = (els[j / sz])[j % sz]'(by rw [hle]; exact hr) := Option.some.inj (hu.symm.trans h2)
  rw [Cells.add, show k + j = k + j / sz * sz + j % sz by omega, hu']
  exact h1 _ (List.getElem?_eq_getElem _)
/-- A row of one's own, in none of the blocks X. -/
def OwnR (w : World) (B : Nat) (e : TypeId) (sz : Nat) (v : Value) (els : List (List Value)) (X : List Nat) : Prop := w.ownsRow B e sz v els.length els.flatten ∧ Els sz els ∧ ∀ b, v.ownBlock = some b → b ∉ X
section
variable {w w' : World} {B e sz : Nat} {v : Value} {els : List (List Value)} {X : List Nat}
theorem OwnR.later (h : OwnR w B e sz v els X) (hb : Below w.heap.size w w') : OwnR w' B e sz v els X := ⟨owns_later h.1 hb, h.2⟩
theorem OwnR.touch {S : Nat → Prop} (h : OwnR w B e sz v els X) (ht : Touch S w w') (hS : ∀ b, S b → b ∈ X) : OwnR w' B e sz v els X := ⟨owns_touch h.1 ht (fun b hb hs => h.2.2 b hb (hS b hs)), h.2⟩
theorem OwnR.tt {g : Nat} (h : OwnR w B e sz v els X) (ht : Touch (fun x => x = g) w w') (hS : g ∈ X := by simp) : OwnR w' B e sz v els X := h.touch ht (own_one hS)
theorem OwnR.sl (h : OwnR w B e sz v els X) : Sl w v sz els := Sl.own rfl h.2.1.len h.1
theorem OwnR.shape (h : OwnR w B e sz v els X) : ∃ a c, v = .slice a els.length c := owns_shape h.1
theorem OwnR.lt (h : OwnR w B e sz v els X) : ∀ b, v.ownBlock = some b → b < w.heap.size := fun b hb => (World.ownsRow.lt h.1 b hb).2
theorem OwnR.low (h : OwnR w B e sz v els X) {g : Nat} (hg : g < B) : OwnR w B e sz v els (g :: X) :=
  ⟨h.1, h.2.1, fun b hb hx => by
    rcases List.mem_cons.1 hx with rfl | h1
    · have := (World.ownsRow.lt h.1 b hb).1; omega
    · exact h.2.2 b hb h1⟩
theorem OwnR.more (h : OwnR w B e sz v els X) {m g : Nat} (hm : ∀ b, v.ownBlock = some b → b < m) (hg : m ≤ g) : OwnR w B e sz v els (g :: X) :=
  ⟨h.1, h.2.1, fun b hb hx => by
    rcases List.mem_cons.1 hx with rfl | h1
    · have := hm _ hb; omega
    · exact h.2.2 b hb h1⟩
theorem OwnR.less {Y : List Nat} (h : OwnR w B e sz v els X) (hs : ∀ y ∈ Y, y ∈ X) : OwnR w B e sz v els Y := ⟨h.1, h.2.1, fun b hb hy => h.2.2 b hb (hs b hy)⟩
theorem OwnR.base {B' : Nat} (h : OwnR w B e sz v els X) (hB : B' ≤ B) : OwnR w B' e sz v els X := ⟨owns_base h.1 hB, h.2⟩
theorem OwnR.put {v' : Value} {els' : List (List Value)} (h : OwnR w B e sz v els X) (ho : OwnR w' B e sz v' els' []) (hb : v'.ownBlock = v.ownBlock ∨ v'.ownBlock = some w.heap.size) (hX : ∀ x ∈ X, x < w.heap.size) : OwnR w' B e sz v' els' X :=
  ⟨ho.1, ho.2.1, fun b hv hx => by
    rcases hb with h1 | h1
    · exact h.2.2 b (h1 ▸ hv) hx
    · rw [h1] at hv
      have := hX b hx
      have : w.heap.size = b := Option.some.inj hv
      omega⟩
theorem OwnR.nil (w : World) (B e sz : Nat) : OwnR w B e sz (.slice none 0 0) [] [] := ⟨World.ownsRow_nil _ _ _ _, Els.nil _, by simp⟩
/-- Another one's append. -/
theorem OwnR.beside {v2 : Value} (h : OwnR w B e sz v els X) (ht : Touch (fun b => v2.ownBlock = some b) w w') (hd : ∀ b, v2.ownBlock = some b → v.ownBlock ≠ some b) : OwnR w' B e sz v els X := ⟨owns_touch h.1 ht (fun b hb hs => hd b hs hb), h.2⟩
end
/-- What a row of one's own holds, whatever is turned in later blocks or in those of X. -/
theorem OwnR.st {w : World} {B e sz : Nat} {v : Value} {els : List (List Value)} {X : List Nat} (h : OwnR w B e sz v els X) : StabX (fun w => Sl w v sz els) w.heap.size X w :=
  ⟨Nat.le_refl _, fun w' ht => OwnR.sl (w := w') (B := B) (e := e) (X := X) ⟨owns_touch h.1 ht (fun b hb hs => by
    rcases hs with h1 | h1
    · have := h.lt b hb; omega
    · exact h.2.2 b hb h1), h.2⟩⟩
section
variable {P : Program} {ops : Array Oper} {rest : List Oper} {o : Oper} {a : Act} {w : World} {Q : Exit → Act → World → Prop}
set_option maxRecDepth 100000 in
/-- A literal of one element. -/
theorem wpl_row1 (hw : Region.wanted o (yielded ops a.tmps) = true) {t e sz by' : Nat} (E : ElemOf P t e sz by') (hb : sz ≤ 16777216) (x : Operand) (ho : o.op = .buildSlice t 1 #[(0, x)]) {v : Value} {el : List Value} (hx : a.eval x = v) (hc : v.cells.toList = el) (hl : el.length = sz) (h1 : ∀ u ∈ el, u.oneCell' = true)
    (hk : ∀ w2 g, w.heap.size ≤ g → OwnR w2 w.heap.size e sz (.slice (some ⟨g, 0, none⟩) 1 1) [el] [] → Below w.heap.size w w2 → wpList P ops Q rest (a.put o.dst (.slice (some ⟨g, 0, none⟩) 1 1)) w2) : wpList P ops Q (o :: rest) a w := by
  obtain ⟨ht, pos, i, z, hi, hz, hs, hby, hzs⟩ := E
  subst hc
  refine BigFrame.wpList_want hw fun _ hK => ?_
  have hvs : v.cells.size = sz := by simpa using hl
  have hr := run_dense (P := P) w t e sz [v] #[(0, v)] rfl i ht hi hs z hz (by intro u hu; simp at hu; subst hu; exact hvs) (by simp; exact pos) (by simp; exact hb)
  simp only [List.flatMap_cons, List.flatMap_nil, List.append_nil, List.length_singleton, Array.toArray_toList] at hr
  unfold Oper.wp execOp
  simp only [ho, List.map_toArray, List.map_cons, List.map_nil, hx, Sem.run_bind, hr, Result.andThen_ok]
  have hlit := World.ownsRow_lit (base := w.heap.size) (e := e) (size := sz) w v.cells 1 (Nat.le_refl _) (by unfold maxLen; omega) (by rw [hvs]; omega)
  refine hK _ _ (hk _ _ (Nat.le_refl _) ⟨by simpa using hlit, Els.one hl h1, by simp⟩ (below1 w _))
set_option maxRecDepth 100000 in
/-- A slice appended to a row of one's own. -/
theorem wpl_append_row (hw : Region.wanted o (yielded ops a.tmps) = true) (s x : Operand) {t e sz by' : Nat} (E : ElemOf P t e sz by') (ho : o.op = .call { callee := .builtin .append, args := #[s, x], argTypes := #[t, t] }) {B : Nat} {v v2 : Value} {l l2 : List (List Value)} {X : List Nat}
    (hs : a.eval s = v) (hown : OwnR w B e sz v l X) (hx : a.eval x = v2) (hxs : Sl w v2 sz l2) (h1 : Els sz l2) (n : Nat) (hn : l.length + l2.length = n) (hm : n ≤ 1000000) (hby : n * by' ≤ 140737488355328) (hB : B ≤ w.heap.size)
    (hk : ∀ a' c' w', OwnR w' B e sz (.slice a' n c') (l ++ l2) [] → Touch (fun b => v.ownBlock = some b) w w' → ((Value.slice a' n c').ownBlock = v.ownBlock ∨ (Value.slice a' n c').ownBlock = some w.heap.size) →
      wpList P ops Q rest (a.put o.dst (.slice a' n c')) w') : wpList P ops Q (o :: rest) a w := by
  subst hn
  by_cases h0 : 0 < l2.length
  · obtain ⟨av, cap, rfl, _, _, _, _, hc⟩ := id hxs
    obtain ⟨b, k, rfl, _, _⟩ := hc (by intro h2; subst h2; simp at h0)
    refine wpl_append_any hw s x E ho hs hown.1 hx (news := l2.flatten) h1.flat_length (fun j u hu => hxs.cellsOf E.pos j u hu) h1.flat (by unfold maxLen; omega) hby hB (fun a' c' w' q1 q2 q3 => hk a' c' w' ⟨?_, hown.2.1.app h1, by simp⟩ q2 q3)
    rw [List.length_append, List.flatten_append]
    exact q1
  · have h2 : l2 = [] := List.eq_nil_of_length_eq_zero (by omega)
    subst h2
    obtain ⟨ax, capx, rfl, _, _, _, _, _⟩ := hxs
    obtain ⟨av, cv, rfl⟩ := hown.shape
    obtain ⟨ht, pos, i, z, hi, hz, hsz, hby', hzs⟩ := E
    have hle : l.length ≤ cv := by
      rcases hown.1.2 with ⟨h6, h7⟩ | ⟨g, cap, cur, h6, _, _, h7, _⟩
      · omega
      · simp only [Value.slice.injEq] at h6; omega
    have hrun : (Builtin.append_ #[t, t] o.type #[.slice av l.length cv, .slice ax 0 capx]).run P w = .ok (.slice av l.length cv) w := by
      cases av <;> cases ax <;> simp [Builtin.append_, Builtin.lenOf, Builtin.firstCells, run_underlying ht, sizeOf, typeInfo, hi, hle, loadCells, loadCellsFrom, storeCells]
    refine BigFrame.wpList_want hw fun _ hK => ?_
    unfold Oper.wp
    rw [show ([] : List (List Value)).length = 0 from rfl] at hx
    simp [execOp, ho, resolve, invoke, builtin, hs, hx, hrun, Result.andThen]
    refine hK _ _ ?_
    have := hk av cv w (by rw [List.append_nil]; exact hown.less (by simp)) (Touch.refl _ _) (.inl rfl)
    exact this
end
end Go.Proofs.Ytbbfnpfkbbpjgaa
