/- Rights and heads in memory; the steps of a walk that make, load and fill them. -/
import Derived.Test.YtbbfnpfkbbpjgaaOBStep
import Derived.Laws.StructEq
import Derived.Test.YtbbfnpfkbbpjgaaOBTakeL
namespace Go.Proofs.Ytbbfnpfkbbpjgaa
open Go.RowKit Go.Lib
set_option linter.unusedVariables false
set_option linter.unusedSimpArgs false

/-- A right. -/
structure Rt where
  hot : List UInt8
  counter : Nat
  start : Nat
  sig : ByteArray
/-- A head. -/
structure Hd where
  slot : Nat
  number : Nat
  prev : List UInt8
  pool : List UInt8
  body : List UInt8
  size : Nat
  many : Nat
  right : Rt
  sig : ByteArray
structure Rt.Ok (r : Rt) : Prop where
  hot : r.hot.length = 32
  counter : r.counter < 18446744073709551616
  start : r.start < 18446744073709551616
structure Hd.Ok (h : Hd) : Prop where
  slot : h.slot < 18446744073709551616
  number : h.number < 18446744073709551616
  prev : h.prev.length = 32
  pool : h.pool.length = 32
  body : h.body.length = 32
  size : h.size < 18446744073709551616
  many : h.many < 18446744073709551616
  right : h.right.Ok
section
variable {w w' : World} {g : Nat} {r : Rt}
variable {d : Hd}
end
def rt0 : Rt := ⟨zero32, 0, 0, ByteArray.empty⟩
def hd0 : Hd := ⟨0, 0, zero32, zero32, zero32, 0, 0, rt0, ByteArray.empty⟩
section
variable {ops : Array Oper} {rest : List Oper} {o : Oper} {a : Act} {w w0 : World} {Q : Exit → Act → World → Prop} {K : Act → Prop}
end
end Go.Proofs.Ytbbfnpfkbbpjgaa

/- Rights and heads compared with themselves. -/
namespace Go.Proofs.Ytbbfnpfkbbpjgaa
open Go.RowKit Go.Lib
set_option linter.unusedVariables false
set_option linter.unusedSimpArgs false

theorem drop_left {α : Type} {xs ys : List α} {n : Nat} (h : xs.length = n) : (xs ++ ys).drop n = ys := by subst h; exact List.drop_left
theorem take_left {α : Type} {xs ys : List α} {n : Nat} (h : xs.length = n) : (xs ++ ys).take n = xs := by subst h; exact List.take_left
end Go.Proofs.Ytbbfnpfkbbpjgaa

/- Rows of elements of any size, of one's own: made by a literal, lengthened by append. -/
namespace Go.Proofs.Ytbbfnpfkbbpjgaa
open Go.RowKit Go.Lib
set_option linter.unusedVariables false
set_option linter.unusedSimpArgs false

/-- Elements of sz cells. -/
def Els (sz : Nat) (els : List (List Value)) : Prop := ∀ x ∈ els, x.length = sz ∧ ∀ u ∈ x, u.oneCell' = true
theorem Els.len {sz : Nat} {els : List (List Value)} (h : Els sz els) : ∀ x ∈ els, x.length = sz := fun x hx => (h x hx).1
theorem Els.flat {sz : Nat} {els : List (List Value)} (h : Els sz els) : ∀ u ∈ els.flatten, u.oneCell' = true := fun u hu => by
  obtain ⟨x, hx, hu'⟩ := List.mem_flatten.1 hu
  exact (h x hx).2 u hu'
theorem Els.app {sz : Nat} {a b : List (List Value)} (ha : Els sz a) (hb : Els sz b) : Els sz (a ++ b) := fun x hx => (List.mem_append.1 hx).elim (ha x) (hb x)
theorem Els.one {sz : Nat} {x : List Value} (hl : x.length = sz) (h1 : ∀ u ∈ x, u.oneCell' = true) : Els sz [x] := fun y hy => by simp at hy; subst hy; exact ⟨hl, h1⟩
theorem Els.nil (sz : Nat) : Els sz [] := fun _ h => by simp at h
theorem Els.flat_length {sz : Nat} : ∀ {els : List (List Value)}, Els sz els → els.flatten.length = els.length * sz
  | [], _ => by simp
  | x :: r, h => by rw [List.flatten_cons, List.length_append, (h x (by simp)).1, Els.flat_length (els := r) (fun y hy => h y (by simp [hy])), List.length_cons, Nat.add_mul]; omega
/-- The cells that a slice has. -/
theorem Sl.cellsOf {w : World} {b k n cap sz : Nat} {els : List (List Value)} (hz : 0 < sz) (h : Sl w (.slice (some ⟨b, k, none⟩) n cap) sz els) : ∀ j u, els.flatten[j]? = some u → w.cell? ((⟨b, k, none⟩ : Addr).add j) = some u := by
  intro j u hu
  obtain ⟨a, cap', hv, _, _, hl, _, hc⟩ := h
  have hlen : els.flatten.length = els.length * sz := by
    have : ∀ (es : List (List Value)), (∀ e ∈ es, e.length = sz) → es.flatten.length = es.length * sz := by
      intro es
      induction es with
      | nil => intro _; simp
      | cons x r ih => intro hh; rw [List.flatten_cons, List.length_append, hh x (by simp), ih (fun y hy => hh y (by simp [hy])), List.length_cons, Nat.add_mul]; omega
    exact this els hl
  have hj : j < els.length * sz := by rw [← hlen]; exact (List.getElem?_eq_some_iff.1 hu).1
  have hne : els ≠ [] := by intro h0; subst h0; simp at hj
  obtain ⟨b', k', rfl, _, hc⟩ := hc hne
  simp only [Value.slice.injEq, Option.some.injEq, Addr.mk.injEq, and_true] at hv
  obtain ⟨⟨rfl, rfl⟩, _, _⟩ := hv
  have hi : j / sz < els.length := (Nat.div_lt_iff_lt_mul hz).2 hj
  have hr : j % sz < sz := Nat.mod_lt _ hz
  have he : els[j / sz]? = some (els[j / sz]) := List.getElem?_eq_getElem hi
  have hle : (els[j / sz]).length = sz := hl _ (List.getElem_mem _)
  have h1 := hc (j / sz) _ he (j % sz)
  have h2 := flatten_get sz els hl (j / sz) _ he (j % sz) _ (List.getElem?_eq_getElem (by rw [hle]; exact hr))
  have hdm : j / sz * sz + j % sz = j := by rw [Nat.mul_comm]; exact Nat.div_add_mod _ _
  rw [hdm] at h2
  have hu' : u = (els[j / sz])[j % sz]'(by rw [hle]; exact hr) := Option.some.inj (hu.symm.trans h2)
  rw [Cells.add, show k + j = k + j / sz * sz + j % sz by omega, hu']
  exact h1 _ (List.getElem?_eq_getElem _)
/-- A row of one's own, in none of the blocks X. -/
def OwnR (w : World) (B : Nat) (e : TypeId) (sz : Nat) (v : Value) (els : List (List Value)) (X : List Nat) : Prop := w.ownsRow B e sz v els.length els.flatten ∧ Els sz els ∧ ∀ b, v.ownBlock = some b → b ∉ X
section
variable {w w' : World} {B e sz : Nat} {v : Value} {els : List (List Value)} {X : List Nat}
theorem OwnR.later (h : OwnR w B e sz v els X) (hb : Below w.heap.size w w') : OwnR w' B e sz v els X := ⟨owns_later h.1 hb, h.2⟩
theorem OwnR.touch {S : Nat → Prop} (h : OwnR w B e sz v els X) (ht : Touch S w w') (hS : ∀ b, S b → b ∈ X) : OwnR w' B e sz v els X := ⟨owns_touch h.1 ht (fun b hb hs => h.2.2 b hb (hS b hs)), h.2⟩
theorem OwnR.tt {g : Nat} (h : OwnR w B e sz v els X) (ht : Touch (fun x => x = g) w w') (hS : g ∈ X := by simp) : OwnR w' B e sz v els X := h.touch ht (own_one hS)
theorem OwnR.sl (h : OwnR w B e sz v els X) : Sl w v sz els := Sl.own rfl h.2.1.len h.1
theorem OwnR.shape (h : OwnR w B e sz v els X) : ∃ a c, v = .slice a els.length c := owns_shape h.1
theorem OwnR.lt (h : OwnR w B e sz v els X) : ∀ b, v.ownBlock = some b → b < w.heap.size := fun b hb => (World.ownsRow.lt h.1 b hb).2
theorem OwnR.low (h : OwnR w B e sz v els X) {g : Nat} (hg : g < B) : OwnR w B e sz v els (g :: X) :=
  ⟨h.1, h.2.1, fun b hb hx => by
    rcases List.mem_cons.1 hx with rfl | h1
    · have := (World.ownsRow.lt h.1 b hb).1; omega
    · exact h.2.2 b hb h1⟩
theorem OwnR.more (h : OwnR w B e sz v els X) {m g : Nat} (hm : ∀ b, v.ownBlock = some b → b < m) (hg : m ≤ g) : OwnR w B e sz v els (g :: X) :=
  ⟨h.1, h.2.1, fun b hb hx => by
    rcases List.mem_cons.1 hx with rfl | h1
    · have := hm _ hb; omega
    · exact h.2.2 b hb h1⟩
theorem OwnR.less {Y : List Nat} (h : OwnR w B e sz v els X) (hs : ∀ y ∈ Y, y ∈ X) : OwnR w B e sz v els Y := ⟨h.1, h.2.1, fun b hb hy => h.2.2 b hb (hs b hy)⟩
theorem OwnR.base {B' : Nat} (h : OwnR w B e sz v els X) (hB : B' ≤ B) : OwnR w B' e sz v els X := ⟨owns_base h.1 hB, h.2⟩
theorem OwnR.put {v' : Value} {els' : List (List Value)} (h : OwnR w B e sz v els X) (ho : OwnR w' B e sz v' els' []) (hb : v'.ownBlock = v.ownBlock ∨ v'.ownBlock = some w.heap.size) (hX : ∀ x ∈ X, x < w.heap.size) : OwnR w' B e sz v' els' X :=
  ⟨ho.1, ho.2.1, fun b hv hx => by
    rcases hb with h1 | h1
    · exact h.2.2 b (h1 ▸ hv) hx
    · rw [h1] at hv
      have := hX b hx
      have : w.heap.size = b := Option.some.inj hv
      omega⟩
theorem OwnR.nil (w : World) (B e sz : Nat) : OwnR w B e sz (.slice none 0 0) [] [] := ⟨World.ownsRow_nil _ _ _ _, Els.nil _, by simp⟩
/-- Another one's append. -/
theorem OwnR.beside {v2 : Value} (h : OwnR w B e sz v els X) (ht : Touch (fun b => v2.ownBlock = some b) w w') (hd : ∀ b, v2.ownBlock = some b → v.ownBlock ≠ some b) : OwnR w' B e sz v els X := ⟨owns_touch h.1 ht (fun b hb hs => hd b hs hb), h.2⟩
end
/-- What a row of one's own holds, whatever is turned in later blocks or in those of X. -/
theorem OwnR.st {w : World} {B e sz : Nat} {v : Value} {els : List (List Value)} {X : List Nat} (h : OwnR w B e sz v els X) : StabX (fun w => Sl w v sz els) w.heap.size X w :=
  ⟨Nat.le_refl _, fun w' ht => OwnR.sl (w := w') (B := B) (e := e) (X := X) ⟨owns_touch h.1 ht (fun b hb hs => by
    rcases hs with h1 | h1
    · have := h.lt b hb; omega
    · exact h.2.2 b hb h1), h.2⟩⟩
section
variable {P : Program} {ops : Array Oper} {rest : List Oper} {o : Oper} {a : Act} {w : World} {Q : Exit → Act → World → Prop}
set_option maxRecDepth 100000 in
/-- A literal of one element. -/
theorem wpl_row1 (hw : Region.wanted o (yielded ops a.tmps) = true) {t e sz by' : Nat} (E : ElemOf P t e sz by') (hb : sz ≤ 16777216) (x : Operand) (ho : o.op = .buildSlice t 1 #[(0, x)]) {v : Value} {el : List Value} (hx : a.eval x = v) (hc : v.cells.toList = el) (hl : el.length = sz) (h1 : ∀ u ∈ el, u.oneCell' = true)
    (hk : ∀ w2 g, w.heap.size ≤ g → OwnR w2 w.heap.size e sz (.slice (some ⟨g, 0, none⟩) 1 1) [el] [] → Below w.heap.size w w2 → wpList P ops Q rest (a.put o.dst (.slice (some ⟨g, 0, none⟩) 1 1)) w2) : wpList P ops Q (o :: rest) a w := by
  obtain ⟨ht, pos, i, z, hi, hz, hs, hby, hzs⟩ := E
  subst hc
  refine BigFrame.wpList_want hw fun _ hK => ?_
  have hvs : v.cells.size = sz := by simpa using hl
  have hr := run_dense (P := P) w t e sz [v] #[(0, v)] rfl i ht hi hs z hz (by intro u hu; simp at hu; subst hu; exact hvs) (by simp; exact pos) (by simp; exact hb)
  simp only [List.flatMap_cons, List.flatMap_nil, List.append_nil, List.length_singleton, Array.toArray_toList] at hr
  unfold Oper.wp execOp
  simp only [ho, List.map_toArray, List.map_cons, List.map_nil, hx, Sem.run_bind, hr, Result.andThen_ok]
  have hlit := World.ownsRow_lit (base := w.heap.size) (e := e) (size := sz) w v.cells 1 (Nat.le_refl _) (by unfold maxLen; omega) (by rw [hvs]; omega)
  refine hK _ _ (hk _ _ (Nat.le_refl _) ⟨by simpa using hlit, Els.one hl h1, by simp⟩ (below1 w _))
set_option maxRecDepth 100000 in
/-- A slice appended to a row of one's own. -/
theorem wpl_append_row (hw : Region.wanted o (yielded ops a.tmps) = true) (s x : Operand) {t e sz by' : Nat} (E : ElemOf P t e sz by') (ho : o.op = .call { callee := .builtin .append, args := #[s, x], argTypes := #[t, t] }) {B : Nat} {v v2 : Value} {l l2 : List (List Value)} {X : List Nat}
    (hs : a.eval s = v) (hown : OwnR w B e sz v l X) (hx : a.eval x = v2) (hxs : Sl w v2 sz l2) (h1 : Els sz l2) (n : Nat) (hn : l.length + l2.length = n) (hm : n ≤ 1000000) (hby : n * by' ≤ 140737488355328) (hB : B ≤ w.heap.size)
    (hk : ∀ a' c' w', OwnR w' B e sz (.slice a' n c') (l ++ l2) [] → Touch (fun b => v.ownBlock = some b) w w' → ((Value.slice a' n c').ownBlock = v.ownBlock ∨ (Value.slice a' n c').ownBlock = some w.heap.size) →
      wpList P ops Q rest (a.put o.dst (.slice a' n c')) w') : wpList P ops Q (o :: rest) a w := by
  subst hn
  by_cases h0 : 0 < l2.length
  · obtain ⟨av, cap, rfl, _, _, _, _, hc⟩ := id hxs
    obtain ⟨b, k, rfl, _, _⟩ := hc (by intro h2; subst h2; simp at h0)
    refine wpl_append_any hw s x E ho hs hown.1 hx (news := l2.flatten) h1.flat_length (fun j u hu => hxs.cellsOf E.pos j u hu) h1.flat (by unfold maxLen; omega) hby hB (fun a' c' w' q1 q2 q3 => hk a' c' w' ⟨?_, hown.2.1.app h1, by simp⟩ q2 q3)
    rw [List.length_append, List.flatten_append]
    exact q1
  · have h2 : l2 = [] := List.eq_nil_of_length_eq_zero (by omega)
    subst h2
    obtain ⟨ax, capx, rfl, _, _, _, _, _⟩ := hxs
    obtain ⟨av, cv, rfl⟩ := hown.shape
    obtain ⟨ht, pos, i, z, hi, hz, hsz, hby', hzs⟩ := E
    have hle : l.length ≤ cv := by
      rcases hown.1.2 with ⟨h6, h7⟩ | ⟨g, cap, cur, h6, _, _, h7, _⟩
      · omega
      · simp only [Value.slice.injEq] at h6; omega
    have hrun : (Builtin.append_ #[t, t] o.type #[.slice av l.length cv, .slice ax 0 capx]).run P w = .ok (.slice av l.length cv) w := by
      cases av <;> cases ax <;> simp [Builtin.append_, Builtin.lenOf, Builtin.firstCells, run_underlying ht, sizeOf, typeInfo, hi, hle, loadCells, loadCellsFrom, storeCells]
    refine BigFrame.wpList_want hw fun _ hK => ?_
    unfold Oper.wp
    rw [show ([] : List (List Value)).length = 0 from rfl] at hx
    simp [execOp, ho, resolve, invoke, builtin, hs, hx, hrun, Result.andThen]
    refine hK _ _ ?_
    have := hk av cv w (by rw [List.append_nil]; exact hown.less (by simp)) (Touch.refl _ _) (.inl rfl)
    exact this
end
end Go.Proofs.Ytbbfnpfkbbpjgaa

/- Structs compared, field by field. -/
namespace Go.Proofs.Ytbbfnpfkbbpjgaa
open Go.RowKit Go.Lib
set_option linter.unusedVariables false
set_option linter.unusedSimpArgs false

set_option maxRecDepth 100000 in
theorem eqItems_two (d : Nat) (a b : List UInt8) (ha : a.length = 32) (hb : b.length = 32) (w : World) : ∀ is : List Nat, (∀ i ∈ is, i < 32) →
    (Op.eqItems (d + 1) 5 1 (bvs a).toArray (bvs b).toArray is).run Try.prog w = .ok (is.all fun i => a.getD i 0 == b.getD i 0) w
  | [], _ => by simp [Op.eqItems]
  | i :: is, h => by
    have hi : i < 32 := h i (by simp)
    have ih := eqItems_two d a b ha hb w is (fun j hj => h j (by simp [hj]))
    simp only [Op.eqItems, Sem.run_bind, Nat.mul_one]
    rw [part_byte a i (by omega)]
    simp only [Result.andThen_ok]
    rw [part_byte b i (by omega)]
    simp only [Result.andThen_ok]
    rw [run_equalIn_int w d 5 .u8 .u8 _ _ Try.underlying5]
    simp only [Result.andThen_ok, List.all_cons]
    by_cases he : a.getD i 0 = b.getD i 0
    · have e1 : (((a.getD i 0).toNat : Int) == ((b.getD i 0).toNat : Int)) = true := by rw [he]; simp
      have e2 : (a.getD i 0 == b.getD i 0) = true := by rw [he]; simp
      rw [e1, e2]
      simpa using ih
    · have e1 : (((a.getD i 0).toNat : Int) == ((b.getD i 0).toNat : Int)) = false := by
        rw [beq_eq_false_iff_ne]
        intro h'
        exact he (UInt8.toNat_inj.1 (by omega))
      have e2 : (a.getD i 0 == b.getD i 0) = false := by rw [beq_eq_false_iff_ne]; exact he
      rw [e1, e2]
      simp
set_option maxRecDepth 100000 in
theorem run_two_hash (d : Nat) (a b : List UInt8) (ha : a.length = 32) (hb : b.length = 32) (w : World) : (Op.equalIn (d + 2) 27 (hv a) (hv b)).run Try.prog w = .ok (decide (a = b)) w := by
  obtain ⟨i, hi, _⟩ := Option.map_eq_some_iff.1 (show (Try.prog.info? 5).map (·.size) = some 1 by kernel_rfl)
  unfold hv
  rw [run_equalIn_array w (d + 1) (bvs a).toArray (bvs b).toArray Try.underlying27 hi, cellsByte, eqItems_two d a b ha hb w _ (fun j hj => List.mem_range.1 hj)]
  congr 1
  by_cases h : a = b
  · subst h; simp
  · rw [decide_eq_false h, Bool.eq_false_iff]
    intro hall
    apply h
    apply List.ext_getElem (by omega)
    intro j h1 h2
    have := List.all_eq_true.1 hall j (List.mem_range.2 (by omega))
    simpa [h1, h2] using this
section
variable {ops : Array Oper} {rest : List Oper} {o : Oper} {a : Act} {w : World} {Q : Exit → Act → World → Prop} {K : Act → Prop}
/-- Two structs compared, of which the fields' comparing is known. -/
theorem exec_eq (t : TypeId) (x y : Operand) (ho : o.op = .binOp .eql t x y t) {xs ys : Array Value} (hx : a.eval x = .agg xs) (hy : a.eval y = .agg ys) (hg : Try.prog.eqGuardType Try.prog.depth t = false) {r : Bool} (h : ∀ w, (Op.equalIn 10000 t (.agg xs) (.agg ys)).run Try.prog w = .ok r w) (w : World) :
    (execOp a.eval o).run Try.prog w = .ok (.value (.bool r)) w := by
  unfold execOp
  simp only [ho, hx, hy, Sem.run_bind]
  rw [run_eqGuard_agg w .eql t x y _ _ hg]
  simp only [Result.andThen_ok]
  rw [run_eql_struct, h w]
  rfl
theorem exec_ne (t : TypeId) (x y : Operand) (ho : o.op = .binOp .neq t x y t) {xs ys : Array Value} (hx : a.eval x = .agg xs) (hy : a.eval y = .agg ys) (hg : Try.prog.eqGuardType Try.prog.depth t = false) {r : Bool} (h : ∀ w, (Op.equalIn 10000 t (.agg xs) (.agg ys)).run Try.prog w = .ok r w) (w : World) :
    (execOp a.eval o).run Try.prog w = .ok (.value (.bool (!r))) w := by
  unfold execOp
  simp only [ho, hx, hy, Sem.run_bind]
  rw [run_eqGuard_agg w .neq t x y _ _ hg]
  simp only [Result.andThen_ok]
  rw [run_neq_struct, h w]
  rfl
end
end Go.Proofs.Ytbbfnpfkbbpjgaa

/- One field of a struct stored: its cells. -/
namespace Go.Proofs.Ytbbfnpfkbbpjgaa
open Go.RowKit Go.Lib
set_option linter.unusedVariables false
set_option linter.unusedSimpArgs false

theorem put_mid {A X Y B cs : List Value} {n : Nat} (hc : cs = A ++ (X ++ B)) (hA : A.length = n) (hX : X.length = Y.length) : cs.take n ++ Y ++ cs.drop (n + Y.length) = A ++ (Y ++ B) := by
  subst hc
  subst hA
  rw [List.take_left, List.append_assoc]
  congr 2
  rw [← List.drop_drop, List.drop_left, ← hX, List.drop_left]
theorem set_mid {A B cs : List Value} {u v : Value} {n : Nat} (hc : cs = A ++ u :: B) (hA : A.length = n) : cs.set n v = A ++ v :: B := by
  subst hc
  subst hA
  rw [List.set_append, if_neg (by omega), Nat.sub_self, List.set_cons_zero]
theorem u64Sz : (Try.prog.info? 23).map (·.size) = some 1 := by kernel_rfl
theorem hashSz32 : (Try.prog.info? 27).map (·.size) = some 32 := by kernel_rfl
end Go.Proofs.Ytbbfnpfkbbpjgaa

/- api.Out: its cells, in memory, made, boxed, filled, loaded, compared. -/
namespace Go.Proofs.Ytbbfnpfkbbpjgaa
open Go.RowKit Go.Lib
set_option linter.unusedVariables false
set_option linter.unusedSimpArgs false

def outCs (x : OutT) : List Value := bvs x.dst ++ (bvs x.stake ++ ([.int .u64 x.amount]))
def outV (x : OutT) : Value := .agg (outCs x).toArray
theorem outCs_length {x : OutT} (h : x.Ok) : (outCs x).length = 65 := by
  have q0 : x.dst.length = 32 := h.1
  have q1 : x.stake.length = 32 := h.2.1
  unfold outCs; simp [bvs_length, q0, q1]
theorem outCs_one (x : OutT) : ∀ v ∈ outCs x, v.oneCell' = true := by
  intro v hv
  unfold outCs at hv
  simp only [List.mem_cons, List.mem_append, List.not_mem_nil, or_false] at hv
  rcases hv with hv | hv | rfl
  · exact List.all_eq_true.1 (bvs_one x.dst) v hv
  · exact List.all_eq_true.1 (bvs_one x.stake) v hv
  · rfl
structure OutAt (w : World) (g : Nat) (x : OutT) : Prop where
  ok : x.Ok
  arr : Arr w g 48 (outCs x)
section
variable {w w' : World} {g bb kk : Nat} {x : OutT}
theorem OutAt.lt (h : OutAt w g x) : g < w.heap.size := Arr.lt h.arr
theorem OutAt.later (h : OutAt w g x) (hb : Below w.heap.size w w') : OutAt w' g x := ⟨h.ok, h.arr.later hb⟩
theorem OutAt.below {B : Nat} (h : OutAt w g x) (hb : Below B w w') (hB : g < B) : OutAt w' g x := ⟨h.ok, Arr.below h.arr hb hB⟩
theorem OutAt.touch {S : Nat → Prop} (h : OutAt w g x) (ht : Touch S w w') (hS : ¬ S g) : OutAt w' g x := ⟨h.ok, h.arr.touch ht hS⟩
theorem OutAt.tt {g' : Nat} (h : OutAt w g x) (ht : Touch (fun y => y = g') w w') (hS : ¬ g = g' := by omega) : OutAt w' g x := h.touch ht hS
theorem OutAt.cells (h : OutAt w g x) : Cells w g 0 (outCs x) := Cells.arr h.arr
theorem outR0 (h : Cells w bb kk (outCs x)) : Cells w bb kk (bvs x.dst ++ (bvs x.stake ++ ([.int .u64 x.amount]))) := h
theorem OutAt.dst (h : OutAt w g x) : Cells w g 0 (bvs x.dst) := Cells.left (outR0 h.cells)
theorem outR1 (h : Cells w bb kk (outCs x)) (ok : x.Ok) : Cells w bb (kk + 32) (bvs x.stake ++ ([.int .u64 x.amount])) := Cells.right (n := 32) (outR0 h) (by rw [bvs_length, show x.dst.length = 32 from ok.1])
theorem OutAt.stake (h : OutAt w g x) : Cells w g 32 (bvs x.stake) := by
  have := outR1 h.cells h.ok
  rw [Nat.zero_add] at this
  exact Cells.left this
theorem outR2 (h : Cells w bb kk (outCs x)) (ok : x.Ok) : Cells w bb (kk + 64) ([.int .u64 x.amount]) := by
  have := Cells.right (n := 32) (outR1 h ok) (by rw [bvs_length, ok.2.1])
  rwa [Nat.add_assoc] at this
theorem OutAt.amount (h : OutAt w g x) : w.cell? ⟨g, 64, none⟩ = some (.int .u64 x.amount) := by
  have := (outR2 h.cells h.ok).one
  rwa [Nat.zero_add] at this
end
theorem outSize : (Try.prog.info? 48).map (·.size) = some 65 := by kernel_rfl
theorem outSz {x : OutT} (h : x.Ok) : (Try.prog.info? 48).map (·.size) = some (outCs x).length := by rw [outCs_length h]; exact outSize
def out0 : OutT := ⟨zero32, zero32, 0⟩
theorem out0_ok : out0.Ok := ⟨rfl, rfl, by decide⟩
theorem outZero : (Try.prog.info? 48).bind (·.zero) = some (outV out0) := by kernel_rfl
section
variable {ops : Array Oper} {rest : List Oper} {o : Oper} {a : Act} {w w0 : World} {Q : Exit → Act → World → Prop} {K : Act → Prop}
theorem wpl_box_out (hw : Region.wanted o (yielded ops a.tmps) = true) (x : Operand) (ho : o.op = .box 48 x) {d : OutT} (hx : a.eval x = outV d) (hr : d.Ok)
    (hk : ∀ w2 g, w.heap.size ≤ g → OutAt w2 g d → Below w.heap.size w w2 → wpList Try.prog ops Q rest (a.put o.dst (.pointer (some ⟨g, 0, none⟩))) w2) : wpList Try.prog ops Q (o :: rest) a w :=
  wpl_box hw 48 x ho hx (cs := outCs d) (by simp [outV, Value.cells]) (fun w2 g hg h hb => hk w2 g hg ⟨hr, h⟩ hb)
theorem wpl_mk_out (hw : Region.wanted o (yielded ops a.tmps) = true) (ho : o.op = .alloc 48)
    (hk : ∀ w2 g, w.heap.size ≤ g → OutAt w2 g out0 → Below w.heap.size w w2 → wpList Try.prog ops Q rest (a.put o.dst (.pointer (some ⟨g, 0, none⟩))) w2) : wpList Try.prog ops Q (o :: rest) a w :=
  wpl_mk hw 48 ho outZero (cs := outCs out0) (by simp [outV, Value.cells]) (fun w2 g hg h hb => hk w2 g hg ⟨out0_ok, h⟩ hb)
theorem wpl_set_out (hgd : o.guard = none) (x y : Operand) (ho : o.op = .store 48 x y) {g : Nat} {d0 d : OutT} (hx : a.eval x = .pointer (some ⟨g, 0, none⟩)) (hy : a.eval y = outV d) (hr : d.Ok) (h : OutAt w g d0)
    (hk : ∀ w2, OutAt w2 g d → Touch (fun b => b = g) w w2 → wpList Try.prog ops Q rest (a.put o.dst undef) w2) : wpList Try.prog ops Q (o :: rest) a w :=
  wpl_fill hgd 48 x y ho hx hy h.arr (outSz hr) (by rw [outCs_length hr, outCs_length h.ok]) (outCs_one d) (fun w2 ha ht => hk w2 ⟨hr, ha⟩ ht)
theorem wpl_ld_out (hw : Region.wanted o (yielded ops a.tmps) = true) (x : Operand) (ho : o.op = .load 48 x) {b k : Nat} {d : OutT} (hx : a.eval x = .pointer (some ⟨b, k, none⟩)) (h : Cells w b k (outCs d)) (hr : d.Ok)
    (hk : wpList Try.prog ops Q rest (a.put o.dst (outV d)) w) : wpList Try.prog ops Q (o :: rest) a w :=
  wpl_load_cells hw 48 x ho hx h _ Try.underlying48 rfl (outSz hr) hk
end
theorem ret_out {fn : Func} {q : Tmp} (hr : fn.results = #[.cell q 48]) (tmps : Array Value) (w : World) {g : Nat} {d : OutT} (hp : tmps.getD q undef = .pointer (some ⟨g, 0, none⟩)) (h : OutAt w g d) :
    (results fn tmps).run Try.prog w = .ok (outV d) w :=
  results_cell_row hr tmps w g 48 (outCs d).toArray (0, 0) _ hp h.arr Try.underlying48 rfl (by rw [List.size_toArray]; exact outSz h.ok)
end Go.Proofs.Ytbbfnpfkbbpjgaa
