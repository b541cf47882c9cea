/- Rows of elements of any size, of one's own: made by a literal, lengthened by append. -/
import Derived.Test.YtbbfnpfkbbpjgaaGreatQHStep
import Derived.Test.YtbbfnpfkbbpjgaaGreatQHTakeL
namespace Go.Proofs.YtbbfnpfkbbpjgaaGreat
open Go.RowKit Go.Lib
set_option linter.unusedVariables false
set_option linter.unusedSimpArgs false
set_option maxRecDepth 100000
set_option maxHeartbeats 4000000
/-- Elements of sz cells. -/
def Els (sz : Nat) (els : List (List Value)) : Prop := ∀ x ∈ els, x.length = sz ∧ ∀ u ∈ x, u.oneCell' = true
theorem Els.len {sz : Nat} {els : List (List Value)} (h : Els sz els) : ∀ x ∈ els, x.length = sz := fun x hx => (h x hx).1
theorem Els.flat {sz : Nat} {els : List (List Value)} (h : Els sz els) : ∀ u ∈ els.flatten, u.oneCell' = true := fun u hu => by
 obtain ⟨x, hx, hu'⟩ := List.mem_flatten.1 hu
 exact (h x hx).2 u hu'
theorem Els.app {sz : Nat} {a b : List (List Value)} (ha : Els sz a) (hb : Els sz b) : Els sz (a ++ b) := fun x hx => (List.mem_append.1 hx).elim (ha x) (hb x)
theorem Els.one {sz : Nat} {x : List Value} (hl : x.length = sz) (h1 : ∀ u ∈ x, u.oneCell' = true) : Els sz [x] := fun y hy => by simp at hy; subst hy; exact ⟨hl, h1⟩
theorem Els.nil (sz : Nat) : Els sz [] := fun _ h => by simp at h
theorem Els.flat_length {sz : Nat} : ∀ {els : List (List Value)}, Els sz els → els.flatten.length = els.length * sz
 | [], _ => by simp
 | x :: r, h => by rw [List.flatten_cons, List.length_append, (h x (by simp)).1, Els.flat_length (els := r) (fun y hy => h y (by simp [hy])), List.length_cons, Nat.add_mul]; omega
/-- The cells that a slice has. -/
theorem Sl.cellsOf {w : World} {b k n cap sz : Nat} {els : List (List Value)} (hz : 0 < sz) (h : Sl w (.slice (some ⟨b, k, none⟩) n cap) sz els) : ∀ j u, els.flatten[j]? = some u → w.cell? ((⟨b, k, none⟩ : Addr).add j) = some u := by
 intro j u hu
 obtain ⟨a, cap', hv, _, _, hl, _, hc⟩ := h
 have hlen : els.flatten.length = els.length * sz := by
  have : ∀ (es : List (List Value)), (∀ e ∈ es, e.length = sz) → es.flatten.length = es.length * sz := by
   intro es
   induction es with
   | nil => intro _; simp
   | cons x r ih => intro hh; rw [List.flatten_cons, List.length_append, hh x (by simp), ih (fun y hy => hh y (by simp [hy])), List.length_cons, Nat.add_mul]; omega
  exact this els hl
 have hj : j < els.length * sz := by rw [← hlen]; exact (List.getElem?_eq_some_iff.1 hu).1
 have hne : els ≠ [] := by intro h0; subst h0; simp at hj
 obtain ⟨b', k', rfl, _, hc⟩ := hc hne
 simp only [Value.slice.injEq, Option.some.injEq, Addr.mk.injEq, and_true] at hv
 obtain ⟨⟨rfl, rfl⟩, _, _⟩ := hv
 have hi : j / sz < els.length := (Nat.div_lt_iff_lt_mul hz).2 hj
 have hr : j % sz < sz := Nat.mod_lt _ hz
 have he : els[j / sz]? = some (els[j / sz]) := List.getElem?_eq_getElem hi
 have hle : (els[j / sz]).length = sz := hl _ (List.getElem_mem _)
 have h1 := hc (j / sz) _ he (j % sz)
 have h2 := q6f sz els hl (j / sz) _ he (j % sz) _ (List.getElem?_eq_getElem (by rw [hle]; exact hr))
 have hdm : j / sz * sz + j % sz = j := by rw [Nat.mul_comm]; exact Nat.div_add_mod _ _
 rw [hdm] at h2
 have hu' : u = (els[j / sz])[j % sz]'(by rw [hle]; exact hr) := Option.some.inj (hu.symm.trans h2)
 rw [Cells.add, show k + j = k + j / sz * sz + j % sz by omega, hu']
 exact h1 _ (List.getElem?_eq_getElem _)
/-- A row of one's own, in none of the blocks X. -/
def OwnR (w : World) (B : Nat) (e : TypeId) (sz : Nat) (v : Value) (els : List (List Value)) (X : List Nat) : Prop := w.ownsRow B e sz v els.length els.flatten ∧ Els sz els ∧ ∀ b, v.ownBlock = some b → b ∉ X
section
variable {w w' : World} {B e sz : Nat} {v : Value} {els : List (List Value)} {X : List Nat}
theorem OwnR.later (h : OwnR w B e sz v els X) (hb : Below w.heap.size w w') : OwnR w' B e sz v els X := ⟨q5y h.1 hb, h.2⟩
theorem OwnR.touch {S : Nat → Prop} (h : OwnR w B e sz v els X) (ht : Touch S w w') (hS : ∀ b, S b → b ∈ X) : OwnR w' B e sz v els X := ⟨q2m h.1 ht (fun b hb hs => h.2.2 b hb (hS b hs)), h.2⟩
theorem OwnR.tt {g : Nat} (h : OwnR w B e sz v els X) (ht : Touch (fun x => x = g) w w') (hS : g ∈ X := by simp) : OwnR w' B e sz v els X := h.touch ht (z2k hS)
theorem OwnR.sl (h : OwnR w B e sz v els X) : Sl w v sz els := Sl.own rfl h.2.1.len h.1
theorem OwnR.shape (h : OwnR w B e sz v els X) : ∃ a c, v = .slice a els.length c := q7h h.1
theorem OwnR.lt (h : OwnR w B e sz v els X) : ∀ b, v.ownBlock = some b → b < w.heap.size := fun b hb => (World.ownsRow.lt h.1 b hb).2
theorem OwnR.low (h : OwnR w B e sz v els X) {g : Nat} (hg : g < B) : OwnR w B e sz v els (g :: X) :=
 ⟨h.1, h.2.1, fun b hb hx => by
  rcases List.mem_cons.1 hx with rfl | h1
  ·have := (World.ownsRow.lt h.1 b hb).1; omega
  ·exact h.2.2 b hb h1⟩
theorem OwnR.more (h : OwnR w B e sz v els X) {m g : Nat} (hm : ∀ b, v.ownBlock = some b → b < m) (hg : m ≤ g) : OwnR w B e sz v els (g :: X) :=
 ⟨h.1, h.2.1, fun b hb hx => by
  rcases List.mem_cons.1 hx with rfl | h1
  ·have := hm _ hb; omega
  ·exact h.2.2 b hb h1⟩
theorem OwnR.less {Y : List Nat} (h : OwnR w B e sz v els X) (hs : ∀ y ∈ Y, y ∈ X) : OwnR w B e sz v els Y := ⟨h.1, h.2.1, fun b hb hy => h.2.2 b hb (hs b hy)⟩
theorem OwnR.base {B' : Nat} (h : OwnR w B e sz v els X) (hB : B' ≤ B) : OwnR w B' e sz v els X := ⟨j4f h.1 hB, h.2⟩
theorem OwnR.put {v' : Value} {els' : List (List Value)} (h : OwnR w B e sz v els X) (ho : OwnR w' B e sz v' els' []) (hb : v'.ownBlock = v.ownBlock ∨ v'.ownBlock = some w.heap.size) (hX : ∀ x ∈ X, x < w.heap.size) : OwnR w' B e sz v' els' X :=
 ⟨ho.1, ho.2.1, fun b hv hx => by
  rcases hb with h1 | h1
  ·exact h.2.2 b (h1 ▸ hv) hx
  ·rw [h1] at hv
   have := hX b hx
   have : w.heap.size = b := Option.some.inj hv
   omega⟩
theorem OwnR.nil (w : World) (B e sz : Nat) : OwnR w B e sz (.slice none 0 0) [] [] := ⟨World.ownsRow_nil _ _ _ _, Els.nil _, by simp⟩
/-- Another one's append. -/
theorem OwnR.beside {v2 : Value} (h : OwnR w B e sz v els X) (ht : Touch (fun b => v2.ownBlock = some b) w w') (hd : ∀ b, v2.ownBlock = some b → v.ownBlock ≠ some b) : OwnR w' B e sz v els X := ⟨q2m h.1 ht (fun b hb hs => hd b hs hb), h.2⟩
end
/-- What a row of one's own holds, whatever is turned in later blocks or in those of X. -/
theorem OwnR.st {w : World} {B e sz : Nat} {v : Value} {els : List (List Value)} {X : List Nat} (h : OwnR w B e sz v els X) : StabX (fun w => Sl w v sz els) w.heap.size X w :=
 ⟨Nat.le_refl _, fun w' ht => OwnR.sl (w := w') (B := B) (e := e) (X := X) ⟨q2m h.1 ht (fun b hb hs => by
  rcases hs with h1 | h1
  ·have := h.lt b hb; omega
  ·exact h.2.2 b hb h1), h.2⟩⟩
section
variable {P : Program} {ops : Array Oper} {rest : List Oper} {o : Oper} {a : Act} {w : World} {Q : Exit → Act → World → Prop}
/-- A literal of one element. -/
theorem q2q (hw : Region.wanted o (yielded ops a.tmps) = true) {t e sz by' : Nat} (E : ElemOf P t e sz by') (hb : sz ≤ 16777216) (x : Operand) (ho : o.op = .buildSlice t 1 #[(0, x)]) {v : Value} {el : List Value} (hx : a.eval x = v) (hc : v.cells.toList = el) (hl : el.length = sz) (h1 : ∀ u ∈ el, u.oneCell' = true)
  (hk : ∀ w2 g, w.heap.size ≤ g → OwnR w2 w.heap.size e sz (.slice (some ⟨g, 0, none⟩) 1 1) [el] [] → Below w.heap.size w w2 → wpList P ops Q rest (a.put o.dst (.slice (some ⟨g, 0, none⟩) 1 1)) w2) : wpList P ops Q (o :: rest) a w := by
 obtain ⟨ht, pos, i, z, hi, hz, hs, hby, hzs⟩ := E
 subst hc
 refine BigFrame.wpList_want hw fun _ hK => ?_
 have hvs : v.cells.size = sz := by simpa using hl
 have hr := q9w (P := P) w t e sz [v] #[(0, v)] rfl i ht hi hs z hz (by intro u hu; simp at hu; subst hu; exact hvs) (by simp; exact pos) (by simp; exact hb)
 simp only [List.flatMap_cons, List.flatMap_nil, List.append_nil, List.length_singleton, Array.toArray_toList] at hr
 unfold Oper.wp execOp
 simp only [ho, List.map_toArray, List.map_cons, List.map_nil, hx, Sem.run_bind, hr, Result.andThen_ok]
 have hlit := World.ownsRow_lit (base := w.heap.size) (e := e) (size := sz) w v.cells 1 (Nat.le_refl _) (by unfold maxLen; omega) (by rw [hvs]; omega)
 refine hK _ _ (hk _ _ (Nat.le_refl _) ⟨by simpa using hlit, Els.one hl h1, by simp⟩ (below1 w _))
/-- A slice appended to a row of one's own. -/
theorem q0s (hw : Region.wanted o (yielded ops a.tmps) = true) (s x : Operand) {t e sz by' : Nat} (E : ElemOf P t e sz by') (ho : o.op = .call { callee := .builtin .append, args := #[s, x], argTypes := #[t, t] }) {B : Nat} {v v2 : Value} {l l2 : List (List Value)} {X : List Nat}
    (hs : a.eval s = v) (hown : OwnR w B e sz v l X) (hx : a.eval x = v2) (hxs : Sl w v2 sz l2) (h1 : Els sz l2) (n : Nat) (hn : l.length + l2.length = n) (hm : n ≤ 1000000) (hby : n * by' ≤ 140737488355328) (hB : B ≤ w.heap.size)
    (hk : ∀ a' c' w', OwnR w' B e sz (.slice a' n c') (l ++ l2) [] → Touch (fun b => v.ownBlock = some b) w w' → ((Value.slice a' n c').ownBlock = v.ownBlock ∨ (Value.slice a' n c').ownBlock = some w.heap.size) →
      wpList P ops Q rest (a.put o.dst (.slice a' n c')) w') : wpList P ops Q (o :: rest) a w := by
  subst hn
  by_cases h0 : 0 < l2.length
  · obtain ⟨av, cap, rfl, _, _, _, _, hc⟩ := id hxs
    obtain ⟨b, k, rfl, _, _⟩ := hc (by intro h2; subst h2; simp at h0)
    refine q4t hw s x E ho hs hown.1 hx (news := l2.flatten) h1.flat_length (fun j u hu => hxs.cellsOf E.pos j u hu) h1.flat (by unfold maxLen; omega) hby hB (fun a' c' w' q1 q2 q3 => hk a' c' w' ⟨?_, hown.2.1.app h1, by simp⟩ q2 q3)
    rw [List.length_append, List.flatten_append]
    exact q1
  · have h2 : l2 = [] := List.eq_nil_of_length_eq_zero (by omega)
    subst h2
    obtain ⟨ax, capx, rfl, _, _, _, _, _⟩ := hxs
    obtain ⟨av, cv, rfl⟩ := hown.shape
    obtain ⟨ht, pos, i, z, hi, hz, hsz, hby', hzs⟩ := E
    have hle : l.length ≤ cv := by
      rcases hown.1.2 with ⟨h6, h7⟩ | ⟨g, cap, cur, h6, _, _, h7, _⟩
      · omega
      · simp only [Value.slice.injEq] at h6; omega
    have hrun : (Builtin.append_ #[t, t] o.type #[.slice av l.length cv, .slice ax 0 capx]).run P w = .ok (.slice av l.length cv) w := by
      cases av <;> cases ax <;> simp [Builtin.append_, Builtin.lenOf, Builtin.firstCells, run_underlying ht, sizeOf, typeInfo, hi, hle, loadCells, loadCellsFrom, storeCells]
    refine BigFrame.wpList_want hw fun _ hK => ?_
    unfold Oper.wp
    rw [show ([] : List (List Value)).length = 0 from rfl] at hx
    simp [execOp, ho, resolve, invoke, builtin, hs, hx, hrun, Result.andThen]
    refine hK _ _ ?_
    have := hk av cv w (by rw [List.append_nil]; exact hown.less (by simp)) (Touch.refl _ _) (.inl rfl)
    exact this
end
theorem j2m (d : Nat) (a b : List UInt8) (ha : a.length = 32) (hb : b.length = 32) (w : World) : ∀ is : List Nat, (∀ i ∈ is, i < 32) →
    (Op.eqItems (d + 1) 5 1 (bvs a).toArray (bvs b).toArray is).run Tryz.prog w = .ok (is.all fun i => a.getD i 0 == b.getD i 0) w
  | [], _ => by simp [Op.eqItems]
  | i :: is, h => by
    have hi : i < 32 := h i (by simp)
    have ih := j2m d a b ha hb w is (fun j hj => h j (by simp [hj]))
    simp only [Op.eqItems, Sem.run_bind, Nat.mul_one]
    rw [j0g a i (by omega)]
    simp only [Result.andThen_ok]
    rw [j0g b i (by omega)]
    simp only [Result.andThen_ok]
    rw [run_equalIn_int w d 5 .u8 .u8 _ _ Tryz.underlying5]
    simp only [Result.andThen_ok, List.all_cons]
    by_cases he : a.getD i 0 = b.getD i 0
    · have e1 : (((a.getD i 0).toNat : Int) == ((b.getD i 0).toNat : Int)) = true := by rw [he]; simp
      have e2 : (a.getD i 0 == b.getD i 0) = true := by rw [he]; simp
      rw [e1, e2]
      simpa using ih
    · have e1 : (((a.getD i 0).toNat : Int) == ((b.getD i 0).toNat : Int)) = false := by
        rw [beq_eq_false_iff_ne]
        intro h'
        exact he (UInt8.toNat_inj.1 (by omega))
      have e2 : (a.getD i 0 == b.getD i 0) = false := by rw [beq_eq_false_iff_ne]; exact he
      rw [e1, e2]
      simp
theorem q2g (d : Nat) (a b : List UInt8) (ha : a.length = 32) (hb : b.length = 32) (w : World) : (Op.equalIn (d + 2) 34 (hv a) (hv b)).run Tryz.prog w = .ok (decide (a = b)) w := by
 obtain ⟨i, hi, _⟩ := Option.map_eq_some_iff.1 (show (Tryz.prog.info? 5).map (·.size) = some 1 by kernel_rfl)
 unfold hv
 rw [run_equalIn_array w (d + 1) (bvs a).toArray (bvs b).toArray Tryz.underlying34 hi, cellsByte, j2m d a b ha hb w _ (fun j hj => List.mem_range.1 hj)]
 congr 1
 by_cases h : a = b
 ·subst h; simp
 ·rw [decide_eq_false h, Bool.eq_false_iff]
  intro hall
  apply h
  apply List.ext_getElem (by omega)
  intro j h1 h2
  have := List.all_eq_true.1 hall j (List.mem_range.2 (by omega))
  simpa [h1, h2] using this
theorem q1n {P : Program} {d : Nat} {xs ys : Array Value} {f : Field} {fs : List Field} {w : World} {v u : Value} {r q : Bool} (hn : f.name ≠ "_") (hp : (Go.part f.type xs f.offset).run P w = .ok v w) (hu : (Go.part f.type ys f.offset).run P w = .ok u w)
  (he : (Op.equalIn d f.type v u).run P w = .ok r w) (hr : (Op.eqFields d xs ys fs).run P w = .ok q w) : (Op.eqFields d xs ys (f :: fs)).run P w = .ok (r && q) w := by
 unfold Op.eqFields
 simp only [hn, ne_eq, not_false_eq_true, if_true, Sem.run_bind, hp, hu, he, Result.andThen_ok]
 cases r
 ·simp
 ·simpa using hr
theorem q5j {P : Program} {d : Nat} {xs ys : Array Value} {f : Field} {w : World} {v u : Value} {r : Bool} (hn : f.name ≠ "_") (hp : (Go.part f.type xs f.offset).run P w = .ok v w) (hu : (Go.part f.type ys f.offset).run P w = .ok u w)
  (he : (Op.equalIn d f.type v u).run P w = .ok r w) : (Op.eqFields d xs ys [f]).run P w = .ok r w := by
 have := q1n (fs := []) (q := true) hn hp hu he (by simp [Op.eqFields])
 rwa [Bool.and_true] at this
theorem q3n (n m : Nat) : ((n : Int) == (m : Int)) = decide (n = m) := by
 by_cases h : n = m
 ·subst h; simp
 ·rw [decide_eq_false h, beq_eq_false_iff_ne]; omega
theorem x0s (a b : ByteArray) : (a.toList == b.toList) = decide (a = b) := by
 rw [ByteArray.toList_eq, ByteArray.toList_eq]
 by_cases h : a = b
 ·subst h; simp
 ·rw [decide_eq_false h, beq_eq_false_iff_ne]
  intro h2
  apply h
  apply ByteArray.ext
  exact Array.toList_inj.1 h2
theorem x0w : Tryz.prog.plainKey 5 = true := by kernel_rfl
section
variable {ops : Array Oper} {rest : List Oper} {o : Oper} {a : Act} {w : World} {Q : Exit → Act → World → Prop} {K : Act → Prop}
/-- Two structs compared, of which the fields' comparing is known. -/
theorem x0h (t : TypeId) (x y : Operand) (ho : o.op = .binOp .eql t x y t) {xs ys : Array Value} (hx : a.eval x = .agg xs) (hy : a.eval y = .agg ys) (hg : Tryz.prog.eqGuardType Tryz.prog.depth t = false) {r : Bool} (h : ∀ w, (Op.equalIn 10000 t (.agg xs) (.agg ys)).run Tryz.prog w = .ok r w) (w : World) :
  (execOp a.eval o).run Tryz.prog w = .ok (.value (.bool r)) w := by
 unfold execOp
 simp only [ho, hx, hy, Sem.run_bind]
 rw [run_eqGuard_agg w .eql t x y _ _ hg]
 simp only [Result.andThen_ok]
 rw [run_eql_struct, h w]
 rfl
theorem j0q (t : TypeId) (x y : Operand) (ho : o.op = .binOp .neq t x y t) {xs ys : Array Value} (hx : a.eval x = .agg xs) (hy : a.eval y = .agg ys) (hg : Tryz.prog.eqGuardType Tryz.prog.depth t = false) {r : Bool} (h : ∀ w, (Op.equalIn 10000 t (.agg xs) (.agg ys)).run Tryz.prog w = .ok r w) (w : World) :
  (execOp a.eval o).run Tryz.prog w = .ok (.value (.bool (!r))) w := by
 unfold execOp
 simp only [ho, hx, hy, Sem.run_bind]
 rw [run_eqGuard_agg w .neq t x y _ _ hg]
 simp only [Result.andThen_ok]
 rw [run_neq_struct, h w]
 rfl
end
theorem q9j {A X Y B cs : List Value} {n : Nat} (hc : cs = A ++ (X ++ B)) (hA : A.length = n) (hX : X.length = Y.length) : cs.take n ++ Y ++ cs.drop (n + Y.length) = A ++ (Y ++ B) := by
 subst hc
 subst hA
 rw [List.take_left, List.append_assoc]
 congr 2
 rw [← List.drop_drop, List.drop_left, ← hX, List.drop_left]
theorem q7t {A B cs : List Value} {u v : Value} {n : Nat} (hc : cs = A ++ u :: B) (hA : A.length = n) : cs.set n v = A ++ v :: B := by
 subst hc
 subst hA
 rw [List.set_append, if_neg (by omega), Nat.sub_self, List.set_cons_zero]
theorem u64Sz : (Tryz.prog.info? 24).map (·.size) = some 1 := by kernel_rfl
theorem u8Sz : (Tryz.prog.info? 5).map (·.size) = some 1 := by kernel_rfl
theorem strSz : (Tryz.prog.info? 9).map (·.size) = some 1 := by kernel_rfl
theorem hashSz32 : (Tryz.prog.info? 34).map (·.size) = some 32 := by kernel_rfl
def inCs (x : InT) : List Value := bvs x.tx ++ ([.int .u64 x.index])
def inV (x : InT) : Value := .agg (inCs x).toArray
theorem q4o {x : InT} (h : x.Ok) : (inCs x).length = 33 := by
 have q0 : x.tx.length = 32 := h.1
 unfold inCs; simp [q0c, q0]
theorem j2f (x : InT) : ∀ v ∈ inCs x, v.oneCell' = true := by
 intro v hv
 unfold inCs at hv
 simp only [List.mem_cons, List.mem_append, List.not_mem_nil, or_false] at hv
 rcases hv with hv | rfl
 ·exact List.all_eq_true.1 (q1f x.tx) v hv
 ·rfl
structure InAt (w : World) (g : Nat) (x : InT) : Prop where
 ok : x.Ok
 arr : Arr w g 80 (inCs x)
section
variable {w w' : World} {g bb kk : Nat} {x : InT}
theorem InAt.lt (h : InAt w g x) : g < w.heap.size := Arr.lt h.arr
theorem InAt.later (h : InAt w g x) (hb : Below w.heap.size w w') : InAt w' g x := ⟨h.ok, h.arr.later hb⟩
theorem InAt.below {B : Nat} (h : InAt w g x) (hb : Below B w w') (hB : g < B) : InAt w' g x := ⟨h.ok, Arr.below h.arr hb hB⟩
theorem InAt.touch {S : Nat → Prop} (h : InAt w g x) (ht : Touch S w w') (hS : ¬ S g) : InAt w' g x := ⟨h.ok, h.arr.touch ht hS⟩
theorem InAt.tt {g' : Nat} (h : InAt w g x) (ht : Touch (fun y => y = g') w w') (hS : ¬ g = g' := by omega) : InAt w' g x := h.touch ht hS
theorem InAt.cells (h : InAt w g x) : Cells w g 0 (inCs x) := Cells.arr h.arr
theorem inR0 (h : Cells w bb kk (inCs x)) : Cells w bb kk (bvs x.tx ++ ([.int .u64 x.index])) := h
theorem InAt.tx (h : InAt w g x) : Cells w g 0 (bvs x.tx) := Cells.left (inR0 h.cells)
theorem inR1 (h : Cells w bb kk (inCs x)) (ok : x.Ok) : Cells w bb (kk + 32) ([.int .u64 x.index]) := Cells.right (n := 32) (inR0 h) (by rw [q0c, show x.tx.length = 32 from ok.1])
theorem InAt.index (h : InAt w g x) : w.cell? ⟨g, 32, none⟩ = some (.int .u64 x.index) := by
 have := (inR1 h.cells h.ok).one
 rwa [Nat.zero_add] at this
end
theorem inSize : (Tryz.prog.info? 80).map (·.size) = some 33 := by kernel_rfl
theorem inSz {x : InT} (h : x.Ok) : (Tryz.prog.info? 80).map (·.size) = some (inCs x).length := by rw [q4o h]; exact inSize
def in0 : InT := ⟨zero32, 0⟩
theorem x1e : in0.Ok := ⟨rfl, by decide⟩
theorem inZero : (Tryz.prog.info? 80).bind (·.zero) = some (inV in0) := by kernel_rfl
section
variable {ops : Array Oper} {rest : List Oper} {o : Oper} {a : Act} {w w0 : World} {Q : Exit → Act → World → Prop} {K : Act → Prop}
theorem q8i (hw : Region.wanted o (yielded ops a.tmps) = true) (x : Operand) (ho : o.op = .box 80 x) {d : InT} (hx : a.eval x = inV d) (hr : d.Ok)
  (hk : ∀ w2 g, w.heap.size ≤ g → InAt w2 g d → Below w.heap.size w w2 → wpList Tryz.prog ops Q rest (a.put o.dst (.pointer (some ⟨g, 0, none⟩))) w2) : wpList Tryz.prog ops Q (o :: rest) a w :=
 q4j hw 80 x ho hx (cs := inCs d) (by simp [inV, Value.cells]) (fun w2 g hg h hb => hk w2 g hg ⟨hr, h⟩ hb)
theorem j3u (hw : Region.wanted o (yielded ops a.tmps) = true) (ho : o.op = .alloc 80)
  (hk : ∀ w2 g, w.heap.size ≤ g → InAt w2 g in0 → Below w.heap.size w w2 → wpList Tryz.prog ops Q rest (a.put o.dst (.pointer (some ⟨g, 0, none⟩))) w2) : wpList Tryz.prog ops Q (o :: rest) a w :=
 q5e hw 80 ho inZero (cs := inCs in0) (by simp [inV, Value.cells]) (fun w2 g hg h hb => hk w2 g hg ⟨x1e, h⟩ hb)
theorem j1h (hgd : o.guard = none) (x y : Operand) (ho : o.op = .store 80 x y) {g : Nat} {d0 d : InT} (hx : a.eval x = .pointer (some ⟨g, 0, none⟩)) (hy : a.eval y = inV d) (hr : d.Ok) (h : InAt w g d0)
  (hk : ∀ w2, InAt w2 g d → Touch (fun b => b = g) w w2 → wpList Tryz.prog ops Q rest (a.put o.dst undef) w2) : wpList Tryz.prog ops Q (o :: rest) a w :=
 q5t hgd 80 x y ho hx hy h.arr (inSz hr) (by rw [q4o hr, q4o h.ok]) (j2f d) (fun w2 ha ht => hk w2 ⟨hr, ha⟩ ht)
theorem q8h (hw : Region.wanted o (yielded ops a.tmps) = true) (x : Operand) (ho : o.op = .load 80 x) {b k : Nat} {d : InT} (hx : a.eval x = .pointer (some ⟨b, k, none⟩)) (h : Cells w b k (inCs d)) (hr : d.Ok)
  (hk : wpList Tryz.prog ops Q rest (a.put o.dst (inV d)) w) : wpList Tryz.prog ops Q (o :: rest) a w :=
 q1t hw 80 x ho hx h _ Tryz.underlying80 rfl (inSz hr) hk
theorem q1p (x : Operand) (ho : o.op = .load 80 x) {b k : Nat} {d : InT} (hx : a.eval x = .pointer (some ⟨b, k, none⟩)) (h : Cells w0 b k (inCs d)) (hr : d.Ok) (hk : K (a.put o.dst (inV d))) :
  o.quiet Tryz.prog a (fun w' => ∃ s : Since w0, w' = s.w) K := q2h 80 x ho hx h _ Tryz.underlying80 rfl (inSz hr) hk
theorem x5j (x y : InT) (hx : x.Ok) (hy : y.Ok) (w : World) : (Op.equalIn 10000 80 (inV x) (inV y)).run Tryz.prog w = .ok (sameIn x y) w := by
 unfold inV
 rw [run_equalIn_struct w 9999 80 _ _ (by kernel_rfl) (by kernel_rfl)]
 have bx0 : (bvs x.tx).length = 32 := by rw [q0c, hx.1]
 have dx0 : (inCs x).drop 0 = bvs x.tx ++ ([.int .u64 x.index]) := rfl
 have ex0 : ((inCs x).drop 0).take 32 = bvs x.tx := by rw [dx0]; exact take_left bx0
 have dx1 : (inCs x).drop 32 = [.int .u64 x.index] := by
  rw [show 32 = 0 + 32 by rfl, ← List.drop_drop, dx0, drop_left bx0]
 have ex1 := q5o dx1
 have by0 : (bvs y.tx).length = 32 := by rw [q0c, hy.1]
 have dy0 : (inCs y).drop 0 = bvs y.tx ++ ([.int .u64 y.index]) := rfl
 have ey0 : ((inCs y).drop 0).take 32 = bvs y.tx := by rw [dy0]; exact take_left by0
 have dy1 : (inCs y).drop 32 = [.int .u64 y.index] := by
  rw [show 32 = 0 + 32 by rfl, ← List.drop_drop, dy0, drop_left by0]
 have ey1 := q5o dy1
 unfold Program.fieldsOf
 rw [Tryz.underlying80]
 unfold sameIn
 refine q1n (by decide) (q1o ex0 w) (q1o ey0 w) (q2g 9997 x.tx y.tx hx.1 hy.1 w) ?_
 exact q5j (by decide) (run_part_plain w q1l ex1) (run_part_plain w q1l ey1) (by rw [run_equalIn_int w 9998 24 .u64 .u64 _ _ Tryz.underlying24, q3n])
theorem q7n {C : World → Prop} (p q : Operand) (ho : o.op = .binOp .neq 80 p q 80) {x y : InT} (hx : a.eval p = inV x) (hy : a.eval q = inV y) (kx : x.Ok) (ky : y.Ok) (hk : K (a.put o.dst (.bool (!(sameIn x y))))) : o.quiet Tryz.prog a C K :=
 q2z _ (fun w _ => j0q 80 p q ho hx hy (by kernel_rfl) (x5j x y kx ky) w) hk
end
theorem ret_in {fn : Func} {q : Tmp} (hr : fn.results = #[.cell q 80]) (tmps : Array Value) (w : World) {g : Nat} {d : InT} (hp : tmps.getD q undef = .pointer (some ⟨g, 0, none⟩)) (h : InAt w g d) :
  (results fn tmps).run Tryz.prog w = .ok (inV d) w :=
 results_cell_row hr tmps w g 80 (inCs d).toArray (0, 0) _ hp h.arr Tryz.underlying80 rfl (by rw [List.size_toArray]; exact inSz h.ok)
def outCs (x : OutT) : List Value := bvs x.dst ++ (bvs x.stake ++ ([.int .u64 x.amount]))
def outV (x : OutT) : Value := .agg (outCs x).toArray
theorem q3o {x : OutT} (h : x.Ok) : (outCs x).length = 65 := by
 have q0 : x.dst.length = 32 := h.1
 have q1 : x.stake.length = 32 := h.2.1
 unfold outCs; simp [q0c, q0, q1]
theorem j2j (x : OutT) : ∀ v ∈ outCs x, v.oneCell' = true := by
 intro v hv
 unfold outCs at hv
 simp only [List.mem_cons, List.mem_append, List.not_mem_nil, or_false] at hv
 rcases hv with hv | hv | rfl
 ·exact List.all_eq_true.1 (q1f x.dst) v hv
 ·exact List.all_eq_true.1 (q1f x.stake) v hv
 ·rfl
structure OutAt (w : World) (g : Nat) (x : OutT) : Prop where
 ok : x.Ok
 arr : Arr w g 84 (outCs x)
section
variable {w w' : World} {g bb kk : Nat} {x : OutT}
theorem OutAt.lt (h : OutAt w g x) : g < w.heap.size := Arr.lt h.arr
theorem OutAt.later (h : OutAt w g x) (hb : Below w.heap.size w w') : OutAt w' g x := ⟨h.ok, h.arr.later hb⟩
theorem OutAt.below {B : Nat} (h : OutAt w g x) (hb : Below B w w') (hB : g < B) : OutAt w' g x := ⟨h.ok, Arr.below h.arr hb hB⟩
theorem OutAt.touch {S : Nat → Prop} (h : OutAt w g x) (ht : Touch S w w') (hS : ¬ S g) : OutAt w' g x := ⟨h.ok, h.arr.touch ht hS⟩
theorem OutAt.tt {g' : Nat} (h : OutAt w g x) (ht : Touch (fun y => y = g') w w') (hS : ¬ g = g' := by omega) : OutAt w' g x := h.touch ht hS
theorem OutAt.cells (h : OutAt w g x) : Cells w g 0 (outCs x) := Cells.arr h.arr
theorem outR0 (h : Cells w bb kk (outCs x)) : Cells w bb kk (bvs x.dst ++ (bvs x.stake ++ ([.int .u64 x.amount]))) := h
theorem OutAt.dst (h : OutAt w g x) : Cells w g 0 (bvs x.dst) := Cells.left (outR0 h.cells)
theorem outR1 (h : Cells w bb kk (outCs x)) (ok : x.Ok) : Cells w bb (kk + 32) (bvs x.stake ++ ([.int .u64 x.amount])) := Cells.right (n := 32) (outR0 h) (by rw [q0c, show x.dst.length = 32 from ok.1])
theorem OutAt.stake (h : OutAt w g x) : Cells w g 32 (bvs x.stake) := by
 have := outR1 h.cells h.ok
 rw [Nat.zero_add] at this
 exact Cells.left this
theorem outR2 (h : Cells w bb kk (outCs x)) (ok : x.Ok) : Cells w bb (kk + 64) ([.int .u64 x.amount]) := by
 have := Cells.right (n := 32) (outR1 h ok) (by rw [q0c, ok.2.1])
 rwa [Nat.add_assoc] at this
theorem OutAt.amount (h : OutAt w g x) : w.cell? ⟨g, 64, none⟩ = some (.int .u64 x.amount) := by
 have := (outR2 h.cells h.ok).one
 rwa [Nat.zero_add] at this
end
theorem outSize : (Tryz.prog.info? 84).map (·.size) = some 65 := by kernel_rfl
theorem outSz {x : OutT} (h : x.Ok) : (Tryz.prog.info? 84).map (·.size) = some (outCs x).length := by rw [q3o h]; exact outSize
def out0 : OutT := ⟨zero32, zero32, 0⟩
theorem x6f : out0.Ok := ⟨rfl, rfl, by decide⟩
theorem outZero : (Tryz.prog.info? 84).bind (·.zero) = some (outV out0) := by kernel_rfl
section
variable {ops : Array Oper} {rest : List Oper} {o : Oper} {a : Act} {w w0 : World} {Q : Exit → Act → World → Prop} {K : Act → Prop}
theorem j2k (hw : Region.wanted o (yielded ops a.tmps) = true) (x : Operand) (ho : o.op = .box 84 x) {d : OutT} (hx : a.eval x = outV d) (hr : d.Ok)
  (hk : ∀ w2 g, w.heap.size ≤ g → OutAt w2 g d → Below w.heap.size w w2 → wpList Tryz.prog ops Q rest (a.put o.dst (.pointer (some ⟨g, 0, none⟩))) w2) : wpList Tryz.prog ops Q (o :: rest) a w :=
 q4j hw 84 x ho hx (cs := outCs d) (by simp [outV, Value.cells]) (fun w2 g hg h hb => hk w2 g hg ⟨hr, h⟩ hb)
theorem j1j (hw : Region.wanted o (yielded ops a.tmps) = true) (ho : o.op = .alloc 84)
  (hk : ∀ w2 g, w.heap.size ≤ g → OutAt w2 g out0 → Below w.heap.size w w2 → wpList Tryz.prog ops Q rest (a.put o.dst (.pointer (some ⟨g, 0, none⟩))) w2) : wpList Tryz.prog ops Q (o :: rest) a w :=
 q5e hw 84 ho outZero (cs := outCs out0) (by simp [outV, Value.cells]) (fun w2 g hg h hb => hk w2 g hg ⟨x6f, h⟩ hb)
theorem q9a (hgd : o.guard = none) (x y : Operand) (ho : o.op = .store 84 x y) {g : Nat} {d0 d : OutT} (hx : a.eval x = .pointer (some ⟨g, 0, none⟩)) (hy : a.eval y = outV d) (hr : d.Ok) (h : OutAt w g d0)
  (hk : ∀ w2, OutAt w2 g d → Touch (fun b => b = g) w w2 → wpList Tryz.prog ops Q rest (a.put o.dst undef) w2) : wpList Tryz.prog ops Q (o :: rest) a w :=
 q5t hgd 84 x y ho hx hy h.arr (outSz hr) (by rw [q3o hr, q3o h.ok]) (j2j d) (fun w2 ha ht => hk w2 ⟨hr, ha⟩ ht)
theorem q7d (hw : Region.wanted o (yielded ops a.tmps) = true) (x : Operand) (ho : o.op = .load 84 x) {b k : Nat} {d : OutT} (hx : a.eval x = .pointer (some ⟨b, k, none⟩)) (h : Cells w b k (outCs d)) (hr : d.Ok)
  (hk : wpList Tryz.prog ops Q rest (a.put o.dst (outV d)) w) : wpList Tryz.prog ops Q (o :: rest) a w :=
 q1t hw 84 x ho hx h _ Tryz.underlying84 rfl (outSz hr) hk
theorem q3p (x : Operand) (ho : o.op = .load 84 x) {b k : Nat} {d : OutT} (hx : a.eval x = .pointer (some ⟨b, k, none⟩)) (h : Cells w0 b k (outCs d)) (hr : d.Ok) (hk : K (a.put o.dst (outV d))) :
  o.quiet Tryz.prog a (fun w' => ∃ s : Since w0, w' = s.w) K := q2h 84 x ho hx h _ Tryz.underlying84 rfl (outSz hr) hk
theorem x2e (x y : OutT) (hx : x.Ok) (hy : y.Ok) (w : World) : (Op.equalIn 10000 84 (outV x) (outV y)).run Tryz.prog w = .ok (sameOut x y) w := by
 unfold outV
 rw [run_equalIn_struct w 9999 84 _ _ (by kernel_rfl) (by kernel_rfl)]
 have bx0 : (bvs x.dst).length = 32 := by rw [q0c, hx.1]
 have bx1 : (bvs x.stake).length = 32 := by rw [q0c, hx.2.1]
 have dx0 : (outCs x).drop 0 = bvs x.dst ++ (bvs x.stake ++ ([.int .u64 x.amount])) := rfl
 have ex0 : ((outCs x).drop 0).take 32 = bvs x.dst := by rw [dx0]; exact take_left bx0
 have dx1 : (outCs x).drop 32 = bvs x.stake ++ ([.int .u64 x.amount]) := by
  rw [show 32 = 0 + 32 by rfl, ← List.drop_drop, dx0, drop_left bx0]
 have ex1 : ((outCs x).drop 32).take 32 = bvs x.stake := by rw [dx1]; exact take_left bx1
 have dx2 : (outCs x).drop 64 = [.int .u64 x.amount] := by
  rw [show 64 = 32 + 32 by rfl, ← List.drop_drop, dx1, drop_left bx1]
 have ex2 := q5o dx2
 have by0 : (bvs y.dst).length = 32 := by rw [q0c, hy.1]
 have by1 : (bvs y.stake).length = 32 := by rw [q0c, hy.2.1]
 have dy0 : (outCs y).drop 0 = bvs y.dst ++ (bvs y.stake ++ ([.int .u64 y.amount])) := rfl
 have ey0 : ((outCs y).drop 0).take 32 = bvs y.dst := by rw [dy0]; exact take_left by0
 have dy1 : (outCs y).drop 32 = bvs y.stake ++ ([.int .u64 y.amount]) := by
  rw [show 32 = 0 + 32 by rfl, ← List.drop_drop, dy0, drop_left by0]
 have ey1 : ((outCs y).drop 32).take 32 = bvs y.stake := by rw [dy1]; exact take_left by1
 have dy2 : (outCs y).drop 64 = [.int .u64 y.amount] := by
  rw [show 64 = 32 + 32 by rfl, ← List.drop_drop, dy1, drop_left by1]
 have ey2 := q5o dy2
 unfold Program.fieldsOf
 rw [Tryz.underlying84]
 unfold sameOut
 refine q1n (by decide) (q1o ex0 w) (q1o ey0 w) (q2g 9997 x.dst y.dst hx.1 hy.1 w) ?_
 refine q1n (by decide) (q1o ex1 w) (q1o ey1 w) (q2g 9997 x.stake y.stake hx.2.1 hy.2.1 w) ?_
 exact q5j (by decide) (run_part_plain w q1l ex2) (run_part_plain w q1l ey2) (by rw [run_equalIn_int w 9998 24 .u64 .u64 _ _ Tryz.underlying24, q3n])
theorem q6j {C : World → Prop} (p q : Operand) (ho : o.op = .binOp .neq 84 p q 84) {x y : OutT} (hx : a.eval p = outV x) (hy : a.eval q = outV y) (kx : x.Ok) (ky : y.Ok) (hk : K (a.put o.dst (.bool (!(sameOut x y))))) : o.quiet Tryz.prog a C K :=
 q2z _ (fun w _ => j0q 84 p q ho hx hy (by kernel_rfl) (x2e x y kx ky) w) hk
end
theorem z1n {fn : Func} {q : Tmp} (hr : fn.results = #[.cell q 84]) (tmps : Array Value) (w : World) {g : Nat} {d : OutT} (hp : tmps.getD q undef = .pointer (some ⟨g, 0, none⟩)) (h : OutAt w g d) :
  (results fn tmps).run Tryz.prog w = .ok (outV d) w :=
 results_cell_row hr tmps w g 84 (outCs d).toArray (0, 0) _ hp h.arr Tryz.underlying84 rfl (by rw [List.size_toArray]; exact outSz h.ok)
end Go.Proofs.YtbbfnpfkbbpjgaaGreat
