/- Slices of elements: their places; one cell made. -/
import Derived.Test.YtbbfnpfkbbpjgaaOBHdAt
import Derived.Test.YtbbfnpfkbbpjgaaOBTakeL
import Derived.Test.YtbbfnpfkbbpjgaaOBMBase
import Derived.Test.YtbbfnpfkbbpjgaaOBStep
import Derived.Test.YtbbfnpfkbbpjgaaOBMOf
import Derived.Test.YtbbfnpfkbbpjgaaOBTakeW
namespace Go.Proofs.Ytbbfnpfkbbpjgaa
open Go.RowKit Go.Lib
set_option linter.unusedVariables false
set_option linter.unusedSimpArgs false

theorem Sl.shape {w : World} {v : Value} {sz : Nat} {α : Type} {f : α → List Value} {l : List α} (h : Sl w v sz (l.map f)) : ∃ a c, v = .slice a l.length c ∧ l.length ≤ c ∧ c ≤ maxLen ∧ (a = none → c = 0) := by
  obtain ⟨a, c, h1, h2, h3, _, h0, _⟩ := h
  rw [List.length_map] at h1 h2
  exact ⟨a, c, h1, h2, h3, h0⟩
theorem Sl.block {w : World} {v : Value} {sz : Nat} {α : Type} {f : α → List Value} {l : List α} (h : Sl w v sz (l.map f)) (h0 : 0 < l.length) :
    ∃ b k c, v = .slice (some ⟨b, k, none⟩) l.length c ∧ b < w.heap.size ∧ ∀ i x, l[i]? = some x → Cells w b (k + i * sz) (f x) := by
  obtain ⟨a, c, h1, h2, h3, h4, _, h5⟩ := h
  obtain ⟨b, k, rfl, hb, hc⟩ := h5 (by intro hn; rw [List.map_eq_nil_iff] at hn; subst hn; simp at h0)
  rw [List.length_map] at h1
  exact ⟨b, k, c, h1, hb, fun i x hx => hc i (f x) (by rw [List.getElem?_map, hx]; rfl)⟩
theorem get_ok {α : Type} {l : List α} {Ok : α → Prop} (h : ∀ x ∈ l, Ok x) {k : Nat} (hk : k < l.length) : ∃ x, l[k]? = some x ∧ Ok x := ⟨l[k], List.getElem?_eq_getElem hk, h _ (List.getElem_mem _)⟩
theorem any_take {α : Type} (l : List α) (g : α → Bool) (k : Nat) (x : α) (h : l[k]? = some x) : (l.take (k + 1)).any g = ((l.take k).any g || g x) := by
  obtain ⟨hk, rfl⟩ := List.getElem?_eq_some_iff.1 h
  rw [List.take_succ_eq_append_getElem hk, List.any_append]
  simp
theorem any_of_get {α : Type} {l : List α} {g : α → Bool} {k : Nat} {x : α} (h : l[k]? = some x) (hg : g x = true) : l.any g = true := by
  rw [List.any_eq_true]
  exact ⟨x, List.mem_of_getElem? h, hg⟩
theorem rises_snoc {α : Type} (g : α → List UInt8) (x y : α) : ∀ l : List α, risesB g (l ++ [x, y]) = (risesB g (l ++ [x]) && Op.bytesLess (g x) (g y))
  | [] => by simp [risesB]
  | [a] => by simp [risesB, Bool.and_assoc]
  | a :: b :: l => by
    have ih := rises_snoc g x y (b :: l)
    simp only [List.cons_append, risesB] at ih ⊢
    rw [ih, Bool.and_assoc]
theorem rises_next {α : Type} (g : α → List UInt8) (l : List α) (k : Nat) (x y : α) (hx : l[k - 1]? = some x) (hy : l[k]? = some y) (h0 : 0 < k) : risesB g (l.take (k + 1)) = (risesB g (l.take k) && Op.bytesLess (g x) (g y)) := by
  obtain ⟨j, rfl⟩ : ∃ j, k = j + 1 := ⟨k - 1, by omega⟩
  rw [Nat.add_sub_cancel] at hx
  obtain ⟨hj, rfl⟩ := List.getElem?_eq_some_iff.1 hx
  obtain ⟨hk, rfl⟩ := List.getElem?_eq_some_iff.1 hy
  rw [List.take_succ_eq_append_getElem hk, List.take_succ_eq_append_getElem hj, List.append_assoc]
  exact rises_snoc g _ _ _
theorem rises_stop {α : Type} (g : α → List UInt8) : ∀ (l : List α) (k : Nat), risesB g (l.take k) = false → risesB g l = false
  | [], k, h => by simp [risesB] at h
  | [a], 0, h => by simp [risesB] at h
  | [a], k + 1, h => by simp [risesB] at h
  | a :: b :: l, 0, h => by simp [risesB] at h
  | a :: b :: l, 1, h => by simp [risesB] at h
  | a :: b :: l, k + 2, h => by
    simp only [List.take_succ_cons, risesB, Bool.and_eq_false_iff] at h ⊢
    rcases h with h | h
    · exact .inl h
    · exact .inr (rises_stop g (b :: l) (k + 1) (by rw [List.take_succ_cons]; exact h))
theorem rises_one {α : Type} (g : α → List UInt8) (l : List α) : risesB g (l.take 1) = true := by
  cases l <;> simp [risesB]
end Go.Proofs.Ytbbfnpfkbbpjgaa

/- Deeds in memory. -/
namespace Go.Proofs.Ytbbfnpfkbbpjgaa
open Go.RowKit Go.Lib
set_option linter.unusedVariables false
set_option linter.unusedSimpArgs false

section
variable {w w' : World} {g : Nat} {v1 v2 v3 v4 v5 : Value} {f s t : Nat}
end
theorem Sl.one' {w : World} {v : Value} {sz : Nat} {els : List (List Value)} (h : Sl w v sz els) : v.oneCell' = true := by
  obtain ⟨_, _, rfl, _⟩ := h; rfl
section
variable {ops : Array Oper} {rest : List Oper} {o : Oper} {a : Act} {w w0 : World} {Q : Exit → Act → World → Prop} {K : Act → Prop} {v1 v2 v3 v4 v5 : Value} {f s t : Nat}
theorem wpl_gtr {P : Program} {ops : Array Oper} {rest : List Oper} {o : Oper} {a : Act} {w : World} {Q : Exit → Act → World → Prop} (hw : Region.wanted o (yielded ops a.tmps) = true) {t u : TypeId} (x y : Operand) (ho : o.op = .binOp .gtr t x y u) {k : IntKind} {m n : Int} (hx : a.eval x = .int k m) (hy : a.eval y = .int k n) {B : Bool} (hB : decide (n < m) = B) (hk : wpList P ops Q rest (a.put o.dst (.bool B)) w) : wpList P ops Q (o :: rest) a w :=
  wpl_value hw _ (by
    unfold execOp
    simp only [ho, hx, hy, Sem.run_bind]
    subst hB
    simp [eqGuard, binOp, Op.intCmp]) hk
end
end Go.Proofs.Ytbbfnpfkbbpjgaa

/- The elements of layer 13 as elements of slices. -/
namespace Go.Proofs.Ytbbfnpfkbbpjgaa
open Go.RowKit Go.Lib
set_option linter.unusedVariables false
set_option linter.unusedSimpArgs false

theorem elOf {P : Program} {t e sz by' : Nat} (ht : P.underlying t = some (.slice e)) (hz : 0 < sz) (h : (P.info? e).map (fun i => (i.size, i.bytes, i.zero.map (·.cells.size))) = some (sz, by', some sz)) : ElemOf P t e sz by' := by
  obtain ⟨i, hi, h1⟩ := Option.map_eq_some_iff.1 h
  simp only [Prod.mk.injEq] at h1
  obtain ⟨h2, h3, h4⟩ := h1
  obtain ⟨z, hz', h5⟩ := Option.map_eq_some_iff.1 h4
  exact ⟨ht, hz, i, z, hi, hz', h2, h3, h5⟩
theorem outElem : ElemOf Try.prog 28 48 65 72 := elOf Try.underlying28 (by decide) (by kernel_rfl)
theorem OwnR.off {w : World} {B e sz g : Nat} {v : Value} {els : List (List Value)} {X : List Nat} (h : OwnR w B e sz v els X) (hg : g < B) : ¬ v.ownBlock = some g := fun hs => by
  have := (World.ownsRow.lt h.1 g hs).1; omega
theorem OwnR.tg {w w' : World} {B e sz g : Nat} {v : Value} {els : List (List Value)} {X : List Nat} (h : OwnR w B e sz v els X) (ht : Touch (fun b => b = g) w w') (hg : g < B) : OwnR w' B e sz v els X :=
  ⟨owns_touch h.1 ht (fun b hb hs => h.off hg (by have e : b = g := hs; rw [e] at hb; exact hb)), h.2⟩
theorem OwnR.ge {w : World} {B e sz : Nat} {v : Value} {els : List (List Value)} {X : List Nat} (h : OwnR w B e sz v els X) : ∀ b, v.ownBlock = some b → B ≤ b := fun b hb => (World.ownsRow.lt h.1 b hb).1
theorem ok_snoc {α : Type} {P : α → Prop} {l : List α} {x : α} (h : ∀ y ∈ l, P y) (hx : P x) : ∀ y ∈ l ++ [x], P y := fun y hy => by
  rcases List.mem_append.1 hy with h1 | h1
  · exact h y h1
  · simp at h1; subst h1; exact hx
end Go.Proofs.Ytbbfnpfkbbpjgaa

/- Deeds in memory: made, filled, handed back; deeds that are one's own. -/
namespace Go.Proofs.Ytbbfnpfkbbpjgaa
open Go.RowKit Go.Lib
set_option linter.unusedVariables false
set_option linter.unusedSimpArgs false

def nilS : Value := .slice none 0 0
section
variable {ops : Array Oper} {rest : List Oper} {o : Oper} {a : Act} {w w0 : World} {Q : Exit → Act → World → Prop} {K : Act → Prop} {v1 v2 v3 v4 v5 u1 u2 u3 u4 u5 : Value} {f s t i j k : Nat}
end
end Go.Proofs.Ytbbfnpfkbbpjgaa

/- A strings.Builder that is a part of deed.writer: its methods as contracts. -/
namespace Go.Proofs.Ytbbfnpfkbbpjgaa
open Go.RowKit Go.Lib
set_option linter.unusedVariables false
set_option linter.unusedSimpArgs false

/-- Blocks that are not of bytes, other than g, are as they were. -/
def KeepT (g : Nat) (w w' : World) : Prop := ∀ k cs t, k ≠ g → t ≠ 5 → Arr w k t cs → Arr w' k t cs
theorem KeepT.refl (g : Nat) (w : World) : KeepT g w w := fun _ _ _ _ _ h => h
theorem KeepT.trans {g : Nat} {a b c : World} (h : KeepT g a b) (k : KeepT g b c) : KeepT g a c := fun q cs t h1 h2 h3 => k q cs t h1 h2 (h q cs t h1 h2 h3)
theorem KeepT.below {g : Nat} {a b : World} (h : Below a.heap.size a b) : KeepT g a b := fun _ _ _ _ _ h3 => Arr.later h3 h
theorem KeepT.set {g k : Nat} {w : World} (v : Value) : KeepT g w (w.setCell ⟨g, k, none⟩ v) := fun q cs t h1 _ h3 => by
  unfold Arr at h3 ⊢
  rw [heap_setCell_other w ⟨g, k, none⟩ q v h1]
  exact h3
theorem KeepT.grown {g : Nat} {w w' : World} {B n : Nat} {v : Value} {xs : List Value} (ho : w.ownsRow B 5 1 v n xs) (hg : w.grownBy w' v.ownBlock) : KeepT g w w' := fun q cs t _ h2 h3 => by
  unfold Arr at h3 ⊢
  rw [hg.block q (Array.getElem?_eq_some_iff.1 h3).1 (fun e => by
    rcases ho.2 with ⟨hv, _⟩ | ⟨g', cap, cur, hv, _, hh, _⟩
    · rw [hv] at e; cases e
    · rw [hv] at e
      have e' : q = g' := Option.some.inj e
      subst e'
      rw [h3] at hh
      simp only [Option.some.injEq, Obj.cells.injEq] at hh
      exact h2 hh.2.1)]
  exact h3
end Go.Proofs.Ytbbfnpfkbbpjgaa

/- deed.body. -/
namespace Go.Proofs.Ytbbfnpfkbbpjgaa
open Go.RowKit Go.Lib
set_option linter.unusedVariables false
set_option linter.unusedSimpArgs false

theorem flat_next {α : Type} (f : α → List UInt8) (l : List α) (k : Nat) (x : α) (h : l[k]? = some x) : (l.take (k + 1)).flatMap f = (l.take k).flatMap f ++ f x := by
  obtain ⟨hk, rfl⟩ := List.getElem?_eq_some_iff.1 h
  rw [List.take_succ_eq_append_getElem hk, List.flatMap_append]
  simp
theorem flat_le {α : Type} (f : α → List UInt8) : ∀ (l : List α) (c : Nat), (∀ x ∈ l, (f x).length ≤ c) → (l.flatMap f).length ≤ l.length * c
  | [], _, _ => by simp
  | x :: l, c, h => by
    have h1 := h x (by simp)
    have h2 := flat_le f l c (fun y hy => h y (by simp [hy]))
    rw [List.flatMap_cons, List.length_append, List.length_cons, Nat.add_mul]
    omega
theorem out_le (x : OutT) (h : x.Ok) : (outtL x).length ≤ 80 := by have := putL_length x.amount; unfold outtL; rw [List.length_append, List.length_append, h.1, h.2.1]; omega
theorem OutAt.keep {w w' : World} {g k : Nat} {x : OutT} (h : OutAt w k x) (hk : KeepT g w w') (hn : k ≠ g) : OutAt w' k x := ⟨h.ok, hk k _ _ hn (by decide) h.arr⟩
def numCs (L : List Nat) : List Value := L.map fun (n : Nat) => Value.int .u64 (n : Int)
theorem nums_flat : ∀ L, (numCs L).flatMap (fun v => v.cells.toList) = numCs L
  | [] => rfl
  | x :: r => by
    have ih := nums_flat r
    unfold numCs at ih ⊢
    rw [List.map_cons, List.flatMap_cons, ih]; rfl
theorem u64Info : ∃ i z, Try.prog.info? 23 = some i ∧ i.size = 1 ∧ i.zero = some z ∧ z.cells.size = 1 := by
  obtain ⟨i, hi, h1⟩ := Option.map_eq_some_iff.1 (show (Try.prog.info? 23).map (fun i => (i.size, i.zero)) = some (1, some (.int .u64 0)) by kernel_rfl)
  simp only [Prod.mk.injEq] at h1
  exact ⟨i, _, hi, h1.1, h1.2, rfl⟩
end Go.Proofs.Ytbbfnpfkbbpjgaa

/- api.Seat: its cells, in memory, made, boxed, filled, loaded, compared. -/
namespace Go.Proofs.Ytbbfnpfkbbpjgaa
open Go.RowKit Go.Lib
set_option linter.unusedVariables false
set_option linter.unusedSimpArgs false

def seatCs (x : SeatT) : List Value := bvs x.pool ++ (bvs x.key ++ (.int .u64 x.pledge :: (.int .u64 x.cost :: ([.int .u64 x.margin]))))
def seatV (x : SeatT) : Value := .agg (seatCs x).toArray
theorem seatCs_length {x : SeatT} (h : x.Ok) : (seatCs x).length = 67 := by
  have q0 : x.pool.length = 32 := h.1
  have q1 : x.key.length = 32 := h.2.1
  unfold seatCs; simp [bvs_length, q0, q1]
theorem seatCs_one (x : SeatT) : ∀ v ∈ seatCs x, v.oneCell' = true := by
  intro v hv
  unfold seatCs at hv
  simp only [List.mem_cons, List.mem_append, List.not_mem_nil, or_false] at hv
  rcases hv with hv | hv | rfl | rfl | rfl
  · exact List.all_eq_true.1 (bvs_one x.pool) v hv
  · exact List.all_eq_true.1 (bvs_one x.key) v hv
  · rfl
  · rfl
  · rfl
structure SeatAt (w : World) (g : Nat) (x : SeatT) : Prop where
  ok : x.Ok
  arr : Arr w g 93 (seatCs x)
section
variable {w w' : World} {g bb kk : Nat} {x : SeatT}
theorem SeatAt.lt (h : SeatAt w g x) : g < w.heap.size := Arr.lt h.arr
theorem SeatAt.later (h : SeatAt w g x) (hb : Below w.heap.size w w') : SeatAt w' g x := ⟨h.ok, h.arr.later hb⟩
theorem SeatAt.below {B : Nat} (h : SeatAt w g x) (hb : Below B w w') (hB : g < B) : SeatAt w' g x := ⟨h.ok, Arr.below h.arr hb hB⟩
theorem SeatAt.touch {S : Nat → Prop} (h : SeatAt w g x) (ht : Touch S w w') (hS : ¬ S g) : SeatAt w' g x := ⟨h.ok, h.arr.touch ht hS⟩
theorem SeatAt.tt {g' : Nat} (h : SeatAt w g x) (ht : Touch (fun y => y = g') w w') (hS : ¬ g = g' := by omega) : SeatAt w' g x := h.touch ht hS
theorem SeatAt.cells (h : SeatAt w g x) : Cells w g 0 (seatCs x) := Cells.arr h.arr
theorem seatR0 (h : Cells w bb kk (seatCs x)) : Cells w bb kk (bvs x.pool ++ (bvs x.key ++ (.int .u64 x.pledge :: (.int .u64 x.cost :: ([.int .u64 x.margin]))))) := h
theorem SeatAt.pool (h : SeatAt w g x) : Cells w g 0 (bvs x.pool) := Cells.left (seatR0 h.cells)
theorem seatR1 (h : Cells w bb kk (seatCs x)) (ok : x.Ok) : Cells w bb (kk + 32) (bvs x.key ++ (.int .u64 x.pledge :: (.int .u64 x.cost :: ([.int .u64 x.margin])))) := Cells.right (n := 32) (seatR0 h) (by rw [bvs_length, show x.pool.length = 32 from ok.1])
theorem SeatAt.key (h : SeatAt w g x) : Cells w g 32 (bvs x.key) := by
  have := seatR1 h.cells h.ok
  rw [Nat.zero_add] at this
  exact Cells.left this
theorem seatR2 (h : Cells w bb kk (seatCs x)) (ok : x.Ok) : Cells w bb (kk + 64) (.int .u64 x.pledge :: (.int .u64 x.cost :: ([.int .u64 x.margin]))) := by
  have := Cells.right (n := 32) (seatR1 h ok) (by rw [bvs_length, ok.2.1])
  rwa [Nat.add_assoc] at this
theorem SeatAt.pledge (h : SeatAt w g x) : w.cell? ⟨g, 64, none⟩ = some (.int .u64 x.pledge) := by
  have := (seatR2 h.cells h.ok).one
  rwa [Nat.zero_add] at this
theorem seatR3 (h : Cells w bb kk (seatCs x)) (ok : x.Ok) : Cells w bb (kk + 65) (.int .u64 x.cost :: ([.int .u64 x.margin])) := by
  have := (seatR2 h ok).tail
  rwa [Nat.add_assoc] at this
theorem SeatAt.cost (h : SeatAt w g x) : w.cell? ⟨g, 65, none⟩ = some (.int .u64 x.cost) := by
  have := (seatR3 h.cells h.ok).one
  rwa [Nat.zero_add] at this
theorem seatR4 (h : Cells w bb kk (seatCs x)) (ok : x.Ok) : Cells w bb (kk + 66) ([.int .u64 x.margin]) := by
  have := (seatR3 h ok).tail
  rwa [Nat.add_assoc] at this
theorem SeatAt.margin (h : SeatAt w g x) : w.cell? ⟨g, 66, none⟩ = some (.int .u64 x.margin) := by
  have := (seatR4 h.cells h.ok).one
  rwa [Nat.zero_add] at this
end
theorem seatSize : (Try.prog.info? 93).map (·.size) = some 67 := by kernel_rfl
theorem seatSz {x : SeatT} (h : x.Ok) : (Try.prog.info? 93).map (·.size) = some (seatCs x).length := by rw [seatCs_length h]; exact seatSize
def seat0 : SeatT := ⟨zero32, zero32, 0, 0, 0⟩
theorem seat0_ok : seat0.Ok := ⟨rfl, rfl, by decide, by decide, by decide⟩
theorem seatZero : (Try.prog.info? 93).bind (·.zero) = some (seatV seat0) := by kernel_rfl
section
variable {ops : Array Oper} {rest : List Oper} {o : Oper} {a : Act} {w w0 : World} {Q : Exit → Act → World → Prop} {K : Act → Prop}
theorem wpl_box_seat (hw : Region.wanted o (yielded ops a.tmps) = true) (x : Operand) (ho : o.op = .box 93 x) {d : SeatT} (hx : a.eval x = seatV d) (hr : d.Ok)
    (hk : ∀ w2 g, w.heap.size ≤ g → SeatAt w2 g d → Below w.heap.size w w2 → wpList Try.prog ops Q rest (a.put o.dst (.pointer (some ⟨g, 0, none⟩))) w2) : wpList Try.prog ops Q (o :: rest) a w :=
  wpl_box hw 93 x ho hx (cs := seatCs d) (by simp [seatV, Value.cells]) (fun w2 g hg h hb => hk w2 g hg ⟨hr, h⟩ hb)
theorem wpl_mk_seat (hw : Region.wanted o (yielded ops a.tmps) = true) (ho : o.op = .alloc 93)
    (hk : ∀ w2 g, w.heap.size ≤ g → SeatAt w2 g seat0 → Below w.heap.size w w2 → wpList Try.prog ops Q rest (a.put o.dst (.pointer (some ⟨g, 0, none⟩))) w2) : wpList Try.prog ops Q (o :: rest) a w :=
  wpl_mk hw 93 ho seatZero (cs := seatCs seat0) (by simp [seatV, Value.cells]) (fun w2 g hg h hb => hk w2 g hg ⟨seat0_ok, h⟩ hb)
theorem wpl_set_seat (hgd : o.guard = none) (x y : Operand) (ho : o.op = .store 93 x y) {g : Nat} {d0 d : SeatT} (hx : a.eval x = .pointer (some ⟨g, 0, none⟩)) (hy : a.eval y = seatV d) (hr : d.Ok) (h : SeatAt w g d0)
    (hk : ∀ w2, SeatAt w2 g d → Touch (fun b => b = g) w w2 → wpList Try.prog ops Q rest (a.put o.dst undef) w2) : wpList Try.prog ops Q (o :: rest) a w :=
  wpl_fill hgd 93 x y ho hx hy h.arr (seatSz hr) (by rw [seatCs_length hr, seatCs_length h.ok]) (seatCs_one d) (fun w2 ha ht => hk w2 ⟨hr, ha⟩ ht)
theorem wpl_ld_seat (hw : Region.wanted o (yielded ops a.tmps) = true) (x : Operand) (ho : o.op = .load 93 x) {b k : Nat} {d : SeatT} (hx : a.eval x = .pointer (some ⟨b, k, none⟩)) (h : Cells w b k (seatCs d)) (hr : d.Ok)
    (hk : wpList Try.prog ops Q rest (a.put o.dst (seatV d)) w) : wpList Try.prog ops Q (o :: rest) a w :=
  wpl_load_cells hw 93 x ho hx h _ Try.underlying93 rfl (seatSz hr) hk
end
theorem ret_seat {fn : Func} {q : Tmp} (hr : fn.results = #[.cell q 93]) (tmps : Array Value) (w : World) {g : Nat} {d : SeatT} (hp : tmps.getD q undef = .pointer (some ⟨g, 0, none⟩)) (h : SeatAt w g d) :
    (results fn tmps).run Try.prog w = .ok (seatV d) w :=
  results_cell_row hr tmps w g 93 (seatCs d).toArray (0, 0) _ hp h.arr Try.underlying93 rfl (by rw [List.size_toArray]; exact seatSz h.ok)
end Go.Proofs.Ytbbfnpfkbbpjgaa

/- api.Trust: its cells, in memory, made, boxed, filled, loaded, compared. -/
namespace Go.Proofs.Ytbbfnpfkbbpjgaa
open Go.RowKit Go.Lib
set_option linter.unusedVariables false
set_option linter.unusedSimpArgs false

def trustCs (x : TrustT) : List Value := bvs x.key ++ (bvs x.pool)
def trustV (x : TrustT) : Value := .agg (trustCs x).toArray
theorem trustCs_length {x : TrustT} (h : x.Ok) : (trustCs x).length = 64 := by
  have q0 : x.key.length = 32 := h.1
  have q1 : x.pool.length = 32 := h.2
  unfold trustCs; simp [bvs_length, q0, q1]
theorem trustCs_one (x : TrustT) : ∀ v ∈ trustCs x, v.oneCell' = true := by
  intro v hv
  unfold trustCs at hv
  simp only [List.mem_cons, List.mem_append, List.not_mem_nil, or_false] at hv
  rcases hv with hv | hv
  · exact List.all_eq_true.1 (bvs_one x.key) v hv
  · exact List.all_eq_true.1 (bvs_one x.pool) v hv
structure TrustAt (w : World) (g : Nat) (x : TrustT) : Prop where
  ok : x.Ok
  arr : Arr w g 97 (trustCs x)
section
variable {w w' : World} {g bb kk : Nat} {x : TrustT}
theorem TrustAt.lt (h : TrustAt w g x) : g < w.heap.size := Arr.lt h.arr
theorem TrustAt.later (h : TrustAt w g x) (hb : Below w.heap.size w w') : TrustAt w' g x := ⟨h.ok, h.arr.later hb⟩
theorem TrustAt.below {B : Nat} (h : TrustAt w g x) (hb : Below B w w') (hB : g < B) : TrustAt w' g x := ⟨h.ok, Arr.below h.arr hb hB⟩
theorem TrustAt.touch {S : Nat → Prop} (h : TrustAt w g x) (ht : Touch S w w') (hS : ¬ S g) : TrustAt w' g x := ⟨h.ok, h.arr.touch ht hS⟩
theorem TrustAt.tt {g' : Nat} (h : TrustAt w g x) (ht : Touch (fun y => y = g') w w') (hS : ¬ g = g' := by omega) : TrustAt w' g x := h.touch ht hS
theorem TrustAt.cells (h : TrustAt w g x) : Cells w g 0 (trustCs x) := Cells.arr h.arr
theorem trustR0 (h : Cells w bb kk (trustCs x)) : Cells w bb kk (bvs x.key ++ (bvs x.pool)) := h
theorem TrustAt.key (h : TrustAt w g x) : Cells w g 0 (bvs x.key) := Cells.left (trustR0 h.cells)
theorem trustR1 (h : Cells w bb kk (trustCs x)) (ok : x.Ok) : Cells w bb (kk + 32) (bvs x.pool) := Cells.right (n := 32) (trustR0 h) (by rw [bvs_length, show x.key.length = 32 from ok.1])
theorem TrustAt.pool (h : TrustAt w g x) : Cells w g 32 (bvs x.pool) := by
  have := trustR1 h.cells h.ok
  rw [Nat.zero_add] at this
  exact this
end
theorem trustSize : (Try.prog.info? 97).map (·.size) = some 64 := by kernel_rfl
theorem trustSz {x : TrustT} (h : x.Ok) : (Try.prog.info? 97).map (·.size) = some (trustCs x).length := by rw [trustCs_length h]; exact trustSize
def trust0 : TrustT := ⟨zero32, zero32⟩
theorem trust0_ok : trust0.Ok := ⟨rfl, rfl⟩
theorem trustZero : (Try.prog.info? 97).bind (·.zero) = some (trustV trust0) := by kernel_rfl
section
variable {ops : Array Oper} {rest : List Oper} {o : Oper} {a : Act} {w w0 : World} {Q : Exit → Act → World → Prop} {K : Act → Prop}
theorem wpl_box_trust (hw : Region.wanted o (yielded ops a.tmps) = true) (x : Operand) (ho : o.op = .box 97 x) {d : TrustT} (hx : a.eval x = trustV d) (hr : d.Ok)
    (hk : ∀ w2 g, w.heap.size ≤ g → TrustAt w2 g d → Below w.heap.size w w2 → wpList Try.prog ops Q rest (a.put o.dst (.pointer (some ⟨g, 0, none⟩))) w2) : wpList Try.prog ops Q (o :: rest) a w :=
  wpl_box hw 97 x ho hx (cs := trustCs d) (by simp [trustV, Value.cells]) (fun w2 g hg h hb => hk w2 g hg ⟨hr, h⟩ hb)
theorem wpl_mk_trust (hw : Region.wanted o (yielded ops a.tmps) = true) (ho : o.op = .alloc 97)
    (hk : ∀ w2 g, w.heap.size ≤ g → TrustAt w2 g trust0 → Below w.heap.size w w2 → wpList Try.prog ops Q rest (a.put o.dst (.pointer (some ⟨g, 0, none⟩))) w2) : wpList Try.prog ops Q (o :: rest) a w :=
  wpl_mk hw 97 ho trustZero (cs := trustCs trust0) (by simp [trustV, Value.cells]) (fun w2 g hg h hb => hk w2 g hg ⟨trust0_ok, h⟩ hb)
theorem wpl_set_trust (hgd : o.guard = none) (x y : Operand) (ho : o.op = .store 97 x y) {g : Nat} {d0 d : TrustT} (hx : a.eval x = .pointer (some ⟨g, 0, none⟩)) (hy : a.eval y = trustV d) (hr : d.Ok) (h : TrustAt w g d0)
    (hk : ∀ w2, TrustAt w2 g d → Touch (fun b => b = g) w w2 → wpList Try.prog ops Q rest (a.put o.dst undef) w2) : wpList Try.prog ops Q (o :: rest) a w :=
  wpl_fill hgd 97 x y ho hx hy h.arr (trustSz hr) (by rw [trustCs_length hr, trustCs_length h.ok]) (trustCs_one d) (fun w2 ha ht => hk w2 ⟨hr, ha⟩ ht)
theorem wpl_ld_trust (hw : Region.wanted o (yielded ops a.tmps) = true) (x : Operand) (ho : o.op = .load 97 x) {b k : Nat} {d : TrustT} (hx : a.eval x = .pointer (some ⟨b, k, none⟩)) (h : Cells w b k (trustCs d)) (hr : d.Ok)
    (hk : wpList Try.prog ops Q rest (a.put o.dst (trustV d)) w) : wpList Try.prog ops Q (o :: rest) a w :=
  wpl_load_cells hw 97 x ho hx h _ Try.underlying97 rfl (trustSz hr) hk
end
theorem ret_trust {fn : Func} {q : Tmp} (hr : fn.results = #[.cell q 97]) (tmps : Array Value) (w : World) {g : Nat} {d : TrustT} (hp : tmps.getD q undef = .pointer (some ⟨g, 0, none⟩)) (h : TrustAt w g d) :
    (results fn tmps).run Try.prog w = .ok (trustV d) w :=
  results_cell_row hr tmps w g 97 (trustCs d).toArray (0, 0) _ hp h.arr Try.underlying97 rfl (by rw [List.size_toArray]; exact trustSz h.ok)
end Go.Proofs.Ytbbfnpfkbbpjgaa
