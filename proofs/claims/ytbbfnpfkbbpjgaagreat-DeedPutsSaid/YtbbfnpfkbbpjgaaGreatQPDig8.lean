/- Numbers of eight bytes: digit.Eight, TakeEight; the reference's TakeEight. -/
import Derived.Test.YtbbfnpfkbbpjgaaGreatQPStep
import Derived.Laws.StructEq
namespace Go.Proofs.YtbbfnpfkbbpjgaaGreat
open Go.RowKit Go.Lib
set_option linter.unusedVariables false
set_option linter.unusedSimpArgs false

theorem eight_next (n k : Nat) (h : k < 8) : (eightL n).take (k + 1) = (eightL n).take k ++ [UInt8.ofNat (n / 2 ^ (56 - 8 * k) % 256)] := by
  rw [List.take_succ_eq_append_getElem (by rw [eightL_length]; exact h)]
  simp [eightL]
set_option maxRecDepth 100000 in
set_option maxHeartbeats 3200000 in
theorem digEight_any (n0 : Nat) (w : World) (hn : n0 < 18446744073709551616) :
    Calls Tryz.prog 153 #[.int .u64 n0] w fun e w' => e = .returned (.string ⟨(eightL n0).toArray⟩) ∧ Below w.heap.size w w' := by
  have HS := hide (eight_next n0)
  have HL := hide (eightL_length n0)
  generalize eightL n0 = R at *
  go_enter Tryz.func153, Tryz.ntmps153
  go_wp2_with fail
  have r0 : Byts (w.alloc (.cells (bvs (bpad [] 8)).toArray 204)) w.heap.size 204 (bpad (R.take 0) 8) := Arr.new w _ _
  have hb := below1 w (.cells (bvs (bpad [] 8)).toArray 204)
  show Code.wp _ _ _ _ (w.alloc (.cells (bvs (bpad [] 8)).toArray 204))
  generalize w.alloc (.cells (bvs (bpad [] 8)).toArray 204) = W at *
  go_loopw [5] (fun i wr => ∃ k : Nat, i = .int .i64 k ∧ k ≤ 8 ∧ Byts wr w.heap.size 204 (bpad (R.take k) 8) ∧ Below w.heap.size w wr) (fun i _ => 8 - (RowKit.intOf i).toNat)
  case atStart => exact ⟨0, rfl, by omega, r0, hb⟩
  case round =>
    obtain ⟨k, rfl, hk, q0, qb⟩ := hrel
    clear r0 hb
    have t0 := Arr.thaw q0 k
    by_cases hlt : k < 8
    · have HK := hide (HS.out k hlt)
      have hpl : (R.take k).length = k := by rw [List.length_take, HL.out]; omega
      have c0 := q0.cell (i := k) (by rw [bpad_length _ _ (by rw [hpl]; omega)]; omega)
      have d1 := Byts.set q0 k (UInt8.ofNat (n0 / 2 ^ (56 - 8 * k) % 256))
      have en := bpad_next (R.take k) 8 (by rw [hpl]; omega) (UInt8.ofNat (n0 / 2 ^ (56 - 8 * k) % 256))
      rw [hpl, ← HK.out] at en
      have e8 : ((UInt8.ofNat (n0 / 2 ^ (56 - 8 * k) % 256)).toNat : Int) = ((n0 / 2 ^ (56 - 8 * k) : Nat) : Int) % 256 := by rw [UInt8.toNat_ofNat']; omega
      rw [en, e8] at d1
      have e1 : (56 : Int) - 8 * (k : Int) = ((56 - 8 * k : Nat) : Int) := by omega
      have e2 : (n0 : Int) / 2 ^ (56 - 8 * k) = ((n0 / 2 ^ (56 - 8 * k) : Nat) : Int) := by simp
      generalize n0 / 2 ^ (56 - 8 * k) = y at *
      have d2 := qb.setCell (p := ⟨w.heap.size, k, none⟩) (Nat.le_refl _) (.int .u8 ((y : Int) % 256))
      have i0 : (k : Int) < 8 := by omega
      clear en e8 q0 qb hpl
      go_wp2_with fail
      go_roundw
      case rel => exact ⟨k + 1, by simp, by omega, d1, d2⟩
      case measure => simp [RowKit.intOf]; omega
    · obtain rfl : k = 8 := by omega
      have e8 : bpad (R.take 8) 8 = R := by
        rw [List.take_of_length_le (by rw [HL.out]; omega)]; unfold bpad; rw [HL.out]; simp
      rw [e8] at q0
      have ht := Byts.text (P := Tryz.prog) q0 93 9 5 8 8 HL.out Tryz.underlying93 Tryz.underlying5 Tryz.underlying9
      clear e8
      go_wp2_with fail
      go_ret
      exact ⟨rfl, qb⟩
end Go.Proofs.YtbbfnpfkbbpjgaaGreat

/- Rights and heads in memory; the steps of a walk that make, load and fill them. -/
namespace Go.Proofs.YtbbfnpfkbbpjgaaGreat
open Go.RowKit Go.Lib
set_option linter.unusedVariables false
set_option linter.unusedSimpArgs false

/-- A right. -/
structure Rt where
  hot : List UInt8
  counter : Nat
  start : Nat
  sig : ByteArray
/-- A head. -/
structure Hd where
  slot : Nat
  number : Nat
  prev : List UInt8
  pool : List UInt8
  body : List UInt8
  size : Nat
  many : Nat
  right : Rt
  sig : ByteArray
structure Rt.Ok (r : Rt) : Prop where
  hot : r.hot.length = 32
  counter : r.counter < 18446744073709551616
  start : r.start < 18446744073709551616
structure Hd.Ok (h : Hd) : Prop where
  slot : h.slot < 18446744073709551616
  number : h.number < 18446744073709551616
  prev : h.prev.length = 32
  pool : h.pool.length = 32
  body : h.body.length = 32
  size : h.size < 18446744073709551616
  many : h.many < 18446744073709551616
  right : h.right.Ok
def rtCs (r : Rt) : List Value := bvs r.hot ++ [.int .u64 r.counter, .int .u64 r.start, .string r.sig]
def rtV (r : Rt) : Value := .agg (rtCs r).toArray
def hdCs (h : Hd) : List Value := .int .u64 h.slot :: .int .u64 h.number :: (bvs h.prev ++ (bvs h.pool ++ (bvs h.body ++ (.int .u64 h.size :: .int .u64 h.many :: (rtCs h.right ++ [.string h.sig])))))
def hdV (h : Hd) : Value := .agg (hdCs h).toArray
theorem rtCs_length {r : Rt} (h : r.Ok) : (rtCs r).length = 35 := by unfold rtCs; simp [bvs_length, h.hot]
theorem hdCs_length {h : Hd} (k : h.Ok) : (hdCs h).length = 136 := by unfold hdCs; simp [bvs_length, k.prev, k.pool, k.body, rtCs_length k.right]
structure RtAt (w : World) (g : Nat) (r : Rt) : Prop where
  ok : r.Ok
  arr : Arr w g 47 (rtCs r)
structure HdAt (w : World) (g : Nat) (h : Hd) : Prop where
  ok : h.Ok
  arr : Arr w g 49 (hdCs h)
section
variable {w w' : World} {g : Nat} {r : Rt}
theorem RtAt.lt (h : RtAt w g r) : g < w.heap.size := Arr.lt h.arr
theorem RtAt.later (h : RtAt w g r) (hb : Below w.heap.size w w') : RtAt w' g r := ⟨h.ok, h.arr.later hb⟩
theorem RtAt.below {B : Nat} (h : RtAt w g r) (hb : Below B w w') (hB : g < B) : RtAt w' g r := ⟨h.ok, Arr.below h.arr hb hB⟩
theorem RtAt.touch {S : Nat → Prop} (h : RtAt w g r) (ht : Touch S w w') (hS : ¬ S g) : RtAt w' g r := ⟨h.ok, h.arr.touch ht hS⟩
theorem RtAt.tt {g' : Nat} (h : RtAt w g r) (ht : Touch (fun x => x = g') w w') (hS : ¬ g = g' := by omega) : RtAt w' g r := h.touch ht hS
theorem RtAt.cells (h : RtAt w g r) : Cells w g 0 (rtCs r) := Cells.arr h.arr
theorem rt_hot {o : Nat} (h : Cells w g o (rtCs r)) : Cells w g o (bvs r.hot) := Cells.left h
theorem rt_rest {o : Nat} (h : Cells w g o (rtCs r)) (k : r.Ok) : Cells w g (o + 32) [.int .u64 r.counter, .int .u64 r.start, .string r.sig] := Cells.right (n := 32) h (by rw [bvs_length, k.hot])
theorem RtAt.c0 (h : RtAt w g r) : Cells w g 0 (bvs r.hot) := rt_hot h.cells
theorem RtAt.c32 (h : RtAt w g r) : w.cell? ⟨g, 32, none⟩ = some (.int .u64 r.counter) := (rt_rest h.cells h.ok).one
theorem RtAt.c33 (h : RtAt w g r) : w.cell? ⟨g, 33, none⟩ = some (.int .u64 r.start) := (rt_rest h.cells h.ok).tail.one
theorem RtAt.c34 (h : RtAt w g r) : w.cell? ⟨g, 34, none⟩ = some (.string r.sig) := (rt_rest h.cells h.ok).tail.tail.one
variable {d : Hd}
theorem HdAt.lt (h : HdAt w g d) : g < w.heap.size := Arr.lt h.arr
theorem HdAt.later (h : HdAt w g d) (hb : Below w.heap.size w w') : HdAt w' g d := ⟨h.ok, h.arr.later hb⟩
theorem HdAt.below {B : Nat} (h : HdAt w g d) (hb : Below B w w') (hB : g < B) : HdAt w' g d := ⟨h.ok, Arr.below h.arr hb hB⟩
theorem HdAt.touch {S : Nat → Prop} (h : HdAt w g d) (ht : Touch S w w') (hS : ¬ S g) : HdAt w' g d := ⟨h.ok, h.arr.touch ht hS⟩
theorem HdAt.tt {g' : Nat} (h : HdAt w g d) (ht : Touch (fun x => x = g') w w') (hS : ¬ g = g' := by omega) : HdAt w' g d := h.touch ht hS
theorem HdAt.cells (h : HdAt w g d) : Cells w g 0 (hdCs d) := Cells.arr h.arr
theorem HdAt.r34 (h : HdAt w g d) : Cells w g 34 (bvs d.pool ++ (bvs d.body ++ (.int .u64 d.size :: .int .u64 d.many :: (rtCs d.right ++ [.string d.sig])))) := Cells.right (n := 32) h.cells.tail.tail (by rw [bvs_length, h.ok.prev])
theorem HdAt.r66 (h : HdAt w g d) : Cells w g 66 (bvs d.body ++ (.int .u64 d.size :: .int .u64 d.many :: (rtCs d.right ++ [.string d.sig]))) := Cells.right (n := 32) h.r34 (by rw [bvs_length, h.ok.pool])
theorem HdAt.r98 (h : HdAt w g d) : Cells w g 98 (.int .u64 d.size :: .int .u64 d.many :: (rtCs d.right ++ [.string d.sig])) := Cells.right (n := 32) h.r66 (by rw [bvs_length, h.ok.body])
theorem HdAt.r100 (h : HdAt w g d) : Cells w g 100 (rtCs d.right ++ [.string d.sig]) := h.r98.tail.tail
theorem HdAt.c0 (h : HdAt w g d) : w.cell? ⟨g, 0, none⟩ = some (.int .u64 d.slot) := h.cells.one
theorem HdAt.c1 (h : HdAt w g d) : w.cell? ⟨g, 1, none⟩ = some (.int .u64 d.number) := h.cells.tail.one
theorem HdAt.c2 (h : HdAt w g d) : Cells w g 2 (bvs d.prev) := Cells.left h.cells.tail.tail
theorem HdAt.c34 (h : HdAt w g d) : Cells w g 34 (bvs d.pool) := Cells.left h.r34
theorem HdAt.c66 (h : HdAt w g d) : Cells w g 66 (bvs d.body) := Cells.left h.r66
theorem HdAt.c98 (h : HdAt w g d) : w.cell? ⟨g, 98, none⟩ = some (.int .u64 d.size) := h.r98.one
theorem HdAt.c99 (h : HdAt w g d) : w.cell? ⟨g, 99, none⟩ = some (.int .u64 d.many) := h.r98.tail.one
theorem HdAt.c100 (h : HdAt w g d) : Cells w g 100 (rtCs d.right) := Cells.left h.r100
theorem HdAt.ch (h : HdAt w g d) : Cells w g 100 (bvs d.right.hot) := rt_hot h.c100
theorem HdAt.c132 (h : HdAt w g d) : w.cell? ⟨g, 132, none⟩ = some (.int .u64 d.right.counter) := (rt_rest h.c100 h.ok.right).one
theorem HdAt.c133 (h : HdAt w g d) : w.cell? ⟨g, 133, none⟩ = some (.int .u64 d.right.start) := (rt_rest h.c100 h.ok.right).tail.one
theorem HdAt.c134 (h : HdAt w g d) : w.cell? ⟨g, 134, none⟩ = some (.string d.right.sig) := (rt_rest h.c100 h.ok.right).tail.tail.one
theorem HdAt.c135 (h : HdAt w g d) : w.cell? ⟨g, 135, none⟩ = some (.string d.sig) := (Cells.right (n := 35) h.r100 (rtCs_length h.ok.right)).one
end
theorem rtSize : (Tryz.prog.info? 47).map (·.size) = some 35 := by kernel_rfl
theorem hdSize : (Tryz.prog.info? 49).map (·.size) = some 136 := by kernel_rfl
section
variable {ops : Array Oper} {rest : List Oper} {o : Oper} {a : Act} {w w0 : World} {Q : Exit → Act → World → Prop} {K : Act → Prop}
theorem since_load_hd (x : Operand) (ho : o.op = .load 49 x) {g : Nat} {d : Hd} (hx : a.eval x = .pointer (some ⟨g, 0, none⟩)) (h : HdAt w0 g d) (hk : K (a.put o.dst (hdV d))) :
    o.quiet Tryz.prog a (fun w' => ∃ s : Since w0, w' = s.w) K := since_load_cells 49 x ho hx h.cells _ Tryz.underlying49 rfl (by rw [hdCs_length h.ok]; exact hdSize) hk
theorem since_load_rt (x : Operand) (ho : o.op = .load 47 x) {g : Nat} {r : Rt} (hx : a.eval x = .pointer (some ⟨g, 0, none⟩)) (h : RtAt w0 g r) (hk : K (a.put o.dst (rtV r))) :
    o.quiet Tryz.prog a (fun w' => ∃ s : Since w0, w' = s.w) K := since_load_cells 47 x ho hx h.cells _ Tryz.underlying47 rfl (by rw [rtCs_length h.ok]; exact rtSize) hk
theorem since_load_hdrt (x : Operand) (ho : o.op = .load 47 x) {g : Nat} {d : Hd} (hx : a.eval x = .pointer (some ⟨g, 100, none⟩)) (h : HdAt w0 g d) (hk : K (a.put o.dst (rtV d.right))) :
    o.quiet Tryz.prog a (fun w' => ∃ s : Since w0, w' = s.w) K := since_load_cells 47 x ho hx h.c100 _ Tryz.underlying47 rfl (by rw [rtCs_length h.ok.right]; exact rtSize) hk
end
end Go.Proofs.YtbbfnpfkbbpjgaaGreat

/- Rights and heads compared with themselves. -/
namespace Go.Proofs.YtbbfnpfkbbpjgaaGreat
open Go.RowKit Go.Lib
set_option linter.unusedVariables false
set_option linter.unusedSimpArgs false

theorem drop_left {α : Type} {xs ys : List α} {n : Nat} (h : xs.length = n) : (xs ++ ys).drop n = ys := by subst h; exact List.drop_left
theorem take_left {α : Type} {xs ys : List α} {n : Nat} (h : xs.length = n) : (xs ++ ys).take n = xs := by subst h; exact List.take_left
theorem ext_of {cs l : List Value} {off n : Nat} (h : (cs.drop off).take n = l) : cs.toArray.extract off (off + n) = l.toArray := by
  apply Array.toList_inj.1
  rw [Array.toList_extract, ← h]
  simp [List.extract]
set_option maxRecDepth 100000 in
theorem part_hash {cs : List Value} {off : Nat} {l : List UInt8} (h : (cs.drop off).take 32 = bvs l) (w : World) : (Go.part 34 cs.toArray off).run Tryz.prog w = .ok (hv l) w := by
  unfold Go.part
  simp only [Sem.run_bind, Tryz.isAgg34, Result.andThen_ok]
  have := ext_of h
  simp [this, hv]
  exact h
theorem plain_u64 : Tryz.prog.plainKey 24 = true := by kernel_rfl
theorem plain_str : Tryz.prog.plainKey 9 = true := by kernel_rfl
theorem at_of {cs l : List Value} {off : Nat} {v : Value} (h : cs.drop off = v :: l) : cs.toArray[off]? = some v := by
  have h1 : (cs.drop off)[0]? = some v := by rw [h]; rfl
  rw [List.getElem?_drop, Nat.add_zero] at h1
  rw [List.getElem?_toArray]
  exact h1
end Go.Proofs.YtbbfnpfkbbpjgaaGreat

/- Rows of elements of any size, of one's own: made by a literal, lengthened by append. -/
namespace Go.Proofs.YtbbfnpfkbbpjgaaGreat
open Go.RowKit Go.Lib
set_option linter.unusedVariables false
set_option linter.unusedSimpArgs false

/-- Elements of sz cells. -/
def Els (sz : Nat) (els : List (List Value)) : Prop := ∀ x ∈ els, x.length = sz ∧ ∀ u ∈ x, u.oneCell' = true
theorem Els.len {sz : Nat} {els : List (List Value)} (h : Els sz els) : ∀ x ∈ els, x.length = sz := fun x hx => (h x hx).1
theorem Els.flat {sz : Nat} {els : List (List Value)} (h : Els sz els) : ∀ u ∈ els.flatten, u.oneCell' = true := fun u hu => by
  obtain ⟨x, hx, hu'⟩ := List.mem_flatten.1 hu
  exact (h x hx).2 u hu'
theorem Els.app {sz : Nat} {a b : List (List Value)} (ha : Els sz a) (hb : Els sz b) : Els sz (a ++ b) := fun x hx => (List.mem_append.1 hx).elim (ha x) (hb x)
theorem Els.one {sz : Nat} {x : List Value} (hl : x.length = sz) (h1 : ∀ u ∈ x, u.oneCell' = true) : Els sz [x] := fun y hy => by simp at hy; subst hy; exact ⟨hl, h1⟩
theorem Els.nil (sz : Nat) : Els sz [] := fun _ h => by simp at h
theorem Els.flat_length {sz : Nat} : ∀ {els : List (List Value)}, Els sz els → els.flatten.length = els.length * sz
  | [], _ => by simp
  | x :: r, h => by rw [List.flatten_cons, List.length_append, (h x (by simp)).1, Els.flat_length (els := r) (fun y hy => h y (by simp [hy])), List.length_cons, Nat.add_mul]; omega
/-- The cells that a slice has. -/
theorem Sl.cellsOf {w : World} {b k n cap sz : Nat} {els : List (List Value)} (hz : 0 < sz) (h : Sl w (.slice (some ⟨b, k, none⟩) n cap) sz els) : ∀ j u, els.flatten[j]? = some u → w.cell? ((⟨b, k, none⟩ : Addr).add j) = some u := by
  intro j u hu
  obtain ⟨a, cap', hv, _, _, hl, _, hc⟩ := h
  have hlen : els.flatten.length = els.length * sz := by
    have : ∀ (es : List (List Value)), (∀ e ∈ es, e.length = sz) → es.flatten.length = es.length * sz := by
      intro es
      induction es with
      | nil => intro _; simp
      | cons x r ih => intro hh; rw [List.flatten_cons, List.length_append, hh x (by simp), ih (fun y hy => hh y (by simp [hy])), List.length_cons, Nat.add_mul]; omega
    exact this els hl
  have hj : j < els.length * sz := by rw [← hlen]; exact (List.getElem?_eq_some_iff.1 hu).1
  have hne : els ≠ [] := by intro h0; subst h0; simp at hj
  obtain ⟨b', k', rfl, _, hc⟩ := hc hne
  simp only [Value.slice.injEq, Option.some.injEq, Addr.mk.injEq, and_true] at hv
  obtain ⟨⟨rfl, rfl⟩, _, _⟩ := hv
  have hi : j / sz < els.length := (Nat.div_lt_iff_lt_mul hz).2 hj
  have hr : j % sz < sz := Nat.mod_lt _ hz
  have he : els[j / sz]? = some (els[j / sz]) := List.getElem?_eq_getElem hi
  have hle : (els[j / sz]).length = sz := hl _ (List.getElem_mem _)
  have h1 := hc (j / sz) _ he (j % sz)
  have h2 := flatten_get sz els hl (j / sz) _ he (j % sz) _ (List.getElem?_eq_getElem (by rw [hle]; exact hr))
  have hdm : j / sz * sz + j % sz = j := by rw [Nat.mul_comm]; exact Nat.div_add_mod _ _
  rw [hdm] at h2
  have hu' : u = (els[j / sz])[j % sz]'(by rw [hle]; exact hr) := Option.some.inj (hu.symm.trans h2)
  rw [Cells.add, show k + j = k + j / sz * sz + j % sz by omega, hu']
  exact h1 _ (List.getElem?_eq_getElem _)
/-- A row of one's own, in none of the blocks X. -/
def OwnR (w : World) (B : Nat) (e : TypeId) (sz : Nat) (v : Value) (els : List (List Value)) (X : List Nat) : Prop := w.ownsRow B e sz v els.length els.flatten ∧ Els sz els ∧ ∀ b, v.ownBlock = some b → b ∉ X
section
variable {w w' : World} {B e sz : Nat} {v : Value} {els : List (List Value)} {X : List Nat}
theorem OwnR.later (h : OwnR w B e sz v els X) (hb : Below w.heap.size w w') : OwnR w' B e sz v els X := ⟨owns_later h.1 hb, h.2⟩
theorem OwnR.touch {S : Nat → Prop} (h : OwnR w B e sz v els X) (ht : Touch S w w') (hS : ∀ b, S b → b ∈ X) : OwnR w' B e sz v els X := ⟨owns_touch h.1 ht (fun b hb hs => h.2.2 b hb (hS b hs)), h.2⟩
theorem OwnR.tt {g : Nat} (h : OwnR w B e sz v els X) (ht : Touch (fun x => x = g) w w') (hS : g ∈ X := by simp) : OwnR w' B e sz v els X := h.touch ht (own_one hS)
theorem OwnR.sl (h : OwnR w B e sz v els X) : Sl w v sz els := Sl.own rfl h.2.1.len h.1
theorem OwnR.shape (h : OwnR w B e sz v els X) : ∃ a c, v = .slice a els.length c := owns_shape h.1
theorem OwnR.lt (h : OwnR w B e sz v els X) : ∀ b, v.ownBlock = some b → b < w.heap.size := fun b hb => (World.ownsRow.lt h.1 b hb).2
theorem OwnR.more (h : OwnR w B e sz v els X) {m g : Nat} (hm : ∀ b, v.ownBlock = some b → b < m) (hg : m ≤ g) : OwnR w B e sz v els (g :: X) :=
  ⟨h.1, h.2.1, fun b hb hx => by
    rcases List.mem_cons.1 hx with rfl | h1
    · have := hm _ hb; omega
    · exact h.2.2 b hb h1⟩
theorem OwnR.less {Y : List Nat} (h : OwnR w B e sz v els X) (hs : ∀ y ∈ Y, y ∈ X) : OwnR w B e sz v els Y := ⟨h.1, h.2.1, fun b hb hy => h.2.2 b hb (hs b hy)⟩
theorem OwnR.base {B' : Nat} (h : OwnR w B e sz v els X) (hB : B' ≤ B) : OwnR w B' e sz v els X := ⟨owns_base h.1 hB, h.2⟩
theorem OwnR.put {v' : Value} {els' : List (List Value)} (h : OwnR w B e sz v els X) (ho : OwnR w' B e sz v' els' []) (hb : v'.ownBlock = v.ownBlock ∨ v'.ownBlock = some w.heap.size) (hX : ∀ x ∈ X, x < w.heap.size) : OwnR w' B e sz v' els' X :=
  ⟨ho.1, ho.2.1, fun b hv hx => by
    rcases hb with h1 | h1
    · exact h.2.2 b (h1 ▸ hv) hx
    · rw [h1] at hv
      have := hX b hx
      have : w.heap.size = b := Option.some.inj hv
      omega⟩
theorem OwnR.nil (w : World) (B e sz : Nat) : OwnR w B e sz (.slice none 0 0) [] [] := ⟨World.ownsRow_nil _ _ _ _, Els.nil _, by simp⟩
end
/-- What a row of one's own holds, whatever is turned in later blocks or in those of X. -/
theorem OwnR.st {w : World} {B e sz : Nat} {v : Value} {els : List (List Value)} {X : List Nat} (h : OwnR w B e sz v els X) : StabX (fun w => Sl w v sz els) w.heap.size X w :=
  ⟨Nat.le_refl _, fun w' ht => OwnR.sl (w := w') (B := B) (e := e) (X := X) ⟨owns_touch h.1 ht (fun b hb hs => by
    rcases hs with h1 | h1
    · have := h.lt b hb; omega
    · exact h.2.2 b hb h1), h.2⟩⟩
section
variable {P : Program} {ops : Array Oper} {rest : List Oper} {o : Oper} {a : Act} {w : World} {Q : Exit → Act → World → Prop}
set_option maxRecDepth 100000 in
/-- A literal of one element. -/
theorem wpl_row1 (hw : Region.wanted o (yielded ops a.tmps) = true) {t e sz by' : Nat} (E : ElemOf P t e sz by') (hb : sz ≤ 16777216) (x : Operand) (ho : o.op = .buildSlice t 1 #[(0, x)]) {v : Value} {el : List Value} (hx : a.eval x = v) (hc : v.cells.toList = el) (hl : el.length = sz) (h1 : ∀ u ∈ el, u.oneCell' = true)
    (hk : ∀ w2 g, w.heap.size ≤ g → OwnR w2 w.heap.size e sz (.slice (some ⟨g, 0, none⟩) 1 1) [el] [] → Below w.heap.size w w2 → wpList P ops Q rest (a.put o.dst (.slice (some ⟨g, 0, none⟩) 1 1)) w2) : wpList P ops Q (o :: rest) a w := by
  obtain ⟨ht, pos, i, z, hi, hz, hs, hby, hzs⟩ := E
  subst hc
  refine BigFrame.wpList_want hw fun _ hK => ?_
  have hvs : v.cells.size = sz := by simpa using hl
  have hr := run_dense (P := P) w t e sz [v] #[(0, v)] rfl i ht hi hs z hz (by intro u hu; simp at hu; subst hu; exact hvs) (by simp; exact pos) (by simp; exact hb)
  simp only [List.flatMap_cons, List.flatMap_nil, List.append_nil, List.length_singleton, Array.toArray_toList] at hr
  unfold Oper.wp execOp
  simp only [ho, List.map_toArray, List.map_cons, List.map_nil, hx, Sem.run_bind, hr, Result.andThen_ok]
  have hlit := World.ownsRow_lit (base := w.heap.size) (e := e) (size := sz) w v.cells 1 (Nat.le_refl _) (by unfold maxLen; omega) (by rw [hvs]; omega)
  refine hK _ _ (hk _ _ (Nat.le_refl _) ⟨by simpa using hlit, Els.one hl h1, by simp⟩ (below1 w _))
set_option maxRecDepth 100000 in
/-- A slice appended to a row of one's own. -/
theorem wpl_append_row (hw : Region.wanted o (yielded ops a.tmps) = true) (s x : Operand) {t e sz by' : Nat} (E : ElemOf P t e sz by') (ho : o.op = .call { callee := .builtin .append, args := #[s, x], argTypes := #[t, t] }) {B : Nat} {v v2 : Value} {l l2 : List (List Value)} {X : List Nat}
    (hs : a.eval s = v) (hown : OwnR w B e sz v l X) (hx : a.eval x = v2) (hxs : Sl w v2 sz l2) (h1 : Els sz l2) (n : Nat) (hn : l.length + l2.length = n) (hm : n ≤ 1000000) (hby : n * by' ≤ 140737488355328) (hB : B ≤ w.heap.size)
    (hk : ∀ a' c' w', OwnR w' B e sz (.slice a' n c') (l ++ l2) [] → Touch (fun b => v.ownBlock = some b) w w' → ((Value.slice a' n c').ownBlock = v.ownBlock ∨ (Value.slice a' n c').ownBlock = some w.heap.size) →
      wpList P ops Q rest (a.put o.dst (.slice a' n c')) w') : wpList P ops Q (o :: rest) a w := by
  subst hn
  by_cases h0 : 0 < l2.length
  · obtain ⟨av, cap, rfl, _, _, _, _, hc⟩ := id hxs
    obtain ⟨b, k, rfl, _, _⟩ := hc (by intro h2; subst h2; simp at h0)
    refine wpl_append_any hw s x E ho hs hown.1 hx (news := l2.flatten) h1.flat_length (fun j u hu => hxs.cellsOf E.pos j u hu) h1.flat (by unfold maxLen; omega) hby hB (fun a' c' w' q1 q2 q3 => hk a' c' w' ⟨?_, hown.2.1.app h1, by simp⟩ q2 q3)
    rw [List.length_append, List.flatten_append]
    exact q1
  · have h2 : l2 = [] := List.eq_nil_of_length_eq_zero (by omega)
    subst h2
    obtain ⟨ax, capx, rfl, _, _, _, _, _⟩ := hxs
    obtain ⟨av, cv, rfl⟩ := hown.shape
    obtain ⟨ht, pos, i, z, hi, hz, hsz, hby', hzs⟩ := E
    have hle : l.length ≤ cv := by
      rcases hown.1.2 with ⟨h6, h7⟩ | ⟨g, cap, cur, h6, _, _, h7, _⟩
      · omega
      · simp only [Value.slice.injEq] at h6; omega
    have hrun : (Builtin.append_ #[t, t] o.type #[.slice av l.length cv, .slice ax 0 capx]).run P w = .ok (.slice av l.length cv) w := by
      cases av <;> cases ax <;> simp [Builtin.append_, Builtin.lenOf, Builtin.firstCells, run_underlying ht, sizeOf, typeInfo, hi, hle, loadCells, loadCellsFrom, storeCells]
    refine BigFrame.wpList_want hw fun _ hK => ?_
    unfold Oper.wp
    rw [show ([] : List (List Value)).length = 0 from rfl] at hx
    simp [execOp, ho, resolve, invoke, builtin, hs, hx, hrun, Result.andThen]
    refine hK _ _ ?_
    have := hk av cv w (by rw [List.append_nil]; exact hown.less (by simp)) (Touch.refl _ _) (.inl rfl)
    exact this
end
end Go.Proofs.YtbbfnpfkbbpjgaaGreat
