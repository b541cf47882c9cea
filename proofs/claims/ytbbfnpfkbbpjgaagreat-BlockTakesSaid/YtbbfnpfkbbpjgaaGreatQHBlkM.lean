/- Blocks, and slices of deeds, in memory. -/
import Derived.Test.YtbbfnpfkbbpjgaaGreatQHDeed5
import Derived.Test.YtbbfnpfkbbpjgaaGreatQHElCert
import Derived.Test.YtbbfnpfkbbpjgaaGreatQHBlkE
import Derived.Test.YtbbfnpfkbbpjgaaGreatQHRowE
import Derived.Test.YtbbfnpfkbbpjgaaGreatQHMBase
namespace Go.Proofs.YtbbfnpfkbbpjgaaGreat
open Go.RowKit Go.Lib
set_option linter.unusedVariables false
set_option linter.unusedSimpArgs false
set_option maxRecDepth 100000
set_option maxHeartbeats 4000000
def nilD : Value := .slice none 0 0
def blkCs (d : Hd) (v : Value) : List Value := hdCs d ++ [v]
def blkV (d : Hd) (v : Value) : Value := .agg (blkCs d v).toArray
theorem q2p {d : Hd} (v : Value) (h : d.Ok) : (blkCs d v).length = 137 := by unfold blkCs; rw [List.length_append, q0t h]; rfl
theorem x7p (d : Hd) {v : Value} (hv : v.oneCell' = true) : ∀ u ∈ blkCs d v, u.oneCell' = true := fun u hu => by
 rcases List.mem_append.1 hu with h | h
 ·exact x1c d u h
 ·simp at h; subst h; exact hv
structure KAt (w : World) (g : Nat) (d : Hd) (v : Value) : Prop where
 ok : d.Ok
 one : v.oneCell' = true
 arr : Arr w g 51 (blkCs d v)
section
variable {w w' : World} {g : Nat} {d : Hd} {v : Value}
theorem KAt.lt (h : KAt w g d v) : g < w.heap.size := Arr.lt h.arr
theorem KAt.later (h : KAt w g d v) (hb : Below w.heap.size w w') : KAt w' g d v := ⟨h.ok, h.one, h.arr.later hb⟩
theorem KAt.touch {S : Nat → Prop} (h : KAt w g d v) (ht : Touch S w w') (hS : ¬ S g) : KAt w' g d v := ⟨h.ok, h.one, h.arr.touch ht hS⟩
theorem KAt.tt {g' : Nat} (h : KAt w g d v) (ht : Touch (fun y => y = g') w w') (hS : ¬ g = g' := by omega) : KAt w' g d v := h.touch ht hS
theorem KAt.cells (h : KAt w g d v) : Cells w g 0 (blkCs d v) := Cells.arr h.arr
theorem KAt.hd (h : KAt w g d v) : Cells w g 0 (hdCs d) := Cells.left h.cells
theorem KAt.ds (h : KAt w g d v) : w.cell? ⟨g, 136, none⟩ = some v := by
 have := (Cells.right (n := 136) h.cells (q0t h.ok)).one
 rwa [Nat.zero_add] at this
theorem KAt.r66 (h : KAt w g d v) : Cells w g 66 (bvs d.body ++ (.int .u64 d.size :: .int .u64 d.many :: (rtCs d.right ++ [.string d.sig]))) := by
 have h2 : Cells w g 2 (bvs d.prev ++ (bvs d.pool ++ (bvs d.body ++ (.int .u64 d.size :: .int .u64 d.many :: (rtCs d.right ++ [.string d.sig]))))) := h.hd.tail.tail
 have h34 := Cells.right (n := 32) h2 (by rw [q0c, h.ok.prev])
 exact Cells.right (n := 32) h34 (by rw [q0c, h.ok.pool])
theorem KAt.body (h : KAt w g d v) : Cells w g 66 (bvs d.body) := Cells.left h.r66
theorem KAt.r98 (h : KAt w g d v) : Cells w g 98 (.int .u64 d.size :: .int .u64 d.many :: (rtCs d.right ++ [.string d.sig])) := Cells.right (n := 32) h.r66 (by rw [q0c, h.ok.body])
theorem KAt.size (h : KAt w g d v) : w.cell? ⟨g, 98, none⟩ = some (.int .u64 d.size) := h.r98.one
theorem KAt.many (h : KAt w g d v) : w.cell? ⟨g, 99, none⟩ = some (.int .u64 d.many) := h.r98.tail.one
theorem KAt.rsig (h : KAt w g d v) : w.cell? ⟨g, 134, none⟩ = some (.string d.right.sig) := (j6v (Cells.left h.r98.tail.tail) h.ok.right).tail.tail.one
theorem KAt.sig (h : KAt w g d v) : w.cell? ⟨g, 135, none⟩ = some (.string d.sig) := (Cells.right (n := 35) h.r98.tail.tail (q1j h.ok.right)).one
end
theorem blkSize : (Tryz.prog.info? 51).map (·.size) = some 137 := by kernel_rfl
theorem blkZero : (Tryz.prog.info? 51).bind (·.zero) = some (blkV hd0 nilD) := by kernel_rfl
theorem blkBuilt0 : Tryz.prog.built 51 [] = some (blkCs hd0 nilD).toArray := by kernel_rfl
theorem blkBuilt2 (a : Option Addr) (n c : Nat) : Tryz.prog.built 51 [(1, .slice a n c)] = some (blkCs hd0 (.slice a n c)).toArray := by kernel_rfl
theorem blkBuilt1 {d : Hd} (h : d.Ok) : Tryz.prog.built 51 [(0, hdV d)] = some (blkCs d nilD).toArray := by
 obtain ⟨slot, number, prev, pool, body, size, many, ⟨hot, counter, start, rsig⟩, sig⟩ := d
 obtain ⟨a0, a1, a2, a3, a4, a5, a6, a7, a8, a9, a10, a11, a12, a13, a14, a15, a16, a17, a18, a19, a20, a21, a22, a23, a24, a25, a26, a27, a28, a29, a30, a31, rfl⟩ := q5n h.prev
 obtain ⟨b0, b1, b2, b3, b4, b5, b6, b7, b8, b9, b10, b11, b12, b13, b14, b15, b16, b17, b18, b19, b20, b21, b22, b23, b24, b25, b26, b27, b28, b29, b30, b31, rfl⟩ := q5n h.pool
 obtain ⟨c0, c1, c2, c3, c4, c5, c6, c7, c8, c9, c10, c11, c12, c13, c14, c15, c16, c17, c18, c19, c20, c21, c22, c23, c24, c25, c26, c27, c28, c29, c30, c31, rfl⟩ := q5n h.body
 obtain ⟨d0, d1, d2, d3, d4, d5, d6, d7, d8, d9, d10, d11, d12, d13, d14, d15, d16, d17, d18, d19, d20, d21, d22, d23, d24, d25, d26, d27, d28, d29, d30, d31, rfl⟩ := q5n h.right.hot
 kernel_rfl
section
variable {ops : Array Oper} {rest : List Oper} {o : Oper} {a : Act} {w w0 : World} {Q : Exit → Act → World → Prop} {K : Act → Prop} {d e : Hd} {v u : Value} {g : Nat}
theorem q1h (hw : Region.wanted o (yielded ops a.tmps) = true) (x : Operand) (ho : o.op = .box 51 x) (hx : a.eval x = blkV d v) (hr : d.Ok) (hv : v.oneCell' = true)
  (hk : ∀ w2 g, w.heap.size ≤ g → KAt w2 g d v → Below w.heap.size w w2 → wpList Tryz.prog ops Q rest (a.put o.dst (.pointer (some ⟨g, 0, none⟩))) w2) : wpList Tryz.prog ops Q (o :: rest) a w :=
 q4j hw 51 x ho hx (cs := blkCs d v) (by simp [blkV, Value.cells]) (fun w2 g hg h hb => hk w2 g hg ⟨hr, hv, h⟩ hb)
theorem q0z (hw : Region.wanted o (yielded ops a.tmps) = true) (ho : o.op = .alloc 51)
  (hk : ∀ w2 g, w.heap.size ≤ g → KAt w2 g hd0 nilD → Below w.heap.size w w2 → wpList Tryz.prog ops Q rest (a.put o.dst (.pointer (some ⟨g, 0, none⟩))) w2) : wpList Tryz.prog ops Q (o :: rest) a w :=
 q5e hw 51 ho blkZero (cs := blkCs hd0 nilD) (by simp [blkV, Value.cells]) (fun w2 g hg h hb => hk w2 g hg ⟨q4w, rfl, h⟩ hb)
theorem q0j (hgd : o.guard = none) (x y : Operand) (ho : o.op = .store 51 x y) (hx : a.eval x = .pointer (some ⟨g, 0, none⟩)) (hy : a.eval y = blkV d v) (hr : d.Ok) (hv : v.oneCell' = true) (h : KAt w g e u)
  (hk : ∀ w2, KAt w2 g d v → Touch (fun b => b = g) w w2 → wpList Tryz.prog ops Q rest (a.put o.dst undef) w2) : wpList Tryz.prog ops Q (o :: rest) a w :=
 q5t hgd 51 x y ho hx hy h.arr (by rw [q2p v hr]; exact blkSize) (by rw [q2p v hr, q2p u h.ok]) (x7p d hv) (fun w2 ha ht => hk w2 ⟨hr, hv, ha⟩ ht)
theorem q0v (hw : Region.wanted o (yielded ops a.tmps) = true) (x : Operand) (ho : o.op = .load 51 x) (hx : a.eval x = .pointer (some ⟨g, 0, none⟩)) (h : KAt w g d v)
  (hk : wpList Tryz.prog ops Q rest (a.put o.dst (blkV d v)) w) : wpList Tryz.prog ops Q (o :: rest) a w :=
 q1t hw 51 x ho hx h.cells _ Tryz.underlying51 rfl (by rw [q2p v h.ok]; exact blkSize) hk
theorem q1y (hw : Region.wanted o (yielded ops a.tmps) = true) (x : Operand) (ho : o.op = .load 49 x) (hx : a.eval x = .pointer (some ⟨g, 0, none⟩)) (h : KAt w g d v)
  (hk : wpList Tryz.prog ops Q rest (a.put o.dst (hdV d)) w) : wpList Tryz.prog ops Q (o :: rest) a w :=
 q1t hw 49 x ho hx h.hd _ Tryz.underlying49 rfl (by rw [q0t h.ok]; exact hdSize) hk
theorem slDsSize : (Tryz.prog.info? 42).map (·.size) = some 1 := by kernel_rfl
theorem blkDsSet {d : Hd} (h : d.Ok) (v u : Value) : (blkCs d v).set 136 u = blkCs d u := by
 have e := q0t h
 unfold blkCs
 simp [List.set_append, e]
theorem j4x (hgd : o.guard = none) (x y : Operand) (ho : o.op = .store 42 x y) (hx : a.eval x = .pointer (some ⟨g, 136, none⟩)) (hy : a.eval y = u) (hc : u.cells = #[u]) (hu : u.oneCell' = true) (h : KAt w g d v)
  (hk : ∀ w2, KAt w2 g d u → Touch (fun b => b = g) w w2 → wpList Tryz.prog ops Q rest (a.put o.dst undef) w2) : wpList Tryz.prog ops Q (o :: rest) a w :=
 q0i hgd 42 x y ho hx hy h.arr (by rw [q2p v h.ok]; omega) slDsSize hc hu (fun w2 ha ht => hk w2 ⟨h.ok, hu, by rw [blkDsSet h.ok] at ha; exact ha⟩ ht)
theorem q3w (hw : Region.wanted o (yielded ops a.tmps) = true) (x : Operand) (ho : o.op = .load 29 x) {b k : Nat} {v1 v2 v3 v4 v5 : Value} {f s t : Nat} (hx : a.eval x = .pointer (some ⟨b, k, none⟩)) (h : Cells w b k (deedCs v1 v2 v3 v4 v5 f s t))
  (hk : wpList Tryz.prog ops Q rest (a.put o.dst (deedV v1 v2 v3 v4 v5 f s t)) w) : wpList Tryz.prog ops Q (o :: rest) a w :=
 q1t hw 29 x ho hx h _ Tryz.underlying29 rfl deedSize hk
theorem q6q (x : Operand) (ho : o.op = .load 29 x) {b k : Nat} {v1 v2 v3 v4 v5 : Value} {f s t : Nat} (hx : a.eval x = .pointer (some ⟨b, k, none⟩)) (h : Cells w0 b k (deedCs v1 v2 v3 v4 v5 f s t)) (hk : K (a.put o.dst (deedV v1 v2 v3 v4 v5 f s t))) :
  o.quiet Tryz.prog a (fun w' => ∃ s : Since w0, w' = s.w) K := q2h 29 x ho hx h _ Tryz.underlying29 rfl deedSize hk
end
theorem q4m {fn : Func} {q u : Tmp} (hr : fn.results = #[.cell q 51, .tmp u]) (tmps : Array Value) (w : World) {g : Nat} {d : Hd} {x : Value} (v : Value) (hp : tmps.getD q undef = .pointer (some ⟨g, 0, none⟩)) (hu : tmps.getD u undef = v) (h : KAt w g d x) :
  (results fn tmps).run Tryz.prog w = .ok (.tuple #[blkV d x, v]) w :=
 q5d hr tmps w g 51 (blkCs d x).toArray (0, 0) _ v hp hu h.arr Tryz.underlying51 rfl (by rw [List.size_toArray, q2p x h.ok]; exact blkSize)
theorem j9s {fn : Func} {q : Tmp} (hr : fn.results = #[.cell q 51]) (tmps : Array Value) (w : World) {g : Nat} {d : Hd} {x : Value} (hp : tmps.getD q undef = .pointer (some ⟨g, 0, none⟩)) (h : KAt w g d x) :
  (results fn tmps).run Tryz.prog w = .ok (blkV d x) w :=
 results_cell_row hr tmps w g 51 (blkCs d x).toArray (0, 0) _ hp h.arr Tryz.underlying51 rfl (by rw [List.size_toArray, q2p x h.ok]; exact blkSize)
/-- v is a slice of the deeds l. -/
def DsIs (w : World) (v : Value) (l : List Deed) : Prop := ∃ vs : List (List Value), Sl w v 8 vs ∧ vs.length = l.length ∧ ∀ (i : Nat) (cs : List Value) (d : Deed), vs[i]? = some cs → l[i]? = some d → DeedIs w (.agg cs.toArray) d
theorem DsIs.later {w w' : World} {v : Value} {l : List Deed} (h : DsIs w v l) (hb : Below w.heap.size w w') : DsIs w' v l := by
 obtain ⟨vs, h1, h2, h3⟩ := h
 exact ⟨vs, h1.later hb, h2, fun i cs d hi hd => (h3 i cs d hi hd).later hb⟩
theorem DsIs.shape {w : World} {v : Value} {l : List Deed} (h : DsIs w v l) : ∃ a c, v = .slice a l.length c := by
 obtain ⟨vs, h1, h2, _⟩ := h
 obtain ⟨a, c, he, _⟩ := h1
 exact ⟨a, c, by rw [he, h2]⟩
theorem DsIs.ok {w : World} {v : Value} {l : List Deed} (h : DsIs w v l) : ∀ d ∈ l, d.Ok := by
 obtain ⟨vs, _, h2, h3⟩ := h
 intro d hd
 obtain ⟨i, hi, rfl⟩ := List.mem_iff_getElem.1 hd
 obtain ⟨_, _, _, _, _, _, _, _, _, _, _, ok⟩ := h3 i _ _ (List.getElem?_eq_getElem (by omega)) (List.getElem?_eq_getElem hi)
 exact ok
theorem DsIs.block {w : World} {v : Value} {l : List Deed} (h : DsIs w v l) (h0 : 0 < l.length) :
  ∃ b k c, v = .slice (some ⟨b, k, none⟩) l.length c ∧ b < w.heap.size ∧ ∀ i d, l[i]? = some d → ∃ v1 v2 v3 v4 v5, Cells w b (k + i * 8) (deedCs v1 v2 v3 v4 v5 d.fee d.frm d.til) ∧ DeedIs w (deedV v1 v2 v3 v4 v5 d.fee d.frm d.til) d ∧ v1.oneCell' = true ∧ v2.oneCell' = true ∧ v3.oneCell' = true ∧ v4.oneCell' = true ∧ v5.oneCell' = true := by
 obtain ⟨vs, h1, h2, h3⟩ := h
 rw [← List.map_id vs] at h1
 obtain ⟨b, k, c, he, hb, hc⟩ := Sl.block (f := id) h1 (by omega)
 refine ⟨b, k, c, by rw [he, h2], hb, fun i d hd => ?_⟩
 have hi : i < vs.length := by have := (List.getElem?_eq_some_iff.1 hd).1; omega
 have hv := List.getElem?_eq_getElem hi
 have hD := h3 i _ d hv hd
 have hC := hc i _ hv
 have hD' := hD
 obtain ⟨v1, v2, v3, v4, v5, e, s1, s2, s3, s4, s5, ok⟩ := hD
 have e2 : vs[i] = deedCs v1 v2 v3 v4 v5 d.fee d.frm d.til := by
  unfold deedV at e
  simpa using e
 refine ⟨v1, v2, v3, v4, v5, ?_, ?_, s1.one', s2.one', s3.one', s4.one', s5.one'⟩
 ·rw [← e2]; exact hC
 ·rw [← e]; exact hD'
theorem q3z (w : World) : DsIs w nilD [] := ⟨[], ⟨none, 0, rfl, by simp, by decide, by simp, by simp, by simp⟩, rfl, by simp⟩
/-- v is the block b. -/
def BlkIs (w : World) (v : Value) (b : Blk) : Prop := ∃ u, v = blkV b.head u ∧ DsIs w u b.deeds ∧ b.head.Ok
theorem BlkIs.later {w w' : World} {v : Value} {b : Blk} (h : BlkIs w v b) (hb : Below w.heap.size w w') : BlkIs w' v b := by
 obtain ⟨u, h1, h2, h3⟩ := h
 exact ⟨u, h1, h2.later hb, h3⟩
theorem BlkIs.ok {w : World} {v : Value} {b : Blk} (h : BlkIs w v b) : b.Ok := by
 obtain ⟨u, _, h2, h3⟩ := h
 exact ⟨h3, h2.ok⟩
theorem elOf {P : Program} {t e sz by' : Nat} (ht : P.underlying t = some (.slice e)) (hz : 0 < sz) (h : (P.info? e).map (fun i => (i.size, i.bytes, i.zero.map (·.cells.size))) = some (sz, by', some sz)) : ElemOf P t e sz by' := by
 obtain ⟨i, hi, h1⟩ := Option.map_eq_some_iff.1 h
 simp only [Prod.mk.injEq] at h1
 obtain ⟨h2, h3, h4⟩ := h1
 obtain ⟨z, hz', h5⟩ := Option.map_eq_some_iff.1 h4
 exact ⟨ht, hz, i, z, hi, hz', h2, h3, h5⟩
theorem inElem : ElemOf Tryz.prog 22 80 33 40 := elOf Tryz.underlying22 (by decide) (by kernel_rfl)
theorem outElem : ElemOf Tryz.prog 23 84 65 72 := elOf Tryz.underlying23 (by decide) (by kernel_rfl)
theorem certElem : ElemOf Tryz.prog 25 87 68 96 := elOf Tryz.underlying25 (by decide) (by kernel_rfl)
theorem payElem : ElemOf Tryz.prog 26 89 33 40 := elOf Tryz.underlying26 (by decide) (by kernel_rfl)
theorem witElem : ElemOf Tryz.prog 27 74 33 48 := elOf Tryz.underlying27 (by decide) (by kernel_rfl)
theorem OwnR.off {w : World} {B e sz g : Nat} {v : Value} {els : List (List Value)} {X : List Nat} (h : OwnR w B e sz v els X) (hg : g < B) : ¬ v.ownBlock = some g := fun hs => by
 have := (World.ownsRow.lt h.1 g hs).1; omega
theorem OwnR.tg {w w' : World} {B e sz g : Nat} {v : Value} {els : List (List Value)} {X : List Nat} (h : OwnR w B e sz v els X) (ht : Touch (fun b => b = g) w w') (hg : g < B) : OwnR w' B e sz v els X :=
 ⟨q2m h.1 ht (fun b hb hs => h.off hg (by have e : b = g := hs; rw [e] at hb; exact hb)), h.2⟩
theorem OwnR.ge {w : World} {B e sz : Nat} {v : Value} {els : List (List Value)} {X : List Nat} (h : OwnR w B e sz v els X) : ∀ b, v.ownBlock = some b → B ≤ b := fun b hb => (World.ownsRow.lt h.1 b hb).1
theorem q6u {α : Type} {P : α → Prop} {l : List α} {x : α} (h : ∀ y ∈ l, P y) (hx : P x) : ∀ y ∈ l ++ [x], P y := fun y hy => by
 rcases List.mem_append.1 hy with h1 | h1
 ·exact h y h1
 ·simp at h1; subst h1; exact hx
def nilS : Value := .slice none 0 0
theorem deedZero : (Tryz.prog.info? 29).bind (·.zero) = some (deedV nilS nilS nilS nilS nilS 0 0 0) := by kernel_rfl
theorem deedBuilt0 : Tryz.prog.built 29 [] = some (deedCs nilS nilS nilS nilS nilS 0 0 0).toArray := by kernel_rfl
section
variable {ops : Array Oper} {rest : List Oper} {o : Oper} {a : Act} {w w0 : World} {Q : Exit → Act → World → Prop} {K : Act → Prop} {v1 v2 v3 v4 v5 u1 u2 u3 u4 u5 : Value} {f s t i j k : Nat}
theorem q1x (hw : Region.wanted o (yielded ops a.tmps) = true) (ho : o.op = .alloc 29)
  (hk : ∀ w2 g, w.heap.size ≤ g → DAt w2 g nilS nilS nilS nilS nilS 0 0 0 → Below w.heap.size w w2 → wpList Tryz.prog ops Q rest (a.put o.dst (.pointer (some ⟨g, 0, none⟩))) w2) : wpList Tryz.prog ops Q (o :: rest) a w :=
 q5e hw 29 ho deedZero (cs := deedCs nilS nilS nilS nilS nilS 0 0 0) (by simp [deedV, Value.cells]) (fun w2 g hg h hb => hk w2 g hg ⟨rfl, rfl, rfl, rfl, rfl, h⟩ hb)
theorem q1b (hgd : o.guard = none) (x y : Operand) (ho : o.op = .store 29 x y) {g : Nat} (hx : a.eval x = .pointer (some ⟨g, 0, none⟩)) (hy : a.eval y = deedV v1 v2 v3 v4 v5 f s t) (o1 : v1.oneCell' = true) (o2 : v2.oneCell' = true) (o3 : v3.oneCell' = true) (o4 : v4.oneCell' = true) (o5 : v5.oneCell' = true) (h : DAt w g u1 u2 u3 u4 u5 i j k)
  (hk : ∀ w2, DAt w2 g v1 v2 v3 v4 v5 f s t → Touch (fun b => b = g) w w2 → wpList Tryz.prog ops Q rest (a.put o.dst undef) w2) : wpList Tryz.prog ops Q (o :: rest) a w :=
 q5t hgd 29 x y ho hx hy h.arr deedSize rfl (by
  intro v hv
  simp only [deedCs, List.mem_cons, List.not_mem_nil, or_false] at hv
  rcases hv with rfl | rfl | rfl | rfl | rfl | rfl | rfl | rfl <;> first | assumption | rfl) (fun w2 ha ht => hk w2 ⟨o1, o2, o3, o4, o5, ha⟩ ht)
theorem set1 {ty : TypeId} (hi : (Tryz.prog.info? ty).map (·.size) = some 1) (hgd : o.guard = none) (x y : Operand) (ho : o.op = .store ty x y) {g n : Nat} {v : Value} (hx : a.eval x = .pointer (some ⟨g, n, none⟩)) (hy : a.eval y = v) (h : DAt w g v1 v2 v3 v4 v5 f s t) (hn : n < 8) (hc : v.cells = #[v]) (hv : v.oneCell' = true)
  (hk : ∀ w2, Arr w2 g 29 ((deedCs v1 v2 v3 v4 v5 f s t).set n v) → Touch (fun b => b = g) w w2 → wpList Tryz.prog ops Q rest (a.put o.dst undef) w2) : wpList Tryz.prog ops Q (o :: rest) a w :=
 q0i hgd ty x y ho hx hy h.arr hn hi hc hv hk
theorem slSz1 : (Tryz.prog.info? 22).map (·.size) = some 1 := by kernel_rfl
theorem slSz2 : (Tryz.prog.info? 23).map (·.size) = some 1 := by kernel_rfl
theorem slSz3 : (Tryz.prog.info? 25).map (·.size) = some 1 := by kernel_rfl
theorem slSz4 : (Tryz.prog.info? 26).map (·.size) = some 1 := by kernel_rfl
theorem slSz5 : (Tryz.prog.info? 27).map (·.size) = some 1 := by kernel_rfl
theorem j1r (hgd : o.guard = none) (x y : Operand) (ho : o.op = .store 22 x y) {g : Nat} {v : Value} (hx : a.eval x = .pointer (some ⟨g, 0, none⟩)) (hy : a.eval y = v) (hc : v.cells = #[v]) (hv : v.oneCell' = true) (h : DAt w g v1 v2 v3 v4 v5 f s t)
  (hk : ∀ w2, DAt w2 g v v2 v3 v4 v5 f s t → Touch (fun b => b = g) w w2 → wpList Tryz.prog ops Q rest (a.put o.dst undef) w2) : wpList Tryz.prog ops Q (o :: rest) a w :=
 set1 slSz1 hgd x y ho hx hy h (by decide) hc hv (fun w2 ha ht => hk w2 ⟨hv, h.o2, h.o3, h.o4, h.o5, ha⟩ ht)
theorem q9t (hgd : o.guard = none) (x y : Operand) (ho : o.op = .store 23 x y) {g : Nat} {v : Value} (hx : a.eval x = .pointer (some ⟨g, 1, none⟩)) (hy : a.eval y = v) (hc : v.cells = #[v]) (hv : v.oneCell' = true) (h : DAt w g v1 v2 v3 v4 v5 f s t)
  (hk : ∀ w2, DAt w2 g v1 v v3 v4 v5 f s t → Touch (fun b => b = g) w w2 → wpList Tryz.prog ops Q rest (a.put o.dst undef) w2) : wpList Tryz.prog ops Q (o :: rest) a w :=
 set1 slSz2 hgd x y ho hx hy h (by decide) hc hv (fun w2 ha ht => hk w2 ⟨h.o1, hv, h.o3, h.o4, h.o5, ha⟩ ht)
theorem q8u (hgd : o.guard = none) (x y : Operand) (ho : o.op = .store 25 x y) {g : Nat} {v : Value} (hx : a.eval x = .pointer (some ⟨g, 5, none⟩)) (hy : a.eval y = v) (hc : v.cells = #[v]) (hv : v.oneCell' = true) (h : DAt w g v1 v2 v3 v4 v5 f s t)
  (hk : ∀ w2, DAt w2 g v1 v2 v v4 v5 f s t → Touch (fun b => b = g) w w2 → wpList Tryz.prog ops Q rest (a.put o.dst undef) w2) : wpList Tryz.prog ops Q (o :: rest) a w :=
 set1 slSz3 hgd x y ho hx hy h (by decide) hc hv (fun w2 ha ht => hk w2 ⟨h.o1, h.o2, hv, h.o4, h.o5, ha⟩ ht)
theorem q9x (hgd : o.guard = none) (x y : Operand) (ho : o.op = .store 26 x y) {g : Nat} {v : Value} (hx : a.eval x = .pointer (some ⟨g, 6, none⟩)) (hy : a.eval y = v) (hc : v.cells = #[v]) (hv : v.oneCell' = true) (h : DAt w g v1 v2 v3 v4 v5 f s t)
  (hk : ∀ w2, DAt w2 g v1 v2 v3 v v5 f s t → Touch (fun b => b = g) w w2 → wpList Tryz.prog ops Q rest (a.put o.dst undef) w2) : wpList Tryz.prog ops Q (o :: rest) a w :=
 set1 slSz4 hgd x y ho hx hy h (by decide) hc hv (fun w2 ha ht => hk w2 ⟨h.o1, h.o2, h.o3, hv, h.o5, ha⟩ ht)
theorem j0a (hgd : o.guard = none) (x y : Operand) (ho : o.op = .store 27 x y) {g : Nat} {v : Value} (hx : a.eval x = .pointer (some ⟨g, 7, none⟩)) (hy : a.eval y = v) (hc : v.cells = #[v]) (hv : v.oneCell' = true) (h : DAt w g v1 v2 v3 v4 v5 f s t)
  (hk : ∀ w2, DAt w2 g v1 v2 v3 v4 v f s t → Touch (fun b => b = g) w w2 → wpList Tryz.prog ops Q rest (a.put o.dst undef) w2) : wpList Tryz.prog ops Q (o :: rest) a w :=
 set1 slSz5 hgd x y ho hx hy h (by decide) hc hv (fun w2 ha ht => hk w2 ⟨h.o1, h.o2, h.o3, h.o4, hv, ha⟩ ht)
theorem j1t (hgd : o.guard = none) (x y : Operand) (ho : o.op = .store 24 x y) {g n : Nat} (hx : a.eval x = .pointer (some ⟨g, 2, none⟩)) (hy : a.eval y = .int .u64 n) (h : DAt w g v1 v2 v3 v4 v5 f s t)
  (hk : ∀ w2, DAt w2 g v1 v2 v3 v4 v5 n s t → Touch (fun b => b = g) w w2 → wpList Tryz.prog ops Q rest (a.put o.dst undef) w2) : wpList Tryz.prog ops Q (o :: rest) a w :=
 set1 u64Sz hgd x y ho hx hy h (by decide) rfl rfl (fun w2 ha ht => hk w2 ⟨h.o1, h.o2, h.o3, h.o4, h.o5, ha⟩ ht)
theorem j1q (hgd : o.guard = none) (x y : Operand) (ho : o.op = .store 24 x y) {g n : Nat} (hx : a.eval x = .pointer (some ⟨g, 3, none⟩)) (hy : a.eval y = .int .u64 n) (h : DAt w g v1 v2 v3 v4 v5 f s t)
  (hk : ∀ w2, DAt w2 g v1 v2 v3 v4 v5 f n t → Touch (fun b => b = g) w w2 → wpList Tryz.prog ops Q rest (a.put o.dst undef) w2) : wpList Tryz.prog ops Q (o :: rest) a w :=
 set1 u64Sz hgd x y ho hx hy h (by decide) rfl rfl (fun w2 ha ht => hk w2 ⟨h.o1, h.o2, h.o3, h.o4, h.o5, ha⟩ ht)
theorem j1u (hgd : o.guard = none) (x y : Operand) (ho : o.op = .store 24 x y) {g n : Nat} (hx : a.eval x = .pointer (some ⟨g, 4, none⟩)) (hy : a.eval y = .int .u64 n) (h : DAt w g v1 v2 v3 v4 v5 f s t)
  (hk : ∀ w2, DAt w2 g v1 v2 v3 v4 v5 f s n → Touch (fun b => b = g) w w2 → wpList Tryz.prog ops Q rest (a.put o.dst undef) w2) : wpList Tryz.prog ops Q (o :: rest) a w :=
 set1 u64Sz hgd x y ho hx hy h (by decide) rfl rfl (fun w2 ha ht => hk w2 ⟨h.o1, h.o2, h.o3, h.o4, h.o5, ha⟩ ht)
end
theorem q3q {fn : Func} {q u : Tmp} (hr : fn.results = #[.cell q 29, .tmp u]) (tmps : Array Value) (w : World) {g : Nat} {v1 v2 v3 v4 v5 : Value} {f s t : Nat} (v : Value) (hp : tmps.getD q undef = .pointer (some ⟨g, 0, none⟩)) (hu : tmps.getD u undef = v) (h : DAt w g v1 v2 v3 v4 v5 f s t) :
  (results fn tmps).run Tryz.prog w = .ok (.tuple #[deedV v1 v2 v3 v4 v5 f s t, v]) w :=
 q5d hr tmps w g 29 (deedCs v1 v2 v3 v4 v5 f s t).toArray (0, 0) _ v hp hu h.arr Tryz.underlying29 rfl deedSize
/-- A deed whose parts are one's own, from B on. -/
def DeedOwn (w : World) (B : Nat) (v : Value) (d : Deed) : Prop := ∃ v1 v2 v3 v4 v5, v = deedV v1 v2 v3 v4 v5 d.fee d.frm d.til ∧ OwnR w B 80 33 v1 (d.ins.map inCs) [] ∧ OwnR w B 84 65 v2 (d.outs.map outCs) [] ∧ OwnR w B 87 68 v3 (d.certs.map certCs) [] ∧ OwnR w B 89 33 v4 (d.pays.map payCs) [] ∧ OwnR w B 74 33 v5 (d.wits.map witCs) [] ∧ d.Ok
theorem DeedOwn.is {w : World} {B : Nat} {v : Value} {d : Deed} (h : DeedOwn w B v d) : DeedIs w v d := by
 obtain ⟨v1, v2, v3, v4, v5, h0, h1, h2, h3, h4, h5, h6⟩ := h
 exact ⟨v1, v2, v3, v4, v5, h0, h1.sl, h2.sl, h3.sl, h4.sl, h5.sl, h6⟩
theorem DeedOwn.later {w w' : World} {B : Nat} {v : Value} {d : Deed} (h : DeedOwn w B v d) (hb : Below w.heap.size w w') : DeedOwn w' B v d := by
 obtain ⟨v1, v2, v3, v4, v5, h0, h1, h2, h3, h4, h5, h6⟩ := h
 exact ⟨v1, v2, v3, v4, v5, h0, h1.later hb, h2.later hb, h3.later hb, h4.later hb, h5.later hb, h6⟩
theorem DeedOwn.tt {w w' : World} {B g : Nat} {v : Value} {d : Deed} (h : DeedOwn w B v d) (ht : Touch (fun b => b = g) w w') (hg : g < B) : DeedOwn w' B v d := by
 obtain ⟨v1, v2, v3, v4, v5, h0, h1, h2, h3, h4, h5, h6⟩ := h
 exact ⟨v1, v2, v3, v4, v5, h0, h1.tg ht hg, h2.tg ht hg, h3.tg ht hg, h4.tg ht hg, h5.tg ht hg, h6⟩
theorem DeedOwn.nil (w : World) (B : Nat) : DeedOwn w B (deedV nilS nilS nilS nilS nilS 0 0 0) deed0 := ⟨nilS, nilS, nilS, nilS, nilS, rfl, OwnR.nil _ _ _ _, OwnR.nil _ _ _ _, OwnR.nil _ _ _ _, OwnR.nil _ _ _ _, OwnR.nil _ _ _ _, x8p⟩
theorem DeedIs.ok {w : World} {v : Value} {d : Deed} (h : DeedIs w v d) : d.Ok := by obtain ⟨_, _, _, _, _, _, _, _, _, _, _, ok⟩ := h; exact ok
end Go.Proofs.YtbbfnpfkbbpjgaaGreat
