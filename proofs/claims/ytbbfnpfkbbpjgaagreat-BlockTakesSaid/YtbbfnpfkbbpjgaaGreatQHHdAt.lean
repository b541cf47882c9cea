/- Rights and heads in memory; the steps of a walk that make, load and fill them. -/
import Derived.Test.YtbbfnpfkbbpjgaaGreatQHStep
import Derived.Test.YtbbfnpfkbbpjgaaGreatQHMOnce
namespace Go.Proofs.YtbbfnpfkbbpjgaaGreat
open Go.RowKit Go.Lib
set_option linter.unusedVariables false
set_option linter.unusedSimpArgs false
set_option maxRecDepth 100000
set_option maxHeartbeats 4000000
/-- A right. -/
structure Rt where
 hot : List UInt8
 counter : Nat
 start : Nat
 sig : ByteArray
/-- A head. -/
structure Hd where
 slot : Nat
 number : Nat
 prev : List UInt8
 pool : List UInt8
 body : List UInt8
 size : Nat
 many : Nat
 right : Rt
 sig : ByteArray
structure Rt.Ok (r : Rt) : Prop where
 hot : r.hot.length = 32
 counter : r.counter < 18446744073709551616
 start : r.start < 18446744073709551616
structure Hd.Ok (h : Hd) : Prop where
 slot : h.slot < 18446744073709551616
 number : h.number < 18446744073709551616
 prev : h.prev.length = 32
 pool : h.pool.length = 32
 body : h.body.length = 32
 size : h.size < 18446744073709551616
 many : h.many < 18446744073709551616
 right : h.right.Ok
def rtCs (r : Rt) : List Value := bvs r.hot ++ [.int .u64 r.counter, .int .u64 r.start, .string r.sig]
def rtV (r : Rt) : Value := .agg (rtCs r).toArray
def hdCs (h : Hd) : List Value := .int .u64 h.slot :: .int .u64 h.number :: (bvs h.prev ++ (bvs h.pool ++ (bvs h.body ++ (.int .u64 h.size :: .int .u64 h.many :: (rtCs h.right ++ [.string h.sig])))))
def hdV (h : Hd) : Value := .agg (hdCs h).toArray
theorem q1j {r : Rt} (h : r.Ok) : (rtCs r).length = 35 := by unfold rtCs; simp [q0c, h.hot]
theorem q0t {h : Hd} (k : h.Ok) : (hdCs h).length = 136 := by unfold hdCs; simp [q0c, k.prev, k.pool, k.body, q1j k.right]
theorem x1f (r : Rt) : ∀ v ∈ rtCs r, v.oneCell' = true := by
 intro v hv
 unfold rtCs at hv
 simp only [List.mem_cons, List.mem_append, List.not_mem_nil, or_false] at hv
 rcases hv with hv | rfl | rfl | rfl
 ·exact List.all_eq_true.1 (q1f r.hot) v hv
 ·rfl
 ·rfl
 ·rfl
theorem x1c (h : Hd) : ∀ v ∈ hdCs h, v.oneCell' = true := by
 intro v hv
 unfold hdCs at hv
 simp only [List.mem_cons, List.mem_append, List.not_mem_nil, or_false] at hv
 rcases hv with rfl | rfl | hv | hv | hv | rfl | rfl | hv | rfl
 ·rfl
 ·rfl
 ·exact List.all_eq_true.1 (q1f h.prev) v hv
 ·exact List.all_eq_true.1 (q1f h.pool) v hv
 ·exact List.all_eq_true.1 (q1f h.body) v hv
 ·rfl
 ·rfl
 ·exact x1f _ v hv
 ·rfl
structure HdAt (w : World) (g : Nat) (h : Hd) : Prop where
 ok : h.Ok
 arr : Arr w g 49 (hdCs h)
section
variable {w w' : World} {g : Nat} {r : Rt}
theorem rt_hot {o : Nat} (h : Cells w g o (rtCs r)) : Cells w g o (bvs r.hot) := Cells.left h
theorem j6v {o : Nat} (h : Cells w g o (rtCs r)) (k : r.Ok) : Cells w g (o + 32) [.int .u64 r.counter, .int .u64 r.start, .string r.sig] := Cells.right (n := 32) h (by rw [q0c, k.hot])
variable {d : Hd}
theorem HdAt.lt (h : HdAt w g d) : g < w.heap.size := Arr.lt h.arr
theorem HdAt.later (h : HdAt w g d) (hb : Below w.heap.size w w') : HdAt w' g d := ⟨h.ok, h.arr.later hb⟩
theorem HdAt.below {B : Nat} (h : HdAt w g d) (hb : Below B w w') (hB : g < B) : HdAt w' g d := ⟨h.ok, Arr.below h.arr hb hB⟩
theorem HdAt.touch {S : Nat → Prop} (h : HdAt w g d) (ht : Touch S w w') (hS : ¬ S g) : HdAt w' g d := ⟨h.ok, h.arr.touch ht hS⟩
theorem HdAt.tt {g' : Nat} (h : HdAt w g d) (ht : Touch (fun x => x = g') w w') (hS : ¬ g = g' := by omega) : HdAt w' g d := h.touch ht hS
theorem HdAt.cells (h : HdAt w g d) : Cells w g 0 (hdCs d) := Cells.arr h.arr
theorem HdAt.r34 (h : HdAt w g d) : Cells w g 34 (bvs d.pool ++ (bvs d.body ++ (.int .u64 d.size :: .int .u64 d.many :: (rtCs d.right ++ [.string d.sig])))) := Cells.right (n := 32) h.cells.tail.tail (by rw [q0c, h.ok.prev])
theorem HdAt.r66 (h : HdAt w g d) : Cells w g 66 (bvs d.body ++ (.int .u64 d.size :: .int .u64 d.many :: (rtCs d.right ++ [.string d.sig]))) := Cells.right (n := 32) h.r34 (by rw [q0c, h.ok.pool])
theorem HdAt.r98 (h : HdAt w g d) : Cells w g 98 (.int .u64 d.size :: .int .u64 d.many :: (rtCs d.right ++ [.string d.sig])) := Cells.right (n := 32) h.r66 (by rw [q0c, h.ok.body])
theorem HdAt.r100 (h : HdAt w g d) : Cells w g 100 (rtCs d.right ++ [.string d.sig]) := h.r98.tail.tail
theorem HdAt.c0 (h : HdAt w g d) : w.cell? ⟨g, 0, none⟩ = some (.int .u64 d.slot) := h.cells.one
theorem HdAt.c1 (h : HdAt w g d) : w.cell? ⟨g, 1, none⟩ = some (.int .u64 d.number) := h.cells.tail.one
theorem HdAt.c2 (h : HdAt w g d) : Cells w g 2 (bvs d.prev) := Cells.left h.cells.tail.tail
theorem HdAt.c34 (h : HdAt w g d) : Cells w g 34 (bvs d.pool) := Cells.left h.r34
theorem HdAt.c66 (h : HdAt w g d) : Cells w g 66 (bvs d.body) := Cells.left h.r66
theorem HdAt.c98 (h : HdAt w g d) : w.cell? ⟨g, 98, none⟩ = some (.int .u64 d.size) := h.r98.one
theorem HdAt.c99 (h : HdAt w g d) : w.cell? ⟨g, 99, none⟩ = some (.int .u64 d.many) := h.r98.tail.one
theorem HdAt.c100 (h : HdAt w g d) : Cells w g 100 (rtCs d.right) := Cells.left h.r100
theorem HdAt.ch (h : HdAt w g d) : Cells w g 100 (bvs d.right.hot) := rt_hot h.c100
theorem HdAt.c132 (h : HdAt w g d) : w.cell? ⟨g, 132, none⟩ = some (.int .u64 d.right.counter) := (j6v h.c100 h.ok.right).one
theorem HdAt.c133 (h : HdAt w g d) : w.cell? ⟨g, 133, none⟩ = some (.int .u64 d.right.start) := (j6v h.c100 h.ok.right).tail.one
theorem HdAt.c134 (h : HdAt w g d) : w.cell? ⟨g, 134, none⟩ = some (.string d.right.sig) := (j6v h.c100 h.ok.right).tail.tail.one
theorem HdAt.c135 (h : HdAt w g d) : w.cell? ⟨g, 135, none⟩ = some (.string d.sig) := (Cells.right (n := 35) h.r100 (q1j h.ok.right)).one
end
theorem rtSize : (Tryz.prog.info? 47).map (·.size) = some 35 := by kernel_rfl
theorem hdSize : (Tryz.prog.info? 49).map (·.size) = some 136 := by kernel_rfl
theorem strSize : (Tryz.prog.info? 9).map (·.size) = some 1 := by kernel_rfl
def rt0 : Rt := ⟨zero32, 0, 0, ByteArray.empty⟩
def hd0 : Hd := ⟨0, 0, zero32, zero32, zero32, 0, 0, rt0, ByteArray.empty⟩
theorem z1j : rt0.Ok := ⟨rfl, by decide, by decide⟩
theorem q4w : hd0.Ok := ⟨by decide, by decide, rfl, rfl, rfl, by decide, by decide, z1j⟩
theorem hdZero : (Tryz.prog.info? 49).bind (·.zero) = some (hdV hd0) := by kernel_rfl
theorem hdBuilt0 : Tryz.prog.built 49 [] = some (hdCs hd0).toArray := by kernel_rfl
section
variable {ops : Array Oper} {rest : List Oper} {o : Oper} {a : Act} {w w0 : World} {Q : Exit → Act → World → Prop} {K : Act → Prop}
theorem q4x (hw : Region.wanted o (yielded ops a.tmps) = true) (x : Operand) (ho : o.op = .box 49 x) {d : Hd} (hx : a.eval x = hdV d) (hr : d.Ok)
  (hk : ∀ w2 g, w.heap.size ≤ g → HdAt w2 g d → Below w.heap.size w w2 → wpList Tryz.prog ops Q rest (a.put o.dst (.pointer (some ⟨g, 0, none⟩))) w2) : wpList Tryz.prog ops Q (o :: rest) a w :=
 q4j hw 49 x ho hx (cs := hdCs d) (by simp [hdV, Value.cells]) (fun w2 g hg h hb => hk w2 g hg ⟨hr, h⟩ hb)
theorem q4s (hw : Region.wanted o (yielded ops a.tmps) = true) (ho : o.op = .alloc 49)
  (hk : ∀ w2 g, w.heap.size ≤ g → HdAt w2 g hd0 → Below w.heap.size w w2 → wpList Tryz.prog ops Q rest (a.put o.dst (.pointer (some ⟨g, 0, none⟩))) w2) : wpList Tryz.prog ops Q (o :: rest) a w :=
 q5e hw 49 ho hdZero (cs := hdCs hd0) (by simp [hdV, Value.cells]) (fun w2 g hg h hb => hk w2 g hg ⟨q4w, h⟩ hb)
theorem q3x (hgd : o.guard = none) (x y : Operand) (ho : o.op = .store 49 x y) {g : Nat} {d0 d : Hd} (hx : a.eval x = .pointer (some ⟨g, 0, none⟩)) (hy : a.eval y = hdV d) (hr : d.Ok) (h : HdAt w g d0)
  (hk : ∀ w2, HdAt w2 g d → Touch (fun b => b = g) w w2 → wpList Tryz.prog ops Q rest (a.put o.dst undef) w2) : wpList Tryz.prog ops Q (o :: rest) a w :=
 q5t hgd 49 x y ho hx hy h.arr (by rw [q0t hr]; exact hdSize) (by rw [q0t hr, q0t h.ok]) (x1c d) (fun w2 ha ht => hk w2 ⟨hr, ha⟩ ht)
theorem rtSigSet {r : Rt} (h : r.Ok) (s : ByteArray) : (rtCs r).set 34 (.string s) = rtCs { r with sig := s } := by
 have e : (bvs r.hot).length = 32 := by rw [q0c, h.hot]
 unfold rtCs
 simp [List.set_append, e]
theorem hdSigSet {d : Hd} (h : d.Ok) (s : ByteArray) : (hdCs d).set 135 (.string s) = hdCs { d with sig := s } := by
 have e1 : (bvs d.prev).length = 32 := by rw [q0c, h.prev]
 have e2 : (bvs d.pool).length = 32 := by rw [q0c, h.pool]
 have e3 : (bvs d.body).length = 32 := by rw [q0c, h.body]
 have e4 := q1j h.right
 unfold hdCs
 simp [List.set_append, e1, e2, e3, e4]
theorem q9y (hgd : o.guard = none) (x y : Operand) (ho : o.op = .store 9 x y) {g : Nat} {d : Hd} {s : ByteArray} (hx : a.eval x = .pointer (some ⟨g, 135, none⟩)) (hy : a.eval y = .string s) (h : HdAt w g d)
  (hk : ∀ w2, HdAt w2 g { d with sig := s } → Touch (fun b => b = g) w w2 → wpList Tryz.prog ops Q rest (a.put o.dst undef) w2) : wpList Tryz.prog ops Q (o :: rest) a w :=
 q0i hgd 9 x y ho hx hy h.arr (by rw [q0t h.ok]; omega) strSize rfl rfl (fun w2 ha ht => hk w2 ⟨⟨h.ok.slot, h.ok.number, h.ok.prev, h.ok.pool, h.ok.body, h.ok.size, h.ok.many, h.ok.right⟩, by rw [hdSigSet h.ok] at ha; exact ha⟩ ht)
theorem hdRightSet {d : Hd} {r : Rt} (h : d.Ok) (hr : r.Ok) : (hdCs d).take 100 ++ rtCs r ++ (hdCs d).drop (100 + (rtCs r).length) = hdCs { d with right := r } := by
 have e1 : (bvs d.prev).length = 32 := by rw [q0c, h.prev]
 have e2 : (bvs d.pool).length = 32 := by rw [q0c, h.pool]
 have e3 : (bvs d.body).length = 32 := by rw [q0c, h.body]
 have e4 := q1j h.right
 have t1 : (bvs d.prev).take 98 = bvs d.prev := List.take_of_length_le (by omega)
 have t2 : (bvs d.pool).take 66 = bvs d.pool := List.take_of_length_le (by omega)
 have t3 : (bvs d.body).take 34 = bvs d.body := List.take_of_length_le (by omega)
 have t4 : (rtCs d.right).drop 35 = [] := List.drop_of_length_le (by omega)
 have t5 : (bvs d.prev).drop 133 = [] := List.drop_of_length_le (by omega)
 have t6 : (bvs d.pool).drop 101 = [] := List.drop_of_length_le (by omega)
 have t7 : (bvs d.body).drop 69 = [] := List.drop_of_length_le (by omega)
 rw [q1j hr]
 unfold hdCs
 simp [List.take_append, List.drop_append, e1, e2, e3, e4, t1, t2, t3, t4, t5, t6, t7]
theorem j7e (hgd : o.guard = none) (x y : Operand) (ho : o.op = .store 47 x y) {g : Nat} {d : Hd} {r : Rt} (hx : a.eval x = .pointer (some ⟨g, 100, none⟩)) (hy : a.eval y = rtV r) (hr : r.Ok) (h : HdAt w g d)
  (hk : ∀ w2, HdAt w2 g { d with right := r } → Touch (fun b => b = g) w w2 → wpList Tryz.prog ops Q rest (a.put o.dst undef) w2) : wpList Tryz.prog ops Q (o :: rest) a w :=
 q2r hgd 47 x y ho hx hy h.arr (by rw [q1j hr]; exact rtSize) (by rw [q0t h.ok, q1j hr]; omega) (x1f r) _ (hdRightSet h.ok hr) (fun w2 ha ht => hk w2 ⟨⟨h.ok.slot, h.ok.number, h.ok.prev, h.ok.pool, h.ok.body, h.ok.size, h.ok.many, hr⟩, ha⟩ ht)
theorem q4a (hw : Region.wanted o (yielded ops a.tmps) = true) (x : Operand) (ho : o.op = .load 49 x) {g : Nat} {d : Hd} (hx : a.eval x = .pointer (some ⟨g, 0, none⟩)) (h : HdAt w g d)
  (hk : wpList Tryz.prog ops Q rest (a.put o.dst (hdV d)) w) : wpList Tryz.prog ops Q (o :: rest) a w :=
 q1t hw 49 x ho hx h.cells _ Tryz.underlying49 rfl (by rw [q0t h.ok]; exact hdSize) hk
theorem j6y (x : Operand) (ho : o.op = .load 49 x) {g : Nat} {d : Hd} (hx : a.eval x = .pointer (some ⟨g, 0, none⟩)) (h : HdAt w0 g d) (hk : K (a.put o.dst (hdV d))) :
  o.quiet Tryz.prog a (fun w' => ∃ s : Since w0, w' = s.w) K := q2h 49 x ho hx h.cells _ Tryz.underlying49 rfl (by rw [q0t h.ok]; exact hdSize) hk
end
theorem j5s {fn : Func} {q u : Tmp} (hr : fn.results = #[.cell q 49, .tmp u]) (tmps : Array Value) (w : World) {g : Nat} {d : Hd} (v : Value) (hp : tmps.getD q undef = .pointer (some ⟨g, 0, none⟩)) (hu : tmps.getD u undef = v) (h : HdAt w g d) :
  (results fn tmps).run Tryz.prog w = .ok (.tuple #[hdV d, v]) w :=
 q5d hr tmps w g 49 (hdCs d).toArray (0, 0) _ v hp hu h.arr Tryz.underlying49 rfl (by rw [List.size_toArray, q0t h.ok]; exact hdSize)
/-- May a head be? -/
def mayH (h : Hd) : Bool := decide (h.right.sig.size = 1024) && decide (h.sig.size = 1120)
theorem j8k (d : Hd) (hd : d.Ok) (w : World) :
  Calls Tryz.prog 85 #[hdV d] w fun e w' => e = .returned (.int .i64 (if mayH d then 0 else 2)) ∧ Below w.heap.size w w' := by
 obtain ⟨R, hR⟩ : ∃ R : Int, R = if mayH d then 0 else 2 := ⟨_, rfl⟩
 rw [← hR]
 have HR := hide hR
 have b := Below.refl w.heap.size w
 have HD := hide hd
 clear hd hR
 unfold mayH at HR
 have mF1 := True.intro
 by_cases h1 : d.right.sig.size = 1024
 ·by_cases h2 : d.sig.size = 1120
  all_goals
   have h3 : R = if d.sig.size = 1120 then 0 else 2 := by rw [HR.out]; simp [h1]
   simp only [h2, if_true, if_false] at h3
   subst h3
   clear HR
   go_enter Tryz.func85, Tryz.ntmps85
   go_wp2_with (first | (with_reducible refine w0g ?_; first | ((with_reducible refine w1g ?_); first | (refine q0a rfl 9 _ rfl rfl (HdAt.c134 (by assumption)) (by kernel_rfl) ?_) | (refine q0a rfl 9 _ rfl rfl (HdAt.c135 (by assumption)) (by kernel_rfl) ?_))) | (with_reducible refine w2g ?_; clear mF1; refine q4x rfl _ rfl rfl HD.out ?_; intro _ g1 hg1 F1 hb; (try have := F1.lt); (try have := b.size); (try replace b := later b hb); clear hb))
   go_ret
   exact ⟨rfl, b⟩
 ·have h3 : R = 2 := by rw [HR.out]; simp [h1]
  subst h3
  clear HR
  go_enter Tryz.func85, Tryz.ntmps85
  go_wp2_with (first | (with_reducible refine w0g ?_; first | ((with_reducible refine w1g ?_); first | (refine q0a rfl 9 _ rfl rfl (HdAt.c134 (by assumption)) (by kernel_rfl) ?_))) | (with_reducible refine w2g ?_; clear mF1; refine q4x rfl _ rfl rfl HD.out ?_; intro _ g1 hg1 F1 hb; (try have := F1.lt); (try have := b.size); (try replace b := later b hb); clear hb))
  go_ret
  exact ⟨rfl, b⟩
/-- Texts that lie one behind the other. -/
structure Sts (w : World) (g o : Nat) (l : List ByteArray) : Prop where
 lt : g < w.heap.size
 at_ : ∀ i, i < l.length → w.cell? ⟨g, o + i, none⟩ = some (.string (l.getD i ByteArray.empty))
theorem Sts.below {w w' : World} {g o B : Nat} {l : List ByteArray} (h : Sts w g o l) (hb : Below B w w') (hB : g < B) : Sts w' g o l :=
 ⟨Nat.lt_of_lt_of_le h.lt hb.size, fun i hi => (hb.cell (p := ⟨g, o + i, none⟩) hB).trans (h.at_ i hi)⟩
theorem Sts.later {w w' : World} {g o : Nat} {l : List ByteArray} (h : Sts w g o l) (hb : Below w.heap.size w w') : Sts w' g o l := h.below hb h.lt
def sumS (l : List ByteArray) : Nat := (l.map ByteArray.size).sum
theorem j8e (l : List ByteArray) (k : Nat) (h : k < l.length) : sumS (l.take (k + 1)) = sumS (l.take k) + (l.getD k ByteArray.empty).size := by
 unfold sumS
 rw [List.take_succ_eq_append_getElem h, List.map_append, List.sum_append]
 simp [List.getD_eq_getElem?_getD, List.getElem?_eq_getElem h]
theorem x6r (l : List ByteArray) (k : Nat) : sumS (l.take k) ≤ sumS l := by
 unfold sumS
 conv => rhs; rw [← List.take_append_drop k l]
 rw [List.map_append, List.sum_append]
 omega
def catS (l : List ByteArray) : List UInt8 := l.flatMap fun s => s.data.toList
theorem x7h (l : List ByteArray) (k : Nat) (h : k < l.length) : catS (l.take (k + 1)) = catS (l.take k) ++ (l.getD k ByteArray.empty).data.toList := by
 unfold catS
 rw [List.take_succ_eq_append_getElem h, List.flatMap_append]
 simp [List.getD_eq_getElem?_getD, List.getElem?_eq_getElem h]
theorem j3j (l : List ByteArray) : (catS l).length = sumS l := by
 induction l with
 | nil => rfl
 | cons x r ih =>
  have e1 : catS (x :: r) = x.data.toList ++ catS r := by unfold catS; simp
  have e2 : sumS (x :: r) = x.size + sumS r := by unfold sumS; simp
  rw [e1, e2, List.length_append, ih]
  simp
theorem x9w (l : List ByteArray) (g o c : Nat) (w : World) (F1 : Sts w g o l) (h2 : 2 ≤ l.length) (h3 : l.length ≤ 1000) (h4 : l.length ≤ c) (hs : sumS l ≤ 1099511627776) :
  Calls Tryz.prog 190 #[.slice (some ⟨g, o, none⟩) l.length c, .string ⟨#[]⟩] w fun e w' => e = .returned (.string ⟨(catS l).toArray⟩) ∧ Below w.heap.size w w' := by
 obtain ⟨R, hR⟩ : ∃ R, R = catS l := ⟨_, rfl⟩
 obtain ⟨n, hn⟩ : ∃ n, n = l.length := ⟨_, rfl⟩
 rw [← hR, ← hn]
 have HR := hide hR
 have HN := hide hn
 have HST := hide (j8e l)
 have HCT := hide (x7h l)
 have HSL := hide (x6r l)
 rw [← hn] at h2 h3 h4
 have e0 : ((n : Int) == 0) = false := beq_eq_false_iff_ne.2 (by omega)
 have e1 : ((n : Int) == 1) = false := beq_eq_false_iff_ne.2 (by omega)
 have ec : ¬ c = 1 := by omega
 have HS := hide hs
 have b := Below.refl w.heap.size w
 clear hR hn hs
 have mF2 := True.intro
 go_enter Tryz.func190, Tryz.ntmps190
 go_wp2_with fail
 go_loopw [5, 41] (fun t i wr => ∃ k : Nat, i = .int .i64 k ∧ k ≤ n ∧ t = .int .i64 (sumS (l.take k)) ∧ Sts wr g o l ∧ Below w.heap.size w wr) (fun _ i _ => n - (RowKit.intOf i).toNat)
 case atStart => exact ⟨0, rfl, by omega, rfl, F1, b⟩
 case round =>
  clear F1 b
  obtain ⟨k, rfl, hk, rfl, F1, b⟩ := hrel
  by_cases hlt : k < n
  ·have c0 := F1.at_ k (by rw [← HN.out]; exact hlt)
   have e1 := HST.out k (by rw [← HN.out]; exact hlt)
   have e2 := HSL.out (k + 1)
   have e3 := HS.out
   have E1 := hide e1
   rw [e1] at e2
   generalize l.getD k ByteArray.empty = x at *
   generalize sumS (l.take k) = s at *
   have e4 : s + x.size ≤ 1099511627776 := by omega
   clear e1 e2 e3
   go_wp2_with ((with_reducible refine w0g ?_; refine q0a rfl 9 _ rfl rfl c0 (by kernel_rfl) ?_))
   go_roundw
   case rel => exact ⟨k + 1, by simp, by omega, by rw [E1.out]; simp, F1, b⟩
   case measure => simp [RowKit.intOf]; omega
  ·obtain rfl : k = n := by omega
   have c0 := F1.at_ 0 (by rw [← HN.out]; omega)
   have e1 : sumS (l.take k) ≤ 1099511627776 := Nat.le_trans (HSL.out k) HS.out
   have e2 : catS (l.take 1) = (l.getD 0 ByteArray.empty).data.toList := by rw [HCT.out 0 (by rw [← HN.out]; omega)]; simp [catS]
   have e3 : (l.getD 0 ByteArray.empty).size ≤ 1099511627776 := by
    have h1 := HST.out 0 (by rw [← HN.out]; omega)
    have h2 := HSL.out 1
    have h3 := HS.out
    simp only [Nat.zero_add] at h1
    omega
   have E2 := hide e2
   have E3 := hide e3
   clear e2 e3
   generalize sumS (l.take k) = N at *
   obtain ⟨x0, hx0⟩ : ∃ x0, x0 = l.getD 0 ByteArray.empty := ⟨_, rfl⟩
   rw [← hx0] at E2 E3
   have FX : Hid (l.getD 0 ByteArray.empty = x0) := hx0.symm
   have HN2 : Hid (0 < k) := by unfold Hid; omega
   have HS3 : Hid (sumS l ≤ 1099511627776) := HS.out
   clear hx0 c0 HST HSL HS
   go_wp2_with (first | (with_reducible refine w3g ?_; clear mF2; refine q5e rfl 113 rfl bldZero (cs := [.pointer none, .slice none 0 0]) rfl ?_; intro _ gb hgb F2 hb; have gl := F1.lt; have bs := b.size; (try replace F1 := F1.later hb); (try replace b := later b hb); clear hb) | (go_at_call 180; have F2l := Arr.lt F2; refine (Tryz.Builder_Grow_fresh gb gb N _ (Nat.le_refl _) F2 (Nat.le_of_lt F2l) (by omega)).mono ?_; rintro _ _ ⟨rfl, t1, hc⟩; (try replace F1 := F1.below hc (by omega)); (try replace b := q0u b hc (by omega)); clear hc F2; have F3 := Bld.st (g := gb) (s := []) (Or.inr t1); clear t1) | (with_reducible refine w0g ?_; have c1 := F1.at_ 0 (by rw [← HN.out]; exact HN2.out); rw [FX.out] at c1; refine q0a rfl 9 _ rfl rfl c1 (by kernel_rfl) ?_; clear c1) | (go_at_call 75; have := F3.now.lt; refine (j1i _ _ x0 _ F3.now (by have := E3.out; show 0 + _ ≤ _; omega)).mono ?_; rintro _ _ ⟨rfl, t1, hc⟩; (try replace F1 := F1.below hc (by omega)); (try replace b := q0u b hc (by omega)); replace F3 := Bld.st t1; clear hc t1))
   rw [List.nil_append, ← E2.out] at F3
   have gl2 : g < gb := by omega
   have wgb : w.heap.size ≤ gb := by omega
   clear E2 E3 FX HN2 e1
   go_loopw [65] (fun i wr => ∃ j : Nat, i = .int .i64 j ∧ j + 1 ≤ k ∧ Sts wr g o l ∧ (∃ m, Stab (fun w => Bld w gb (catS (l.take (j + 1)))) m wr) ∧ Below w.heap.size w wr) (fun i _ => k - 1 - (RowKit.intOf i).toNat)
   case atStart => exact ⟨0, rfl, by omega, F1, ⟨_, F3⟩, b⟩
   case round =>
    clear F1 F3 b
    obtain ⟨j, rfl, hj, F1, ⟨mb, F3⟩, b⟩ := hrel
    by_cases hlt : j + 1 < k
    ·have c0 := F1.at_ (j + 1) (by rw [← HN.out]; exact hlt)
     have HC1 := hide (HCT.out (j + 1) (by rw [← HN.out]; exact hlt))
     have hz : (catS (l.take (j + 1))).length + (l.getD (j + 1) ByteArray.empty).size ≤ 140737488355328 := by
      have h1 := j8e l (j + 1) (by rw [← HN.out]; exact hlt)
      have h2 := x6r l (j + 1 + 1)
      have h3 := HS3.out
      rw [j3j]
      omega
     have HZ := hide hz
     have jk : (j : Int) < (k : Int) - 1 := by omega
     have FY : Hid (∀ wr, Sts wr g o l → wr.cell? ⟨g, o + 1 + j, none⟩ = some (.string (l.getD (j + 1) ByteArray.empty))) := fun wr h => by
      rw [show o + 1 + j = o + (j + 1) by omega]; exact h.at_ (j + 1) (by rw [← HN.out]; exact hlt)
     generalize l.getD (j + 1) ByteArray.empty = x at *
     generalize catS (l.take (j + 1)) = Y at *
     clear c0 hz
     go_wp2_with (first | (with_reducible refine w0g ?_; refine q0a rfl 9 _ rfl rfl (FY.out _ F1) (by kernel_rfl) ?_) | (go_at_call 75; (with_reducible show Calls _ _ #[_, .string ⟨#[]⟩] _ _); have := F3.now.lt; refine (j1i _ _ ⟨#[]⟩ _ F3.now (by have := HZ.out; show _ + 0 ≤ _; omega)).mono ?_; rintro _ _ ⟨rfl, t1, hc⟩; (try replace F1 := F1.below hc (by omega)); (try replace b := q0u b hc (by omega)); rw [show Y ++ (⟨#[]⟩ : ByteArray).data.toList = Y from List.append_nil Y] at t1; replace F3 := Bld.st t1; clear hc t1) | (go_at_call 75; have := F3.now.lt; refine (j1i _ _ x _ F3.now HZ.out).mono ?_; rintro _ _ ⟨rfl, t1, hc⟩; (try replace F1 := F1.below hc (by omega)); (try replace b := q0u b hc (by omega)); replace F3 := Bld.st t1; clear hc t1))
     rw [← HC1.out] at F3
     go_roundw
     case rel => exact ⟨j + 1, by simp, by omega, F1, ⟨_, F3⟩, b⟩
     case measure => simp [RowKit.intOf]; omega
    ·obtain rfl : k = j + 1 := by omega
     have hl : l.take (j + 1) = l := List.take_of_length_le (by rw [← HN.out]; omega)
     rw [hl, ← HR.out] at F3
     clear hl
     go_wp2_with ((go_at_call 78; refine (x2l _ _ _ (F3).now).mono ?_; rintro _ _ ⟨rfl, hc⟩; (try replace F1 := F1.below hc (by omega)); (try replace b := q0u b hc (by omega)); clear hc))
     go_ret
     exact ⟨rfl, b⟩
end Go.Proofs.YtbbfnpfkbbpjgaaGreat
