/- Several texts of this proof in one: TreeL, Cells, RefTwo, Plan, Build, TreeA, TreeUp, Mem, OnceRef, OnceRef2, OnceRef3. -/
import Derived.Test.YtbbfnpfkbbpjgaaGreatQHMRef
import Derived.Test.YtbbfnpfkbbpjgaaGreatQHMOf
import Derived.Laws.AppendOwn
import Derived.Great.BuildSlice
import Derived.Test.YtbbfnpfkbbpjgaaGreatQHMOnce
import Derived.OwnWalk
import Derived.Laws.CopyRow
import Derived.Maps.AppendAt
/- Trees of hashes, in plain words: rows, the top, proofs, and what a proof comes to. -/
namespace Go.Proofs.YtbbfnpfkbbpjgaaGreat
set_option linter.unusedVariables false
set_option linter.unusedSimpArgs false
set_option maxRecDepth 100000
set_option maxHeartbeats 4000000
abbrev H32 := List UInt8
def tagLeaf : H32 := [108, 101, 97, 102]
def tagPair : H32 := [112, 97, 105, 114]
def tagRoot : H32 := [114, 111, 111, 116]
def tagNone : H32 := [110, 111, 110, 101]
def leafL (h : H32) : H32 := ofX tagLeaf [h]
def pairL (a b : H32) : H32 := ofX tagPair [a, b]
def noneL : H32 := ofX tagNone []
theorem q4l (h : H32) : (leafL h).length = 32 := q1z _ _
theorem q6o (a b : H32) : (pairL a b).length = 32 := q1z _ _
theorem j1y : noneL.length = 32 := q1z _ _
/-- The row above. -/
def upL : List H32 → List H32
 | a :: b :: r => pairL a b :: upL r
 | l => l
theorem q4z : ∀ l, (upL l).length = (l.length + 1) / 2
 | [] => rfl
 | [_] => by simp [upL]
 | a :: b :: r => by
  rw [upL, List.length_cons, q4z r, List.length_cons, List.length_cons]
  omega
theorem x1q : ∀ l, (∀ h ∈ l, h.length = 32) → ∀ h ∈ upL l, h.length = 32
 | [], _, h, hh => by simp [upL] at hh
 | [a], hl, h, hh => hl h (by simpa [upL] using hh)
 | a :: b :: r, hl, h, hh => by
  rw [upL, List.mem_cons] at hh
  rcases hh with rfl | hh
  ·exact q6o _ _
  ·exact x1q r (fun x hx => hl x (by simp [hx])) h hh
theorem x0q : ∀ (l : List H32) (k : Nat), 2 * k < l.length → (upL l).getD k [] = if 2 * k + 1 < l.length then pairL (l.getD (2 * k) []) (l.getD (2 * k + 1) []) else l.getD (2 * k) []
 | [], k, h => by simp at h
 | [a], k, h => by
  have : k = 0 := by simp at h; omega
  subst this
  simp [upL]
 | a :: b :: r, 0, _ => by simp [upL]
 | a :: b :: r, k + 1, h => by
  have := x0q r k (by simp at h; omega)
  rw [upL, List.getD_cons_succ, this]
  have e : 2 * (k + 1) = 2 * k + 1 + 1 := by omega
  rw [e]
  simp only [List.getD_cons_succ, List.length_cons, Nat.add_lt_add_iff_right]
/-- The top of a row. -/
def topF : Nat → List H32 → H32
 | 0, r => r.getD 0 []
 | f + 1, r => if r.length ≤ 1 then r.getD 0 [] else topF f (upL r)
theorem x9l (f : Nat) (r : List H32) (h : r.length ≤ 1) : topF f r = r.getD 0 [] := by cases f <;> simp [topF, h]
theorem z2n (f : Nat) (r : List H32) (h : 1 < r.length) (hf : r.length ≤ f) : topF f r = topF (f - 1) (upL r) := by
 cases f with
 | zero => omega
 | succ f => rw [topF, if_neg (by omega)]; rfl
/-- The root of so many with a top. -/
def rootL (n : Nat) (top : H32) : H32 := ofX tagRoot [eightL n, top]
theorem q5a (n : Nat) (t : H32) : (rootL n t).length = 32 := q1z _ _
/-- What hashes come to. -/
def topL (l : List H32) : H32 := if l = [] then noneL else topF l.length (l.map leafL)
theorem q7o (l : List H32) : (topL l).length = 32 := by
 have h1 : ∀ (f : Nat) (r : List H32), 0 < r.length → (∀ h ∈ r, h.length = 32) → (topF f r).length = 32 := by
  intro f
  induction f with
  | zero => intro r h0 hr; rw [topF, List.getD_eq_getElem?_getD, List.getElem?_eq_getElem h0]; exact hr _ (List.getElem_mem _)
  | succ f ih =>
   intro r h0 hr
   unfold topF
   split
   ·rw [List.getD_eq_getElem?_getD, List.getElem?_eq_getElem h0]; exact hr _ (List.getElem_mem _)
   ·exact ih _ (by rw [q4z]; omega) (x1q r hr)
 unfold topL
 split
 ·exact j1y
 ·rename_i h
  refine h1 _ _ (by simpa using List.length_pos_iff.2 h) (fun x hx => ?_)
  obtain ⟨y, _, rfl⟩ := List.mem_map.1 hx
  exact q4l y
def treeL (l : List H32) : H32 := rootL l.length (topL l)
end Go.Proofs.YtbbfnpfkbbpjgaaGreat
namespace Go.Proofs.YtbbfnpfkbbpjgaaGreat
open Go.RowKit Go.Lib
set_option linter.unusedVariables false
set_option linter.unusedSimpArgs false
set_option maxRecDepth 100000
set_option maxHeartbeats 4000000
/-- From the address ⟨b, o⟩ on stand the cells cs. -/
def Cells (w : World) (b o : Nat) (cs : List Value) : Prop := ∀ j v, cs[j]? = some v → w.cell? ⟨b, o + j, none⟩ = some v
section
variable {w w' : World} {b o : Nat} {cs xs ys : List Value}
theorem Cells.below (h : Cells w b o cs) {B : Nat} (hb : Below B w w') (hB : b < B) : Cells w' b o cs := fun j v hj => (hb.cell (p := ⟨b, o + j, none⟩) hB).trans (h j v hj)
theorem Cells.later (h : Cells w b o cs) (hb : Below w.heap.size w w') : Cells w' b o cs := fun j v hj => by
 have h1 := h j v hj
 exact (hb.cell (p := ⟨b, o + j, none⟩) (World.block_lt_of_cell? w _ h1)).trans h1
theorem Cells.left (h : Cells w b o (xs ++ ys)) : Cells w b o xs := fun j v hj => h j v (by rw [List.getElem?_append_left (List.getElem?_eq_some_iff.1 hj).1]; exact hj)
theorem Cells.right (h : Cells w b o (xs ++ ys)) {n : Nat} (hn : xs.length = n) : Cells w b (o + n) ys := fun j v hj => by
 subst hn
 have := h (xs.length + j) v (by rw [List.getElem?_append_right (by omega)]; simpa using hj)
 rwa [Nat.add_assoc]
theorem Cells.one {v : Value} (h : Cells w b o (v :: ys)) : w.cell? ⟨b, o, none⟩ = some v := h 0 v rfl
theorem Cells.tail {v : Value} (h : Cells w b o (v :: ys)) : Cells w b (o + 1) ys := Cells.right (xs := [v]) h rfl
theorem Cells.arr {t : TypeId} (h : Arr w b t cs) : Cells w b 0 cs := fun j v hj => by
 have := Arr.cell h (List.getElem?_eq_some_iff.1 hj).1
 rw [Nat.zero_add, this, List.getD_eq_getElem?_getD, hj]; rfl
theorem Cells.lt (h : Cells w b o cs) (hne : cs ≠ []) : b < w.heap.size := by
 cases cs with
 | nil => exact absurd rfl hne
 | cons v r => exact World.block_lt_of_cell? w _ h.one
theorem Cells.add (b o j : Nat) : (⟨b, o, none⟩ : Addr).add j = ⟨b, o + j, none⟩ := by unfold Addr.add; split <;> simp_all
theorem Cells.load {P : Program} (h : Cells w b o cs) (ty : TypeId) (d : TypeDesc) (hu : P.underlying ty = some d) (hd : (match d with | .struct _ | .array _ _ => true | _ => false) = true) (hi : (P.info? ty).map (·.size) = some cs.length) :
  (loadVar ty ⟨b, o, none⟩).run P w = .ok (.agg cs.toArray) w := by
 have hl : (loadCells ⟨b, o, none⟩ cs.length).run P w = .ok cs.toArray w := run_loadCells_list (P := P) w ⟨b, o, none⟩ cs (fun j v hv => by rw [Cells.add]; exact h j v hv)
 cases hq : P.info? ty with
 | none => simp [hq] at hi
 | some i =>
  have hs : i.size = cs.length := by simpa [hq] using hi
  have hagg : (isAgg ty).run P w = .ok true w := by
   unfold isAgg
   rw [Sem.run_bind, run_underlying hu w]
   cases d <;> simp_all
  simp [loadVar, Sem.run_bind, hagg, sizeOf, typeInfo, hq, hs, hl]
end
section
variable {P : Program} {ops : Array Oper} {rest : List Oper} {o : Oper} {a : Act} {w : World} {Q : Exit → Act → World → Prop} {K : Act → Prop}
theorem q3l (hw : Region.wanted o (yielded ops a.tmps) = true) (v : Value) (h : (execOp a.eval o).run P w = .ok (.value v) w) (hk : wpList P ops Q rest (a.put o.dst v) w) : wpList P ops Q (o :: rest) a w :=
 BigFrame.wpList_want hw fun _ hK => by
  unfold Oper.wp
  rw [h]
  exact hK _ _ hk
theorem j5c (ty : TypeId) (x : Operand) (ho : o.op = .load ty x) {b k : Nat} {cs : List Value} (hx : a.eval x = .pointer (some ⟨b, k, none⟩)) (h : Cells w b k cs) (d : TypeDesc) (hu : P.underlying ty = some d) (hd : (match d with | .struct _ | .array _ _ => true | _ => false) = true)
  (hi : (P.info? ty).map (·.size) = some cs.length) : (execOp a.eval o).run P w = .ok (.value (.agg cs.toArray)) w := by
 unfold execOp
 simp only [ho, hx, Instr.loadAt, Instr.sureAddr, Sem.run_bind, Sem.run_pure, Result.andThen_ok, h.load ty d hu hd hi]
theorem q1t (hw : Region.wanted o (yielded ops a.tmps) = true) (ty : TypeId) (x : Operand) (ho : o.op = .load ty x) {b k : Nat} {cs : List Value} (hx : a.eval x = .pointer (some ⟨b, k, none⟩)) (h : Cells w b k cs) (d : TypeDesc) (hu : P.underlying ty = some d)
  (hd : (match d with | .struct _ | .array _ _ => true | _ => false) = true) (hi : (P.info? ty).map (·.size) = some cs.length) (hk : wpList P ops Q rest (a.put o.dst (.agg cs.toArray)) w) : wpList P ops Q (o :: rest) a w :=
 q3l hw _ (j5c ty x ho hx h d hu hd hi) hk
/-- In a region: in every world of a class. -/
theorem q2i {C : World → Prop} (ty : TypeId) (x : Operand) (ho : o.op = .load ty x) {b k : Nat} {cs : List Value} (hx : a.eval x = .pointer (some ⟨b, k, none⟩)) (h : ∀ w, C w → Cells w b k cs) (d : TypeDesc) (hu : P.underlying ty = some d)
  (hd : (match d with | .struct _ | .array _ _ => true | _ => false) = true) (hi : (P.info? ty).map (·.size) = some cs.length) (hk : K (a.put o.dst (.agg cs.toArray))) : o.quiet P a C K :=
 q2z _ (fun w hw => j5c ty x ho hx (h w hw) d hu hd hi) hk
theorem Cells.since {w0 : World} {b k : Nat} {cs : List Value} (h : Cells w0 b k cs) : ∀ w, (∃ s : Since w0, w = s.w) → Cells w b k cs := fun _ ⟨s, hs⟩ => by subst hs; exact h.later s.ok
end
/-- A variable of one's own that was just made is filled: as a call that makes new memory. -/
theorem j7i {ops : Array Oper} {rest : List Oper} {o : Oper} {a : Act} {w : World} {Q : Exit → Act → World → Prop} (hgd : o.guard = none) (x y : Operand) (ho : o.op = .store 34 x y) {l : List UInt8}
  (hx : a.eval x = .pointer (some ⟨w.heap.size, 0, none⟩)) (hy : a.eval y = hv l) (hl : l.length = 32) (hk : ∀ w2, HashAt w2 w.heap.size l → Below w.heap.size w w2 → wpList Tryz.prog ops Q rest (a.put o.dst undef) w2) :
  wpList Tryz.prog ops Q (o :: rest) a (w.alloc (.cells (bvs zero32).toArray 34)) :=
 q0y hgd x y ho hx hy hl (HashAt.zero w) (hk _ (j6f w l hl).1 (j6f w l hl).2)
theorem below3a (w : World) (a b c : Obj) : Below w.heap.size w (((w.alloc a).alloc b).alloc c) := later (below2 w a b) (below1 _ c)
theorem HashAt.new3 (w : World) (o o' : Obj) (l : List UInt8) (hl : l.length = 32) : HashAt (((w.alloc o).alloc o').alloc (.cells (bvs l).toArray 34)) (w.heap.size + 2) l := by
 have := HashAt.new ((w.alloc o).alloc o') l hl
 simpa using this
/-- The slice v has the elements els, each of sz cells. -/
def Sl (w : World) (v : Value) (sz : Nat) (els : List (List Value)) : Prop :=
 ∃ a cap, v = .slice a els.length cap ∧ els.length ≤ cap ∧ cap ≤ maxLen ∧ (∀ e ∈ els, e.length = sz) ∧ (a = none → cap = 0) ∧ (els ≠ [] → ∃ b k, a = some ⟨b, k, none⟩ ∧ b < w.heap.size ∧ ∀ i e, els[i]? = some e → Cells w b (k + i * sz) e)
section
variable {w w' : World} {v : Value} {sz : Nat} {els : List (List Value)}
theorem Sl.later (h : Sl w v sz els) (hb : Below w.heap.size w w') : Sl w' v sz els := by
 obtain ⟨a, cap, h1, h2, h3, h4, h0, h5⟩ := h
 refine ⟨a, cap, h1, h2, h3, h4, h0, fun hne => ?_⟩
 obtain ⟨b, k, h6, h7, h8⟩ := h5 hne
 exact ⟨b, k, h6, Nat.lt_of_lt_of_le h7 hb.size, fun i e he => (h8 i e he).later hb⟩
theorem Sl.nil (w : World) (sz : Nat) : Sl w (.slice none 0 0) sz [] := ⟨none, 0, rfl, by simp, by simp [maxLen], by simp, fun _ => rfl, fun h => absurd rfl h⟩
theorem q6f (sz : Nat) : ∀ (els : List (List Value)), (∀ e ∈ els, e.length = sz) → ∀ i e, els[i]? = some e → ∀ j v, e[j]? = some v → els.flatten[i * sz + j]? = some v
 | [], _, i, e, h, _, _, _ => by simp at h
 | x :: r, hl, 0, e, h, j, v, hv => by
  simp only [List.getElem?_cons_zero, Option.some.injEq] at h
  subst h
  rw [List.flatten_cons, Nat.zero_mul, Nat.zero_add, List.getElem?_append_left (List.getElem?_eq_some_iff.1 hv).1]
  exact hv
 | x :: r, hl, i + 1, e, h, j, v, hv => by
  have hx := hl x (by simp)
  rw [List.getElem?_cons_succ] at h
  rw [List.flatten_cons, List.getElem?_append_right (by rw [hx, Nat.add_mul]; omega), hx, show (i + 1) * sz + j - sz = i * sz + j by rw [Nat.add_mul]; omega]
  exact q6f sz r (fun y hy => hl y (by simp [hy])) i e h j v hv
/-- A slice from a place on. -/
theorem Sl.drop {a : Option Addr} {n cap : Nat} (h : Sl w (.slice a n cap) sz els) (lo : Nat) (hlo : lo ≤ n) (hsz : 0 < sz) : Sl w (.slice (if cap = lo then a else a.map (·.add (lo * sz))) (n - lo) (cap - lo)) sz (els.drop lo) := by
  obtain ⟨a', cap', h1, h2, h3, h4, h0, h5⟩ := h
  simp only [Value.slice.injEq] at h1
  obtain ⟨rfl, rfl, rfl⟩ := h1
  refine ⟨_, _, by rw [List.length_drop], by rw [List.length_drop]; omega, by omega, fun e he => h4 e (List.mem_of_mem_drop he), fun hn => ?_, fun hne => ?_⟩
  · split at hn
    · rw [h0 hn]; omega
    · cases a with
      | none => rw [h0 rfl]; omega
      | some x => simp at hn
  · have hlt : lo < els.length := by
      rcases Nat.lt_or_ge lo els.length with h | h
      · exact h
      · exact absurd (List.drop_of_length_le h) hne
    obtain ⟨b, k, rfl, hb, hc⟩ := h5 (by intro h0; rw [h0] at hlt; simp at hlt)
    refine ⟨b, k + lo * sz, by rw [if_neg (by omega), Option.map_some, Cells.add], hb, fun i e he => ?_⟩
    have := hc (lo + i) e (by rw [List.getElem?_drop] at he; exact he)
    rw [show k + lo * sz + i * sz = k + (lo + i) * sz by rw [Nat.add_mul]; omega]
    exact this
/-- .. and up to a place. -/
theorem Sl.take {a : Option Addr} {n cap : Nat} (h : Sl w (.slice a n cap) sz els) (hi c2 : Nat) (hhi : hi ≤ n) (hc2 : hi ≤ c2) (hc3 : c2 ≤ maxLen) (hz : a = none → c2 = 0) : Sl w (.slice a hi c2) sz (els.take hi) := by
 obtain ⟨a', cap', h1, h2, h3, h4, h0, h5⟩ := h
 simp only [Value.slice.injEq] at h1
 obtain ⟨rfl, rfl, rfl⟩ := h1
 refine ⟨_, c2, by rw [List.length_take, Nat.min_eq_left hhi], by rw [List.length_take]; omega, hc3, fun e he => h4 e (List.mem_of_mem_take he), hz, fun hne => ?_⟩
 obtain ⟨b, k, rfl, hb, hc⟩ := h5 (by intro h0; subst h0; simp at hne)
 refine ⟨b, k, rfl, hb, fun i e he => hc i e ?_⟩
 rw [List.getElem?_take] at he
 split at he
 ·exact he
 ·cases he
/-- A row of one's own, as a slice. -/
theorem Sl.own {B : Nat} {e : TypeId} {n : Nat} (hn : els.length = n) (hl : ∀ e ∈ els, e.length = sz) (h : w.ownsRow B e sz v n els.flatten) : Sl w v sz els := by
 subst hn
 obtain ⟨h1, h | ⟨g, cap, cur, hv, hg, hh, hc, hm, hs, ht⟩⟩ := h
 ·obtain ⟨rfl, h0⟩ := h
  have : els = [] := List.eq_nil_of_length_eq_zero h0
  subst this
  exact Sl.nil w sz
 ·refine ⟨_, cap, hv, hc, hm, hl, fun h => (by cases h), fun hne => ⟨g, 0, rfl, (Array.getElem?_eq_some_iff.1 hh).1, fun i e he j u hu => ?_⟩⟩
  have := q6f sz els hl i e he j u hu
  rw [← ht] at this
  rw [cell_of_row w g _ cur _ (0, 0) hh, Nat.zero_add]
  have hlt : i * sz + j < (cur.toList.take (els.length * sz)).length := (List.getElem?_eq_some_iff.1 this).1
  rw [List.getElem?_take] at this
  split at this
  ·simpa using this
  ·cases this
end
theorem j5r (tag a : List UInt8) (w : World) (ht : tag.length ≤ 1048576) (ha : a.length ≤ 1048576) :
  Calls Tryz.prog 57 #[.string ⟨tag.toArray⟩, .string ⟨a.toArray⟩] w fun e w' => e = .returned (hv (ofX tag [a])) ∧ Below w.heap.size w w' := by
 obtain ⟨R, hR⟩ : ∃ R, R = ofX tag [a] := ⟨_, rfl⟩
 have HO : Hid (∀ w, Calls Tryz.prog 114 #[.string ⟨tag.toArray⟩, .slice (some ⟨w.heap.size, 0, none⟩) 1 1] (w.alloc (.cells #[.string ⟨a.toArray⟩] 9)) fun e w' => e = .returned (hv R) ∧ Below w.heap.size w w') := fun w => by rw [hR]; exact refOf1 tag a w ht ha
 have HL : Hid (R.length = 32) := by rw [hR]; exact q1z _ _
 rw [← hR]
 clear hR ht ha
 have z := HashAt.zero w
 have b := below1 w (.cells (bvs zero32).toArray 34)
 generalize (⟨tag.toArray⟩ : ByteArray) = tb at *
 generalize (⟨a.toArray⟩ : ByteArray) = ab at *
 go_enter Tryz.func57, Tryz.ntmps57
 go_wp2_with fail
 show Calls _ _ _ ((w.alloc (.cells (bvs zero32).toArray 34)).alloc _) _
 rw [show w.heap.size + 1 = (w.alloc (.cells (bvs zero32).toArray 34)).heap.size by simp]
 generalize w.alloc (.cells (bvs zero32).toArray 34) = W at *
 refine (HO.out _).mono ?_
 rintro _ wc1 ⟨rfl, hc1⟩
 replace b := later b hc1
 replace z := z.later hc1
 clear hc1
 have zr := z.row R HL.out
 have br := q0p (b := w.heap.size) b (Nat.le_refl _) (bvs R).toArray
 go_wp2_with (refine q0y rfl _ _ rfl rfl rfl HL.out z ?_)
 exact bodyPost_ret (v := hv R) (q2v rfl _ _ rfl zr) rfl ⟨rfl, br⟩
theorem j5d (tag a c : List UInt8) (w : World) (ht : tag.length ≤ 1048576) (ha : a.length ≤ 1048576) (hc : c.length ≤ 1048576) :
  Calls Tryz.prog 173 #[.string ⟨tag.toArray⟩, .string ⟨a.toArray⟩, .string ⟨c.toArray⟩] w fun e w' => e = .returned (hv (ofX tag [a, c])) ∧ Below w.heap.size w w' := by
 obtain ⟨R, hR⟩ : ∃ R, R = ofX tag [a, c] := ⟨_, rfl⟩
 have HO : Hid (∀ w, Calls Tryz.prog 114 #[.string ⟨tag.toArray⟩, .slice (some ⟨w.heap.size, 0, none⟩) 2 2] (w.alloc (.cells #[.string ⟨a.toArray⟩, .string ⟨c.toArray⟩] 9)) fun e w' => e = .returned (hv R) ∧ Below w.heap.size w w') := fun w => by rw [hR]; exact refOf2 tag a c w ht ha hc
 have HL : Hid (R.length = 32) := by rw [hR]; exact q1z _ _
 rw [← hR]
 clear hR ht ha hc
 have z := HashAt.zero w
 have b := below1 w (.cells (bvs zero32).toArray 34)
 generalize (⟨tag.toArray⟩ : ByteArray) = tb at *
 generalize (⟨a.toArray⟩ : ByteArray) = ab at *
 generalize (⟨c.toArray⟩ : ByteArray) = cb at *
 go_enter Tryz.func173, Tryz.ntmps173
 go_wp2_with fail
 show Calls _ _ _ ((w.alloc (.cells (bvs zero32).toArray 34)).alloc _) _
 rw [show w.heap.size + 1 = (w.alloc (.cells (bvs zero32).toArray 34)).heap.size by simp]
 generalize w.alloc (.cells (bvs zero32).toArray 34) = W at *
 refine (HO.out _).mono ?_
 rintro _ wc2 ⟨rfl, hc2⟩
 replace b := later b hc2
 replace z := z.later hc2
 clear hc2
 have zr := z.row R HL.out
 have br := q0p (b := w.heap.size) b (Nat.le_refl _) (bvs R).toArray
 go_wp2_with (refine q0y rfl _ _ rfl rfl rfl HL.out z ?_)
 exact bodyPost_ret (v := hv R) (q2v rfl _ _ rfl zr) rfl ⟨rfl, br⟩
end Go.Proofs.YtbbfnpfkbbpjgaaGreat
namespace Go.Proofs.YtbbfnpfkbbpjgaaGreat
open Go.RowKit
set_option linter.unusedVariables false
set_option linter.unusedSimpArgs false
set_option maxRecDepth 100000
set_option maxHeartbeats 4000000
/-- What lasts while new memory is made. -/
def Lasts (K : World → Prop) : Prop := ∀ w w', K w → Below w.heap.size w w' → K w'
theorem q3h {B : Nat} {w : World} (hB : B ≤ w.heap.size) : Lasts (fun x => Below B w x) := fun _ _ h k => h.trans (k.mono (Nat.le_trans hB h.size))
instance kept_below (B : Nat) (w : World) : Nonempty (Kept (fun x => Below B w x)) := ⟨⟨w, Below.refl _ _⟩⟩
/-- The class of the worlds of which K holds. -/
def Kl (K : World → Prop) : World → Prop := fun w' => ∃ s : Kept K, w' = s.w
theorem Kl.out {K : World → Prop} {w : World} (h : ∃ s : Kept K, w = s.w) : K w := by obtain ⟨s, rfl⟩ := h; exact s.ok
section
variable {P : Program} {ops : Array Oper} {md : Region.Mode} {Q : Exit → Act → World → Prop}
theorem YieldsFl.sub {C C' : World → Prop} {o : Oper} {v : Value} {a : Act} (h : YieldsFl P ops C o v a) (hs : ∀ x, C' x → C x) : YieldsFl P ops C' o v a :=
 h.imp (fun h => ⟨h.1, fun w hw => h.2 w (hs w hw)⟩) id
/-- What is listed waits for nothing that is not. -/
def Closed (md : Region.Mode) (ops : Array Oper) (L : Array Bool) : Prop := ∀ j oj, ops[j]? = some oj → L.getD j false = true → ∀ e ∈ oj.after, Region.binds md e = true → L.getD e.on false = true
theorem Closed.set {L : Array Bool} {i : Nat} (h : Closed md ops L) (hi : i ∈ Region.ready md ops L) : Closed md ops (L.setIfInBounds i true) := by
 obtain ⟨_, oi, hoi, hall⟩ := mem_ready.1 hi
 intro j oj hj hl e he hb
 by_cases hij : i = j
 ·subst hij
  have : oj = oi := Option.some.inj (hj.symm.trans hoi)
  subst this
  exact getD_set_true (hall e he hb)
 ·rw [getD_set_ne false hij] at hl
  exact getD_set_true (h j oj hj hl e he hb)
theorem j7r {n : Nat} : Closed md ops (Array.replicate n false) := fun j oj _ hl => by rw [getD_replicate_false] at hl; cases hl
/-- j waits for i, by whatever stands between. -/
def reach (md : Region.Mode) (ops : Array Oper) : Nat → Nat → Nat → Bool
 | 0, _, _ => false
 | f + 1, j, i => match ops[j]? with
  | some oj => oj.after.any fun e => Region.binds md e && (e.on == i || reach md ops f e.on i)
  | none => false
theorem q7r {L : Array Bool} (h : Closed md ops L) : ∀ (f j i : Nat), reach md ops f j i = true → (∀ oj, ops[j]? = some oj → ∀ e ∈ oj.after, Region.binds md e = true → L.getD e.on false = true) → L.getD i false = true
 | 0, _, _, hr, _ => by cases hr
 | f + 1, j, i, hr, hd => by
  unfold reach at hr
  split at hr
  ·rename_i oj hj
   obtain ⟨e, he, hb⟩ := Array.any_eq_true'.1 hr
   simp only [Bool.and_eq_true, Bool.or_eq_true, beq_iff_eq] at hb
   have hl := hd oj hj e he hb.1
   rcases hb.2 with h1 | h1
   ·rw [← h1]; exact hl
   ·exact q7r h f e.on i h1 (fun oj' hj' e' he' hb' => h e.on oj' hj' hl e' he' hb')
  ·cases hr
/-- All others stand ahead of it or behind it. -/
def barrier (md : Region.Mode) (ops : Array Oper) (j : Nat) : Bool := (List.range ops.size).all fun i => i == j || reach md ops ops.size j i || reach md ops ops.size i j
theorem x2j {L : Array Bool} {i j : Nat} (h : Closed md ops L) (hb : barrier md ops j = true) (hi : i ∈ Region.ready md ops L) (hj : j ∈ Region.ready md ops L) (hne : i ≠ j) : False := by
 obtain ⟨hiu, oi, hoi, hia⟩ := mem_ready.1 hi
 obtain ⟨hju, oj, hoj, hja⟩ := mem_ready.1 hj
 have hlt : i < ops.size := (Array.getElem?_eq_some_iff.1 hoi).1
 have h1 := List.all_eq_true.1 hb i (List.mem_range.2 hlt)
 simp only [Bool.or_eq_true, beq_iff_eq] at h1
 rcases h1 with (h1 | h1) | h1
 ·exact hne h1
 ·have := q7r h _ j i h1 (fun o ho e he hbb => by have : o = oj := Option.some.inj (ho.symm.trans hoj); subst this; exact hja e he hbb)
  rw [getD_both hiu] at this; cases this
 ·have := q7r h _ i j h1 (fun o ho e he hbb => by have : o = oi := Option.some.inj (ho.symm.trans hoi); subst this; exact hia e he hbb)
  rw [getD_both hju] at this; cases this
def wpAnyT (P : Program) (md : Region.Mode) (ops : Array Oper) (Q : Exit → Act → World → Prop) : Nat → (World → Prop) → Array Bool → Act → World → Prop
 | 0, C, listed, a, w => ∀ w', Below w.heap.size w w' → C w' → Region.ready md ops listed = [] ∧ Q .normal a w'
 | fuel + 1, C, listed, a, w => ∀ w', Below w.heap.size w w' → C w' →
  (Region.ready md ops listed = [] → Q .normal a w') ∧
  ∀ i ∈ Region.ready md ops listed, wpOp P ops Q i (fun a' w'' => ∃ C', (barrier md ops i = true ∨ ∀ x, C' x → C x) ∧ Lasts C' ∧ C' w'' ∧ wpAnyT P md ops Q fuel C' (listed.setIfInBounds i true) a' w'') a w'
theorem q6k {C : World → Prop} {fuel : Nat} {listed : Array Bool} {a : Act} {w w1 : World} (h : wpAnyT P md ops Q fuel C listed a w) (hb : Below w.heap.size w w1) : wpAnyT P md ops Q fuel C listed a w1 := by
 cases fuel with
 | zero => exact fun w' hw' hC => h w' (hb.trans (hw'.mono hb.size)) hC
 | succ fuel => exact fun w' hw' hC => h w' (hb.trans (hw'.mono hb.size)) hC
theorem j5l : ∀ (fuel : Nat) (C : World → Prop) (listed : Array Bool) (a : Act) (w : World), C w → wpAnyT P md ops Q fuel C listed a w → wpAny P md ops Q fuel listed a w
 | 0, _, _, _, w, hC, h => h w (Below.refl _ _) hC
 | fuel + 1, _, _, _, w, hC, h =>
  have h := h w (Below.refl _ _) hC
  ⟨h.1, fun i hi => wpOp_mono (fun a' w' ⟨C', _, _, h1, h2⟩ => j5l fuel C' _ a' w' h1 h2) (h.2 i hi)⟩
theorem x0e {C : World → Prop} {listed : Array Bool} {a : Act} {w : World} (hr : Region.ready md ops listed = []) (h : ∀ w', Below w.heap.size w w' → C w' → Q .normal a w') :
  ∀ fuel, wpAnyT P md ops Q fuel C listed a w
 | 0 => fun w' hw' hC => ⟨hr, h w' hw' hC⟩
 | _ + 1 => fun w' hw' hC => ⟨fun _ => h w' hw' hC, by rw [hr]; simp⟩
theorem j1n {i : Nat} {oi : Oper} {v : Value} (hi : ops[i]? = some oi) (hsel : ∀ (j : Nat) (o : Oper) cs b, ops[j]? = some o → o.op ≠ .select cs b)
    (hQ : ∀ c a w, Q (.panic c) (a.put oi.dst v) w → Q (.panic c) a w) :
    ∀ (fuel : Nat) (C : World → Prop) (listed : Array Bool) (a : Act) (w : World), Lasts C → Closed md ops listed →
      (∀ j oj, ops[j]? = some oj → j ≠ i → listed.getD j true = false → (∀ e ∈ oj.after, Region.binds md e = true → e.on ≠ i) → oi.apart ops oj = true) →
      i ∈ Region.ready md ops listed → YieldsFl P ops C oi v a →
      wpAnyT P md ops Q fuel C (listed.setIfInBounds i true) (a.put oi.dst v) w → wpAnyT P md ops Q (fuel + 1) C listed a w := by
  intro fuel
  induction fuel with
  | zero =>
    intro C listed a w hCR hcl _ hr hy H w' hw' hC
    refine ⟨fun h => (by rw [h] at hr; cases hr), fun j hj => ?_⟩
    by_cases hji : j = i
    · subst hji
      exact hy.wpOp hi hC (fun w'' hb => ⟨C, .inr fun _ h => h, hCR, hCR _ _ hC hb, q6k (q6k H hw') hb⟩)
    · have := ready_mono hj hji
      rw [(H w' hw' hC).1] at this
      cases this
  | succ fuel ih =>
    intro C listed a w hCR hcl hfree hr hy H w' hw' hC
    refine ⟨fun h => (by rw [h] at hr; cases hr), fun j hj => ?_⟩
    by_cases hji : j = i
    · subst hji
      exact hy.wpOp hi hC (fun w'' hb => ⟨C, .inr fun _ h => h, hCR, hCR _ _ hC hb, q6k (q6k H hw') hb⟩)
    · have h1 := (H w' hw' hC).2 j (ready_mono hj hji)
      obtain ⟨hjun, oj, hoj, hall⟩ := mem_ready.1 hj
      have hnot : ∀ e ∈ oj.after, Region.binds md e = true → e.on ≠ i := fun e he hb heq => by
        have h1 := hall e he hb
        have h0 := (mem_ready.1 hr).1
        rw [heq] at h1
        rcases Nat.lt_or_ge i listed.size with h' | h'
        · simp [h'] at h0 h1; rw [h0] at h1; cases h1
        · simp [Array.getElem?_eq_none h'] at h1
      have h2 := x2x hoj (hfree j oj hoj hji hjun hnot) (fun cs b => hsel i oi cs b hi) (fun cs b => hsel j oj cs b hoj) hQ hy h1
      have hfree' : ∀ k ok, ops[k]? = some ok → k ≠ i → (listed.setIfInBounds j true).getD k true = false →
          (∀ e ∈ ok.after, Region.binds md e = true → e.on ≠ i) → oi.apart ops ok = true := fun k ok hk hki hun hno => by
        refine hfree k ok hk hki ?_ hno
        by_cases hjk : j = k
        · subst hjk; exact hjun
        · rw [getD_set_ne true hjk] at hun; exact hun
      refine wpOp_mono (fun a' w'' h3 => ?_) h2
      obtain ⟨hy', C', hsub, hl, hc, hrest⟩ := h3
      have hsub : ∀ x, C' x → C x := hsub.elim (fun hb => (x2j hcl hb hr hj (Ne.symm hji)).elim) id
      refine ⟨C', .inr hsub, hl, hc, ih C' (listed.setIfInBounds j true) a' w'' hl (hcl.set hj) hfree' (ready_mono hr (Ne.symm hji)) (hy'.sub hsub) ?_⟩
      rw [Array.setIfInBounds_comm _ _ hji]
      exact hrest
/-- A plan. -/
inductive Plan where
 | stop (q : List Nat)
 | fl (q : List Nat) (i : Nat) (p : Plan)
 | one (q : List Nat) (i : Nat) (p : Plan)
 | bar (q : List Nat) (i : Nat) (p : Plan)
 | two (q : List Nat) (i : Nat) (p : Plan) (j : Nat) (r : Plan)
 | three (q : List Nat) (i : Nat) (p : Plan) (j : Nat) (r : Plan) (k : Nat) (s : Plan)
def planB (md : Region.Mode) (ops : Array Oper) : Plan → Array Bool → Bool
 | .stop q, L => match quietB md ops q L with
  | none => false
  | some L1 => Region.ready md ops L1 == []
 | .fl q i p, L => match quietB md ops q L with
  | none => false
  | some L1 => (Region.ready md ops L1).contains i && Region.free md ops L1 i && planB md ops p (L1.setIfInBounds i true)
 | .one q i p, L => match quietB md ops q L with
  | none => false
  | some L1 => Region.ready md ops L1 == [i] && planB md ops p (L1.setIfInBounds i true)
 | .bar q i p, L => match quietB md ops q L with
  | none => false
  | some L1 => Region.ready md ops L1 == [i] && barrier md ops i && planB md ops p (L1.setIfInBounds i true)
 | .two q i p j r, L => match quietB md ops q L with
  | none => false
  | some L1 => Region.ready md ops L1 == [i, j] && planB md ops p (L1.setIfInBounds i true) && planB md ops r (L1.setIfInBounds j true)
 | .three q i p j r k s, L => match quietB md ops q L with
  | none => false
  | some L1 => Region.ready md ops L1 == [i, j, k] && planB md ops p (L1.setIfInBounds i true) && planB md ops r (L1.setIfInBounds j true) && planB md ops s (L1.setIfInBounds k true)
def Plan.len : Plan → Nat
 | .stop q => q.length
 | .fl q _ p => q.length + (p.len + 1)
 | .one q _ p => q.length + (p.len + 1)
 | .bar q _ p => q.length + (p.len + 1)
 | .two q _ p _ r => q.length + (max p.len r.len + 1)
 | .three q _ p _ r _ s => q.length + (max p.len (max r.len s.len) + 1)
/-- What an operation that is next owes: a class for what follows, no wider than the one before. -/
def goQ (K : World → Prop) (next : (World → Prop) → Act → World → Prop) : Exit → Act → World → Prop
 | .normal, a, w => ∃ K', (∀ x, K' x → K x) ∧ Lasts K' ∧ K' w ∧ next K' a w
 | _, _, _ => False
theorem q1e {K : World → Prop} {next : (World → Prop) → Act → World → Prop} {a : Act} {w : World} (hl : Lasts K) (h : K w) (h2 : next K a w) : goQ K next .normal a w := ⟨K, fun _ h => h, hl, h, h2⟩
theorem q6y {K : World → Prop} {next : (World → Prop) → Act → World → Prop} {a : Act} {w : World} (hl : Lasts K) (h : K w) (h2 : next (fun x => Below w.heap.size w x) a w) : goQ K next .normal a w :=
 ⟨_, fun _ hx => hl _ _ h hx, q3h (Nat.le_refl _), Below.refl _ _, h2⟩
/-- .. where all others stand ahead of it or behind it: any class. -/
def goB (next : (World → Prop) → Act → World → Prop) : Exit → Act → World → Prop
 | .normal, a, w => ∃ K', Lasts K' ∧ K' w ∧ next K' a w
 | _, _, _ => False
theorem q1v {next : (World → Prop) → Act → World → Prop} {a : Act} {w : World} (h2 : next (fun x => Below w.heap.size w x) a w) : goB next .normal a w :=
 ⟨_, q3h (Nat.le_refl _), Below.refl _ _, h2⟩
def opAt (l : List Oper) (i : Nat) : List Oper := match l[i]? with | some o => [o] | none => []
def wpPlan (P : Program) (l : List Oper) (N : Act → World → Prop) : Plan → (World → Prop) → Act → World → Prop
  | .stop q, K, a, w => wpQuiet P l.toArray (fun w2 => ∃ s : Kept K, w2 = s.w) (fun a' => ∀ w', Below w.heap.size w w' → K w' → N a' w') (pickOps l q) a
  | .fl q i p, K, a, w => wpQuiet P l.toArray (fun w2 => ∃ s : Kept K, w2 = s.w) (fun a' => match opAt l i with
      | [] => False
      | o :: _ => Floats P l.toArray (fun w2 => ∃ s : Kept K, w2 = s.w) o a' (fun a'' => wpPlan P l N p K a'' w)) (pickOps l q) a
  | .one q i p, K, a, w => wpQuiet P l.toArray (fun w2 => ∃ s : Kept K, w2 = s.w) (fun a' => ∀ w', Below w.heap.size w w' → K w' → wpList P l.toArray (goQ K (wpPlan P l N p)) (opAt l i) a' w') (pickOps l q) a
  | .bar q i p, K, a, w => wpQuiet P l.toArray (fun w2 => ∃ s : Kept K, w2 = s.w) (fun a' => ∀ w', Below w.heap.size w w' → K w' → wpList P l.toArray (goB (wpPlan P l N p)) (opAt l i) a' w') (pickOps l q) a
  | .two q i p j r, K, a, w => wpQuiet P l.toArray (fun w2 => ∃ s : Kept K, w2 = s.w) (fun a' => ∀ w', Below w.heap.size w w' → K w' →
      wpList P l.toArray (goQ K (wpPlan P l N p)) (opAt l i) a' w' ∧ wpList P l.toArray (goQ K (wpPlan P l N r)) (opAt l j) a' w') (pickOps l q) a
  | .three q i p j r k s, K, a, w => wpQuiet P l.toArray (fun w2 => ∃ s : Kept K, w2 = s.w) (fun a' => ∀ w', Below w.heap.size w w' → K w' →
      wpList P l.toArray (goQ K (wpPlan P l N p)) (opAt l i) a' w' ∧ wpList P l.toArray (goQ K (wpPlan P l N r)) (opAt l j) a' w' ∧ wpList P l.toArray (goQ K (wpPlan P l N s)) (opAt l k) a' w') (pickOps l q) a
theorem x4r {next : (World → Prop) → Act → World → Prop} (h : LetsOut (goB next)) : LetsOut Q := by obtain ⟨_, _, h⟩ := h; exact h.elim
theorem Oper.wp_goB {o : Oper} {a : Act} {w : World} {K : Act → World → Prop} {next : (World → Prop) → Act → World → Prop} (hh : o.wp P a w K (goB next)) : o.wp P a w K Q := by
 unfold Oper.wp at *
 generalize (execOp a.eval o).run P w = r at *
 cases r with
 | ok n w' =>
  cases n <;> simp only [Oper.upon] at hh ⊢ <;>
   first
    | exact hh
    | exact Calls.mono hh (fun e w'' he => by cases e <;> first | exact he | exact x4r he | exact he.elim)
 | halt x w' => cases x <;> simp only [Oper.upon] at hh ⊢ <;> first | exact hh.elim
theorem j9w {l : List Oper} {i : Nat} {next : (World → Prop) → Act → World → Prop} {M : Act → World → Prop} {a : Act} {w : World} (hi : i < l.length)
  (hM : ∀ a' w', goB next .normal a' w' → M a' w') (h : wpList P l.toArray (goB next) (opAt l i) a w) : wpOp P l.toArray Q i M a w := by
 have ho : l[i]? = some l[i] := List.getElem?_eq_getElem hi
 have ho' : l.toArray[i]? = some l[i] := by simp [hi]
 unfold opAt at h
 rw [ho] at h
 simp only [wpList] at h
 unfold wpOp
 simp only [ho']
 split
 ·rename_i hw
  rw [if_pos hw] at h
  refine h.imp (fun h1 => ?_) (fun h1 => ⟨h1.1, x4r h1.2⟩)
  exact Oper.wp_mono (fun a2 w2 h2 => hM _ _ h2) (Oper.wp_goB h1)
 ·rename_i hw
  rw [if_neg hw] at h
  exact hM _ _ h
theorem x4y {K : World → Prop} {next : (World → Prop) → Act → World → Prop} (h : LetsOut (goQ K next)) : LetsOut Q := by obtain ⟨_, _, h⟩ := h; exact h.elim
theorem Oper.wp_goQ {K0 : World → Prop} {o : Oper} {a : Act} {w : World} {K : Act → World → Prop} {next : (World → Prop) → Act → World → Prop} (hh : o.wp P a w K (goQ K0 next)) : o.wp P a w K Q := by
 unfold Oper.wp at *
 generalize (execOp a.eval o).run P w = r at *
 cases r with
 | ok n w' =>
  cases n <;> simp only [Oper.upon] at hh ⊢ <;>
   first
    | exact hh
    | exact Calls.mono hh (fun e w'' he => by cases e <;> first | exact he | exact x4y he | exact he.elim)
 | halt x w' => cases x <;> simp only [Oper.upon] at hh ⊢ <;> first | exact hh.elim
theorem q5z {l : List Oper} {i : Nat} {K : World → Prop} {next : (World → Prop) → Act → World → Prop} {M : Act → World → Prop} {a : Act} {w : World} (hi : i < l.length)
  (hM : ∀ a' w', goQ K next .normal a' w' → M a' w') (h : wpList P l.toArray (goQ K next) (opAt l i) a w) : wpOp P l.toArray Q i M a w := by
 have ho : l[i]? = some l[i] := List.getElem?_eq_getElem hi
 have ho' : l.toArray[i]? = some l[i] := by simp [hi]
 unfold opAt at h
 rw [ho] at h
 simp only [wpList] at h
 unfold wpOp
 simp only [ho']
 split
 ·rename_i hw
  rw [if_pos hw] at h
  refine h.imp (fun h1 => ?_) (fun h1 => ⟨h1.1, x4y h1.2⟩)
  exact Oper.wp_mono (fun a2 w2 h2 => hM _ _ h2) (Oper.wp_goQ h1)
 ·rename_i hw
  rw [if_neg hw] at h
  exact hM _ _ h
theorem q4n {C : World → Prop} (hl : Lasts C) {next : Act → Prop} (hs : Region.noSelect ops = true) (hQ : ∀ c a d v w, Q (.panic c) (Act.put a d v) w → Q (.panic c) a w) {w : World} {fuel : Nat} :
  ∀ (q : List Nat) (L L1 : Array Bool) (a : Act), Closed md ops L → quietB md ops q L = some L1 → (∀ a', Closed md ops L1 → next a' → wpAnyT P md ops Q fuel C L1 a' w) →
   wpQuiet P ops C next (pickOps ops.toList q) a → wpAnyT P md ops Q (q.length + fuel) C L a w
 | [], L, L1, a, hcl, hB, hn, h => by
  simp only [quietB, Option.some.injEq] at hB
  subst hB
  have := hn a hcl h
  simp only [List.length_nil, Nat.zero_add]
  exact this
 | i :: q, L, L1, a, hcl, hB, hn, h => by
  simp only [quietB] at hB
  split at hB
  ·rename_i hc
   simp only [Bool.and_eq_true] at hc
   obtain ⟨⟨h1, h2⟩, h3⟩ := hc
   cases ho : ops[i]? with
   | none => rw [ho] at h1; cases h1
   | some o =>
    rw [ho] at h1
    have hlo : ops.toList[i]? = some o := by simpa using ho
    simp only [pickOps, hlo, List.singleton_append] at h
    obtain ⟨v, hy, hK⟩ := j1e (P := P) (ops := ops) (o := o) (a := a) (C := C) (K := fun a' => wpQuiet P ops C next (pickOps ops.toList q) a') (by simpa using h1) h
    have hy' : YieldsFl P ops C o v a := hy.imp (fun hh => ⟨hh.1, fun w hC => by rw [hh.2 w hC]; exact ⟨rfl, rfl⟩⟩) id
    rw [show (i :: q).length + fuel = (q.length + fuel) + 1 by simp; omega]
    exact j1n ho (Region.noSelect_spec hs) (fun c a w => hQ c a o.dst v w) _ C L a w hl hcl (Region.free_spec ho h3) (by simpa using h2) hy' (q4n hl hs hQ q _ L1 _ (hcl.set (by simpa using h2)) hB hn hK)
  ·cases hB
theorem q8j {C : World → Prop} {fuel : Nat} {L : Array Bool} {a : Act} {w : World} {rs : List Nat} (hr : Region.ready md ops L = rs) (hne : rs ≠ [])
  (h : ∀ w', Below w.heap.size w w' → C w' → ∀ i ∈ rs, wpOp P ops Q i (fun a' w'' => ∃ C', (barrier md ops i = true ∨ ∀ x, C' x → C x) ∧ Lasts C' ∧ C' w'' ∧ wpAnyT P md ops Q fuel C' (L.setIfInBounds i true) a' w'') a w') :
  wpAnyT P md ops Q (fuel + 1) C L a w := fun w' hw' hC => ⟨fun h0 => absurd (hr.symm.trans h0) hne, fun i hi => h w' hw' hC i (hr ▸ hi)⟩
theorem q5s {K : World → Prop} (h : Lasts K) : Lasts (fun w2 => ∃ s : Kept K, w2 = s.w) := fun _ _ hk hb => kept (h _ _ (Kl.out hk) hb)
theorem j5w {l : List Oper} {i fuel : Nat} {L : Array Bool} {K : World → Prop} {N : Act → World → Prop} {p : Plan} {a : Act} {w : World}
  (ih : ∀ K a w, Lasts K → K w → wpPlan P l N p K a w → wpAnyT P md l.toArray Q fuel (fun w2 => ∃ s : Kept K, w2 = s.w) L a w) (h : goQ K (wpPlan P l N p) .normal a w) :
  ∃ C', (barrier md l.toArray i = true ∨ ∀ x, C' x → ∃ s : Kept K, x = s.w) ∧ Lasts C' ∧ C' w ∧ wpAnyT P md l.toArray Q fuel C' L a w := by
 obtain ⟨K', hsub, hl, hk, hn⟩ := h
 exact ⟨_, .inr fun x hx => kept (hsub _ (Kl.out hx)), q5s hl, kept hk, ih K' a w hl hk hn⟩
theorem goB_kl {l : List Oper} {i fuel : Nat} {L : Array Bool} {K : World → Prop} {N : Act → World → Prop} {p : Plan} {a : Act} {w : World} (hb : barrier md l.toArray i = true)
  (ih : ∀ K a w, Lasts K → K w → wpPlan P l N p K a w → wpAnyT P md l.toArray Q fuel (fun w2 => ∃ s : Kept K, w2 = s.w) L a w) (h : goB (wpPlan P l N p) .normal a w) :
  ∃ C', (barrier md l.toArray i = true ∨ ∀ x, C' x → ∃ s : Kept K, x = s.w) ∧ Lasts C' ∧ C' w ∧ wpAnyT P md l.toArray Q fuel C' L a w := by
 obtain ⟨K', hl, hk, hn⟩ := h
 exact ⟨_, .inl hb, q5s hl, kept hk, ih K' a w hl hk hn⟩
theorem q9u {L : Array Bool} {i : Nat} {l : List Oper} (h : i ∈ Region.ready md l.toArray L) : i < l.length := by
 obtain ⟨_, o, ho, _⟩ := mem_ready.1 h
 have := (Array.getElem?_eq_some_iff.1 ho).1
 simpa using this
theorem q3r {l : List Oper} (hs : Region.noSelect l.toArray = true) (hQ : ∀ c a d v w, Q (.panic c) (Act.put a d v) w → Q (.panic c) a w) :
  ∀ (p : Plan) (L : Array Bool) (k : Nat) (K : World → Prop) (a : Act) (w : World), Closed md l.toArray L → planB md l.toArray p L = true → Lasts K → K w →
   wpPlan P l (Q .normal) p K a w → wpAnyT P md l.toArray Q (p.len + k) (fun w2 => ∃ s : Kept K, w2 = s.w) L a w
 | .stop q, L, k, K, a, w, hcl, hB, hl, hK, h => by
  simp only [planB] at hB
  split at hB
  ·cases hB
  ·rename_i L1 hq
   rw [Plan.len]
   exact q4n (q5s hl) hs hQ q L L1 a hcl hq (fun a' hc1 ha' => x0e (by simpa using hB) (fun w' hw' hC => ha' w' hw' (Kl.out hC)) _) h
 | .fl q i p, L, k, K, a, w, hcl, hB, hl, hK, h => by
  simp only [planB] at hB
  split at hB
  ·cases hB
  ·rename_i L1 hq
   simp only [Bool.and_eq_true] at hB
   obtain ⟨⟨h1, h2⟩, h3⟩ := hB
   rw [Plan.len, show q.length + (p.len + 1) + k = q.length + ((p.len + k) + 1) by omega]
   refine q4n (q5s hl) hs hQ q L L1 a hcl hq (fun a' hc1 ha' => ?_) h
   have hm : i ∈ Region.ready md l.toArray L1 := by simpa using h1
   have hi := q9u hm
   have ho : l[i]? = some l[i] := List.getElem?_eq_getElem hi
   have ho' : l.toArray[i]? = some l[i] := by simp [hi]
   unfold opAt at ha'
   rw [ho] at ha'
   obtain ⟨v, hy, hKK⟩ := ha'
   exact j1n ho' (Region.noSelect_spec hs) (fun c a w => hQ c a _ v w) _ _ L1 a' w (q5s hl) hc1 (Region.free_spec ho' h2) hm hy (q3r hs hQ p _ k K _ w (hc1.set hm) h3 hl hK hKK)
 | .one q i p, L, k, K, a, w, hcl, hB, hl, hK, h => by
  simp only [planB] at hB
  split at hB
  ·cases hB
  ·rename_i L1 hq
   simp only [Bool.and_eq_true] at hB
   obtain ⟨h1, h3⟩ := hB
   rw [Plan.len, show q.length + (p.len + 1) + k = q.length + ((p.len + k) + 1) by omega]
   refine q4n (q5s hl) hs hQ q L L1 a hcl hq (fun a' hc1 ha' => ?_) h
   have hr : Region.ready md l.toArray L1 = [i] := by simpa using h1
   refine q8j hr (by simp) (fun w' hw' hC j hj => ?_)
   have hji : j = i := by simpa using hj
   subst hji
   refine q5z (q9u (hr ▸ hj)) (fun a2 w2 h2 => ?_) (ha' w' hw' (Kl.out hC))
   exact j5w (fun K a w hl hK hp => q3r hs hQ p _ k K a w (hc1.set (hr ▸ hj)) h3 hl hK hp) h2
 | .bar q i p, L, k, K, a, w, hcl, hB, hl, hK, h => by
  simp only [planB] at hB
  split at hB
  ·cases hB
  ·rename_i L1 hq
   simp only [Bool.and_eq_true] at hB
   obtain ⟨⟨h1, hbar⟩, h3⟩ := hB
   rw [Plan.len, show q.length + (p.len + 1) + k = q.length + ((p.len + k) + 1) by omega]
   refine q4n (q5s hl) hs hQ q L L1 a hcl hq (fun a' hc1 ha' => ?_) h
   have hr : Region.ready md l.toArray L1 = [i] := by simpa using h1
   refine q8j hr (by simp) (fun w' hw' hC j hj => ?_)
   have hji : j = i := by simpa using hj
   subst hji
   refine j9w (q9u (hr ▸ hj)) (fun a2 w2 h2 => ?_) (ha' w' hw' (Kl.out hC))
   exact goB_kl hbar (fun K a w hl hK hp => q3r hs hQ p _ k K a w (hc1.set (hr ▸ hj)) h3 hl hK hp) h2
 | .two q i p j r, L, k, K, a, w, hcl, hB, hl, hK, h => by
  simp only [planB] at hB
  split at hB
  ·cases hB
  ·rename_i L1 hq
   simp only [Bool.and_eq_true] at hB
   obtain ⟨⟨h1, h3⟩, h4⟩ := hB
   have m1 := Nat.le_max_left p.len r.len
   have m2 := Nat.le_max_right p.len r.len
   rw [Plan.len]
   generalize max p.len r.len = m at *
   rw [show q.length + (m + 1) + k = q.length + ((m + k) + 1) by omega]
   refine q4n (q5s hl) hs hQ q L L1 a hcl hq (fun a' hc1 ha' => ?_) h
   have hr : Region.ready md l.toArray L1 = [i, j] := by simpa using h1
   refine q8j hr (by simp) (fun w' hw' hC x hx => ?_)
   obtain ⟨g1, g2⟩ := ha' w' hw' (Kl.out hC)
   have hx' := hr ▸ hx
   have hlt := q9u hx'
   simp only [List.mem_cons, List.not_mem_nil, or_false] at hx
   rcases hx with rfl | rfl
   ·refine q5z hlt (fun a2 w2 h2 => ?_) g1
    rw [show m + k = p.len + (m - p.len + k) by omega]
    exact j5w (fun K a w hl hK hp => q3r hs hQ p _ (m - p.len + k) K a w (hc1.set hx') h3 hl hK hp) h2
   ·refine q5z hlt (fun a2 w2 h2 => ?_) g2
    rw [show m + k = r.len + (m - r.len + k) by omega]
    exact j5w (fun K a w hl hK hp => q3r hs hQ r _ (m - r.len + k) K a w (hc1.set hx') h4 hl hK hp) h2
 | .three q i p j r n s, L, k, K, a, w, hcl, hB, hl, hK, h => by
  simp only [planB] at hB
  split at hB
  ·cases hB
  ·rename_i L1 hq
   simp only [Bool.and_eq_true] at hB
   obtain ⟨⟨⟨h1, h3⟩, h4⟩, h5⟩ := hB
   have m1 := Nat.le_max_left p.len (max r.len s.len)
   have m0 := Nat.le_max_right p.len (max r.len s.len)
   have m2 := Nat.le_trans (Nat.le_max_left r.len s.len) m0
   have m3 := Nat.le_trans (Nat.le_max_right r.len s.len) m0
   rw [Plan.len]
   generalize max p.len (max r.len s.len) = m at *
   rw [show q.length + (m + 1) + k = q.length + ((m + k) + 1) by omega]
   refine q4n (q5s hl) hs hQ q L L1 a hcl hq (fun a' hc1 ha' => ?_) h
   have hr : Region.ready md l.toArray L1 = [i, j, n] := by simpa using h1
   refine q8j hr (by simp) (fun w' hw' hC x hx => ?_)
   obtain ⟨g1, g2, g3⟩ := ha' w' hw' (Kl.out hC)
   have hx' := hr ▸ hx
   have hlt := q9u hx'
   simp only [List.mem_cons, List.not_mem_nil, or_false] at hx
   rcases hx with rfl | rfl | rfl
   ·refine q5z hlt (fun a2 w2 h2 => ?_) g1
    rw [show m + k = p.len + (m - p.len + k) by omega]
    exact j5w (fun K a w hl hK hp => q3r hs hQ p _ (m - p.len + k) K a w (hc1.set hx') h3 hl hK hp) h2
   ·refine q5z hlt (fun a2 w2 h2 => ?_) g2
    rw [show m + k = r.len + (m - r.len + k) by omega]
    exact j5w (fun K a w hl hK hp => q3r hs hQ r _ (m - r.len + k) K a w (hc1.set hx') h4 hl hK hp) h2
   ·refine q5z hlt (fun a2 w2 h2 => ?_) g3
    rw [show m + k = s.len + (m - s.len + k) by omega]
    exact j5w (fun K a w hl hK hp => q3r hs hQ s _ (m - s.len + k) K a w (hc1.set hx') h5 hl hK hp) h2
end
/-- The region by a plan. -/
theorem q1m {P : Program} {id : Nat} {Q : Exit → Act → World → Prop} {a : Act} {w : World} {l : List Oper} (K : World → Prop) (p : Plan) (hm : P.follows .mixedOrders = true)
  (hs : Region.noSelect l.toArray = true) (hB : planB .any l.toArray p (Array.replicate l.toArray.size false) = true) (hlen : p.len ≤ l.toArray.size)
  (hl : Lasts K) (hK : K w) (h : ∀ w', Below w.heap.size w w' → w'.heap.size = w.heap.size → K w' → wpPlan P l (Q .normal) p K a w') : (Code.region id l.toArray true).wp P Q a w := by
 have hmono : ∀ e a w, calmQ Q e a w → Q e a w := fun e a w h => by cases e <;> first | exact h | exact h.elim
 refine Code.wp_mono hmono (wp_region_any hm ?_)
 have hK' : K { w with drawn := w.drawn + 1 } := hl _ _ hK (Below.refl _ w).drew
 have := q3r (P := P) (md := .any) (Q := calmQ Q) hs (fun _ _ _ _ _ h => h.elim) p (Array.replicate l.toArray.size false) (l.toArray.size - p.len) K a { w with drawn := w.drawn + 1 } j7r hB hl hK'
  (h _ (Below.refl _ w).drew rfl hK')
 rw [show p.len + (l.toArray.size - p.len) = l.toArray.size by omega] at this
 exact j5l _ _ _ _ _ (kept hK') this
/-! ### The steps -/
section
variable {P : Program} {l : List Oper} {N : Act → World → Prop} {K : World → Prop} {a : Act} {w : World}
theorem q2l {q : List Nat} (h : wpQuiet P l.toArray (fun w2 => ∃ s : Kept K, w2 = s.w) (fun a' => ∀ w', Below w.heap.size w w' → K w' → N a' w') (pickOps l q) a) : wpPlan P l N (.stop q) K a w := h
theorem q7m {q : List Nat} {i : Nat} {p : Plan} (h : wpQuiet P l.toArray (fun w2 => ∃ s : Kept K, w2 = s.w) (fun a' => match opAt l i with
      | [] => False
      | o :: _ => Floats P l.toArray (fun w2 => ∃ s : Kept K, w2 = s.w) o a' (fun a'' => wpPlan P l N p K a'' w)) (pickOps l q) a) : wpPlan P l N (.fl q i p) K a w := h
theorem q0w {q : List Nat} {i : Nat} {p : Plan} (h : wpQuiet P l.toArray (fun w2 => ∃ s : Kept K, w2 = s.w) (fun a' => ∀ w', Below w.heap.size w w' → K w' → wpList P l.toArray (goQ K (wpPlan P l N p)) (opAt l i) a' w') (pickOps l q) a) : wpPlan P l N (.one q i p) K a w := h
theorem q2u {q : List Nat} {i : Nat} {p : Plan} (h : wpQuiet P l.toArray (fun w2 => ∃ s : Kept K, w2 = s.w) (fun a' => ∀ w', Below w.heap.size w w' → K w' → wpList P l.toArray (goB (wpPlan P l N p)) (opAt l i) a' w') (pickOps l q) a) : wpPlan P l N (.bar q i p) K a w := h
theorem j2i {q : List Nat} {i j : Nat} {p r : Plan} (h : wpQuiet P l.toArray (fun w2 => ∃ s : Kept K, w2 = s.w) (fun a' => ∀ w', Below w.heap.size w w' → K w' →
      wpList P l.toArray (goQ K (wpPlan P l N p)) (opAt l i) a' w' ∧ wpList P l.toArray (goQ K (wpPlan P l N r)) (opAt l j) a' w') (pickOps l q) a) : wpPlan P l N (.two q i p j r) K a w := h
end
section
variable {o : Oper} {a : Act} {K : Act → Prop} {w0 : World}
theorem q7z {P : Program} (ty : TypeId) (x : Operand) (ho : o.op = .load ty x) {b k : Nat} {cs : List Value} (hx : a.eval x = .pointer (some ⟨b, k, none⟩)) (h : Cells w0 b k cs) (d : TypeDesc) (hu : P.underlying ty = some d)
  (hd : (match d with | .struct _ | .array _ _ => true | _ => false) = true) (hi : (P.info? ty).map (·.size) = some cs.length) (hk : K (a.put o.dst (.agg cs.toArray))) : o.quiet P a (fun w' => ∃ s : Kept (fun x => Below w0.heap.size w0 x), w' = s.w) K :=
 q2i ty x ho hx (fun w hw => h.later (Kl.out hw)) d hu hd hi hk
theorem q5m (x : Operand) (ho : o.op = .load 34 x) {b k : Nat} {l : List UInt8} (hx : a.eval x = .pointer (some ⟨b, k, none⟩)) (h : Cells w0 b k (bvs l)) (hl : l.length = 32) (hk : K (a.put o.dst (hv l))) :
  o.quiet Tryz.prog a (fun w' => ∃ s : Kept (fun x => Below w0.heap.size w0 x), w' = s.w) K :=
 q7z 34 x ho hx h _ Tryz.underlying34 rfl (by rw [q0c, hl]; exact hashInfo) hk
end
theorem q0h {ops : Array Oper} {rest : List Oper} {o : Oper} {a : Act} {w : World} {Q : Exit → Act → World → Prop} (hw : Region.wanted o (yielded ops a.tmps) = true) (x : Operand) (ho : o.op = .load 34 x) {b k : Nat} {l : List UInt8}
  (hx : a.eval x = .pointer (some ⟨b, k, none⟩)) (h : Cells w b k (bvs l)) (hl : l.length = 32) (hk : wpList Tryz.prog ops Q rest (a.put o.dst (hv l)) w) : wpList Tryz.prog ops Q (o :: rest) a w :=
 q1t hw 34 x ho hx h _ Tryz.underlying34 rfl (by rw [q0c, hl]; exact hashInfo) hk
theorem q0m {o : Oper} {a : Act} {K : Act → Prop} {w0 : World} (x : Operand) (ho : o.op = .load 34 x) {b k : Nat} {l : List UInt8} (hx : a.eval x = .pointer (some ⟨b, k, none⟩)) (h : Cells w0 b k (bvs l)) (hl : l.length = 32) (hk : K (a.put o.dst (hv l))) :
  o.quiet Tryz.prog a (fun w' => ∃ s : Since w0, w' = s.w) K :=
 q2i 34 x ho hx h.since _ Tryz.underlying34 rfl (by rw [q0c, hl]; exact hashInfo) hk
end Go.Proofs.YtbbfnpfkbbpjgaaGreat
namespace Go.Proofs.YtbbfnpfkbbpjgaaGreat
open Go.RowKit Go.Lib
set_option linter.unusedVariables false
set_option linter.unusedSimpArgs false
set_option maxRecDepth 100000
set_option maxHeartbeats 4000000
theorem j8h (off : Nat) : ∀ (l : List Value) (k : Nat) (cs : Array Value), off + k + l.length ≤ cs.size →
  (l.zipIdx k).foldl (fun cs x => cs.setIfInBounds (off + x.2) x.1) cs = (cs.toList.take (off + k) ++ l ++ cs.toList.drop (off + k + l.length)).toArray
 | [], k, cs, h => by simp
 | v :: l, k, cs, h => by
  simp only [List.zipIdx_cons, List.foldl_cons, List.length_cons] at h ⊢
  rw [j8h off l (k + 1) _ (by simp; omega)]
  have hlt : off + k < cs.toList.length := by simp; omega
  apply Array.ext'
  simp only [Array.toList_setIfInBounds]
  rw [show off + (k + 1) = off + k + 1 by omega, List.take_succ_eq_append_getElem (by simpa using hlt), List.take_set_of_le (by omega), List.getElem_set_self, List.drop_set_of_lt (by omega), show off + k + 1 + l.length = off + k + (l.length + 1) by omega]
  simp
theorem x9v (off : Nat) (v : Value) (cs : Array Value) (h : off + v.cells.size ≤ cs.size) :
  v.cells.zipIdx.foldl (fun cs (x : Value × Nat) => cs.setIfInBounds (off + x.2) x.1) cs = (cs.toList.take off ++ v.cells.toList ++ cs.toList.drop (off + v.cells.size)).toArray := by
 rw [← Array.foldl_toList, Array.toList_zipIdx]
 have := j8h off v.cells.toList 0 cs (by simpa using h)
 simpa using this
theorem j5e (sz : Nat) : ∀ (vs : List Value) (k : Nat) (cs : Array Value), (∀ v ∈ vs, v.cells.size = sz) → (k + vs.length) * sz ≤ cs.size →
  Instr.fill (fun i => some (i * sz, sz)) cs ((vs.zipIdx k).map fun x => (x.2, x.1)) = some (cs.toList.take (k * sz) ++ vs.flatMap (fun v => v.cells.toList) ++ cs.toList.drop ((k + vs.length) * sz)).toArray
 | [], k, cs, _, h => by simp [Instr.fill]
 | v :: vs, k, cs, hv, h => by
  have h0 := hv v (by simp)
  have hle : k * sz + sz ≤ cs.size := by
   refine Nat.le_trans ?_ h
   rw [List.length_cons, show k + (vs.length + 1) = (k + 1) + vs.length by omega, Nat.add_mul (k + 1), Nat.add_mul]
   omega
  simp only [List.zipIdx_cons, List.map_cons, Instr.fill]
  rw [if_neg (by simp only [h0, ne_eq, not_true_eq_false, decide_false, Bool.false_or, decide_eq_true_eq]; omega)]
  have e := x9v (k * sz) v cs (by rw [h0]; exact hle)
  rw [show (v.cells.zipIdx.foldl (fun cs x => match x with | (c, j) => cs.setIfInBounds (k * sz + j) c) cs) = _ from e]
  have hcs : (cs.toList.take (k * sz) ++ v.cells.toList ++ cs.toList.drop (k * sz + v.cells.size)).toArray.size = cs.size := by
   simp [h0]; omega
  rw [j5e sz vs (k + 1) _ (fun x hx => hv x (by simp [hx])) (by rw [hcs, show k + 1 + vs.length = k + (v :: vs).length by simp; omega]; exact h)]
  congr 1
  have ek : (k + 1) * sz = k * sz + sz := by rw [Nat.add_mul]; omega
  have hlk : (cs.toList.take (k * sz)).length = k * sz := by simp; omega
  have hl2 : (cs.toList.take (k * sz) ++ v.cells.toList).length = k * sz + sz := by rw [List.length_append, hlk]; simp [h0]
  apply Array.ext'
  simp only [List.flatMap_cons]
  have e2 : (k + 1 + vs.length) * sz = (k * sz + sz) + vs.length * sz := by rw [Nat.add_mul, Nat.add_mul]; omega
  have e3 : (k + (v :: vs).length) * sz = (k * sz + sz) + vs.length * sz := by rw [List.length_cons, Nat.add_mul, Nat.add_mul]; omega
  rw [ek, e2, e3, h0]
  generalize vs.length * sz = m at *
  generalize vs.flatMap (fun v => v.cells.toList) = F at *
  have ht : (cs.toList.take (k * sz) ++ v.cells.toList ++ cs.toList.drop (k * sz + sz)).take (k * sz + sz) = cs.toList.take (k * sz) ++ v.cells.toList := by
   rw [← hl2, List.take_left]
  have hd : (cs.toList.take (k * sz) ++ v.cells.toList ++ cs.toList.drop (k * sz + sz)).drop (k * sz + sz + m) = cs.toList.drop (k * sz + sz + m) := by
   rw [List.drop_append, hl2, List.drop_of_length_le (by omega), List.nil_append, List.drop_drop]
   congr 1
   omega
  rw [ht, hd]
  simp [List.append_assoc]
/-- A slice literal of n elements of sz cells each, every place written. -/
theorem q9w {P : Program} (w : World) (t e : TypeId) (sz : Nat) (vs : List Value) (parts : Array (Nat × Value)) (hp : parts.toList = vs.zipIdx.map fun x => (x.2, x.1)) (ie : TypeInfo) (hu : P.underlying t = some (.slice e)) (hie : P.info? e = some ie) (hsz : ie.size = sz)
  (z : Value) (hz : ie.zero = some z) (hv : ∀ v ∈ vs, v.cells.size = sz) (h0 : 0 < vs.length * sz) (h1 : vs.length * sz ≤ 16777216) :
  (Instr.buildSlice t vs.length parts).run P w = .ok (.slice (some ⟨w.heap.size, 0, none⟩) vs.length vs.length) (w.alloc (.cells (vs.flatMap (fun v => v.cells.toList)).toArray e)) := by
 subst hsz
 refine run_buildSlice w t e vs.length parts _ ie z hu hie hz (by omega) (by omega) ?_
 rw [hp, j5e ie.size vs 0 _ hv (by simp)]
 simp
theorem sl_new (w : World) (e : TypeId) (sz : Nat) (els : List (List Value)) (hl : ∀ x ∈ els, x.length = sz) (hm : els.length ≤ maxLen) :
  Sl (w.alloc (.cells els.flatten.toArray e)) (.slice (some ⟨w.heap.size, 0, none⟩) els.length els.length) sz els := by
 refine ⟨_, _, rfl, Nat.le_refl _, hm, hl, fun h => (by cases h), fun hne => ⟨w.heap.size, 0, rfl, by simp, fun i x hx j v hv => ?_⟩⟩
 have := Cells.arr (Arr.new w els.flatten e)
 rw [Nat.zero_add]
 have := this (i * sz + j) v (q6f sz els hl i x hx j v hv)
 simpa using this
theorem j6l : ∀ els : List (List Value), els.flatMap (fun x => (Value.agg x.toArray).cells.toList) = els.flatten
 | [] => rfl
 | x :: r => by rw [List.flatMap_cons, List.flatten_cons, j6l r]; rfl
section
variable {P : Program} {ops : Array Oper} {rest : List Oper} {o : Oper} {a : Act} {w : World} {Q : Exit → Act → World → Prop} {K : Act → Prop}
theorem x5n (hw : Region.wanted o (yielded ops a.tmps) = true) (t e : TypeId) (sz n : Nat) (parts : Array (Nat × Operand)) (ho : o.op = .buildSlice t n parts) (els : List (List Value)) (hn : els.length = n)
  (hp : (parts.map fun (i, x) => (i, a.eval x)).toList = (els.map fun x => Value.agg x.toArray).zipIdx.map fun x => (x.2, x.1)) (ie : TypeInfo) (hu : P.underlying t = some (.slice e)) (hie : P.info? e = some ie) (hsz : ie.size = sz) (z : Value) (hz : ie.zero = some z)
  (hl : ∀ x ∈ els, x.length = sz) (h0 : 0 < n * sz) (h1 : n * sz ≤ 16777216)
  (hk : ∀ w2, Sl w2 (.slice (some ⟨w.heap.size, 0, none⟩) n n) sz els → Below w.heap.size w w2 → w.heap.size < w2.heap.size → wpList P ops Q rest (a.put o.dst (.slice (some ⟨w.heap.size, 0, none⟩) n n)) w2) : wpList P ops Q (o :: rest) a w := by
 subst hn
 refine BigFrame.wpList_want hw fun _ hK => ?_
 have hr := q9w (P := P) w t e sz (els.map fun x => Value.agg x.toArray) _ hp ie hu hie hsz z hz (by intro v hv; obtain ⟨x, hx, rfl⟩ := List.mem_map.1 hv; simpa [Value.cells] using hl x hx) (by simpa using h0) (by simpa using h1)
 have ef : (els.map fun x => Value.agg x.toArray).flatMap (fun v => v.cells.toList) = els.flatten := by
  rw [List.flatMap_map]; exact j6l els
 rw [ef, List.length_map] at hr
 unfold Oper.wp execOp
 simp only [ho, Sem.run_bind, hr, Result.andThen_ok]
 refine hK _ _ (hk _ (sl_new w e sz els hl ?_) (below1 _ _) (by simp))
 have : els.length * 1 ≤ els.length * sz := Nat.mul_le_mul_left _ (Nat.pos_of_ne_zero fun h => by rw [h] at h0; simp at h0)
 unfold maxLen; omega
end
/-- The slice v holds the hashes l. -/
def Hs (w : World) (v : Value) (l : List (List UInt8)) : Prop := Sl w v 32 (l.map bvs) ∧ ∀ h ∈ l, h.length = 32
theorem Hs.later {w w' : World} {v : Value} {l : List (List UInt8)} (h : Hs w v l) (hb : Below w.heap.size w w') : Hs w' v l := ⟨h.1.later hb, h.2⟩
theorem Hs.nil (w : World) : Hs w (.slice none 0 0) [] := ⟨Sl.nil w 32, by simp⟩
theorem Hs.shape {w : World} {v : Value} {l : List (List UInt8)} (h : Hs w v l) : ∃ a cap, v = .slice a l.length cap ∧ l.length ≤ cap ∧ cap ≤ maxLen ∧ (a = none → cap = 0) := by
 obtain ⟨⟨a, cap, h1, h2, h3, _, h0, _⟩, _⟩ := h
 exact ⟨a, cap, by simpa using h1, by simpa using h2, h3, h0⟩
/-- .. which are not none: they stand in a block. -/
theorem Hs.block {w : World} {v : Value} {l : List (List UInt8)} (h : Hs w v l) (hne : 0 < l.length) : ∃ b k cap, v = .slice (some ⟨b, k, none⟩) l.length cap ∧ l.length ≤ cap ∧ cap ≤ maxLen ∧ b < w.heap.size ∧ ∀ i, i < l.length → Cells w b (k + i * 32) (bvs (l.getD i [])) := by
 obtain ⟨⟨a, cap, h1, h2, h3, h4, h0, h5⟩, _⟩ := h
 obtain ⟨b, k, rfl, hb, hc⟩ := h5 (by intro h0; simp at h0; subst h0; simp at hne)
 refine ⟨b, k, cap, by simpa using h1, by simpa using h2, h3, hb, fun i hi => hc i _ ?_⟩
 simp [hi]
theorem Hs.drop {w : World} {a : Option Addr} {n cap : Nat} {l : List (List UInt8)} (h : Hs w (.slice a n cap) l) (lo : Nat) (hlo : lo ≤ n) : Hs w (.slice (if cap = lo then a else a.map (·.add (lo * 32))) (n - lo) (cap - lo)) (l.drop lo) :=
 ⟨by have := h.1.drop lo hlo (by decide); rwa [← List.map_drop] at this, fun x hx => h.2 x (List.mem_of_mem_drop hx)⟩
theorem hashIe : ∃ ie z, Tryz.prog.info? 34 = some ie ∧ ie.size = 32 ∧ ie.zero = some z := by
 obtain ⟨i, hi, h⟩ := Option.map_eq_some_iff.1 (show (Tryz.prog.info? 34).map (fun i => (i.size, i.zero.isSome)) = some (32, true) by kernel_rfl)
 simp only [Prod.mk.injEq] at h
 obtain ⟨z, hz⟩ := Option.isSome_iff_exists.1 h.2
 exact ⟨i, z, hi, h.1, hz⟩
theorem q8p {ops : Array Oper} {rest : List Oper} {o : Oper} {a : Act} {w : World} {Q : Exit → Act → World → Prop} (hw : Region.wanted o (yielded ops a.tmps) = true) (n : Nat) (parts : Array (Nat × Operand)) (ho : o.op = .buildSlice 63 n parts) (l : List (List UInt8)) (hn : l.length = n)
  (hp : (parts.map fun (i, x) => (i, a.eval x)).toList = (l.map hv).zipIdx.map fun x => (x.2, x.1)) (hl : ∀ h ∈ l, h.length = 32) (h0 : 0 < n) (h1 : n ≤ 524288)
  (hk : ∀ w2, Hs w2 (.slice (some ⟨w.heap.size, 0, none⟩) n n) l → Below w.heap.size w w2 → w.heap.size < w2.heap.size → wpList Tryz.prog ops Q rest (a.put o.dst (.slice (some ⟨w.heap.size, 0, none⟩) n n)) w2) : wpList Tryz.prog ops Q (o :: rest) a w := by
 obtain ⟨ie, z, h2, h3, h4⟩ := hashIe
 refine x5n hw 63 34 32 n parts ho (l.map bvs) (by simpa using hn) (by rw [hp, List.map_map]; rfl) ie Tryz.underlying63 h2 h3 z h4 (fun x hx => ?_) (by omega) (by omega) (fun w2 hs hb hz => hk w2 ⟨hs, hl⟩ hb hz)
 obtain ⟨h, hh, rfl⟩ := List.mem_map.1 hx
 rw [q0c]; exact hl h hh
theorem x9o (h : List UInt8) (hl : h.length = 32) (w : World) :
  Calls Tryz.prog 93 #[hv h] w fun e w' => e = .returned (hv (leafL h)) ∧ Below w.heap.size w w' := by
 obtain ⟨R, hR⟩ : ∃ R, R = leafL h := ⟨_, rfl⟩
 have HO : Hid (∀ w, Calls Tryz.prog 61 #[.string ⟨#[108, 101, 97, 102]⟩, .slice (some ⟨w.heap.size, 0, none⟩) 1 1] (w.alloc (.cells #[.string ⟨h.toArray⟩] 9)) fun e w' => e = .returned (hv R) ∧ Below w.heap.size w w') := fun w => by rw [hR]; exact of1 tagLeaf h w (by decide) (by omega)
 have HB := hide (fun w => q3t h w hl)
 have HL : Hid (R.length = 32) := by rw [hR]; exact q1z _ _
 rw [← hR]
 have hA := HashAt.alloc (HashAt.new w h hl) (.cells (bvs zero32).toArray 34)
 have z := HashAt.new2 w (.cells (bvs h).toArray 34) zero32 rfl
 have b := below2 w (.cells (bvs h).toArray 34) (.cells (bvs zero32).toArray 34)
 clear hR hl
 generalize (⟨h.toArray⟩ : ByteArray) = hb at *
 unfold hv
 go_enter Tryz.func93, Tryz.ntmps93
 go_wp2_with (refine q1a (w := (w.alloc (.cells (bvs h).toArray 34)).alloc (.cells (bvs zero32).toArray 34)) rfl _ rfl rfl hA ?_)
 show Calls _ _ _ ((w.alloc (.cells (bvs h).toArray 34)).alloc (.cells (bvs zero32).toArray 34)) _
 generalize (w.alloc (.cells (bvs h).toArray 34)).alloc (.cells (bvs zero32).toArray 34) = W at *
 refine (HB.out _).mono ?_
 rintro _ wc1 ⟨rfl, hc1⟩
 replace z := z.later hc1
 replace b := later b hc1
 clear hc1
 go_wp2_with fail
 refine (HO.out _).mono ?_
 rintro _ wc2 ⟨rfl, hc2⟩
 replace z := z.later hc2
 replace b := later b hc2
 clear hc2
 have zr := z.row R HL.out
 have br := q0p (b := w.heap.size + 1) b (by omega) (bvs R).toArray
 go_wp2_with (refine q0y rfl _ _ rfl rfl rfl HL.out z ?_)
 exact bodyPost_ret (v := hv R) (q2v rfl _ _ rfl zr) rfl ⟨rfl, br⟩
theorem j9y (h : List UInt8) (hl : h.length = 32) (w : World) :
  Calls Tryz.prog 155 #[hv h] w fun e w' => e = .returned (hv (leafL h)) ∧ Below w.heap.size w w' := by
 obtain ⟨R, hR⟩ : ∃ R, R = leafL h := ⟨_, rfl⟩
 have HO : Hid (∀ w, Calls Tryz.prog 57 #[.string ⟨#[108, 101, 97, 102]⟩, .string ⟨h.toArray⟩] w fun e w' => e = .returned (hv R) ∧ Below w.heap.size w w') := fun w => by rw [hR]; exact j5r tagLeaf h w (by decide) (by omega)
 have HB := hide (fun w => q2w h w hl)
 have HL : Hid (R.length = 32) := by rw [hR]; exact q1z _ _
 rw [← hR]
 have hA := HashAt.alloc (HashAt.new w h hl) (.cells (bvs zero32).toArray 34)
 have z := HashAt.new2 w (.cells (bvs h).toArray 34) zero32 rfl
 have b := below2 w (.cells (bvs h).toArray 34) (.cells (bvs zero32).toArray 34)
 clear hR hl
 generalize (⟨h.toArray⟩ : ByteArray) = hb at *
 unfold hv
 go_enter Tryz.func155, Tryz.ntmps155
 go_wp2_with (refine q1a (w := (w.alloc (.cells (bvs h).toArray 34)).alloc (.cells (bvs zero32).toArray 34)) rfl _ rfl rfl hA ?_)
 show Calls _ _ _ ((w.alloc (.cells (bvs h).toArray 34)).alloc (.cells (bvs zero32).toArray 34)) _
 generalize (w.alloc (.cells (bvs h).toArray 34)).alloc (.cells (bvs zero32).toArray 34) = W at *
 refine (HB.out _).mono ?_
 rintro _ wc3 ⟨rfl, hc3⟩
 replace z := z.later hc3
 replace b := later b hc3
 clear hc3
 go_wp2_with fail
 refine (HO.out _).mono ?_
 rintro _ wc4 ⟨rfl, hc4⟩
 replace z := z.later hc4
 replace b := later b hc4
 clear hc4
 have zr := z.row R HL.out
 have br := q0p (b := w.heap.size + 1) b (by omega) (bvs R).toArray
 go_wp2_with (refine q0y rfl _ _ rfl rfl rfl HL.out z ?_)
 exact bodyPost_ret (v := hv R) (q2v rfl _ _ rfl zr) rfl ⟨rfl, br⟩
theorem below3z (w : World) (a b : List UInt8) (ha : a.length = 32) (hb : b.length = 32) :
  HashAt (((w.alloc (.cells (bvs a).toArray 34)).alloc (.cells (bvs b).toArray 34)).alloc (.cells (bvs zero32).toArray 34)) w.heap.size a ∧ HashAt (((w.alloc (.cells (bvs a).toArray 34)).alloc (.cells (bvs b).toArray 34)).alloc (.cells (bvs zero32).toArray 34)) (w.heap.size + 1) b ∧
  HashAt (((w.alloc (.cells (bvs a).toArray 34)).alloc (.cells (bvs b).toArray 34)).alloc (.cells (bvs zero32).toArray 34)) (w.heap.size + 2) zero32 ∧ Below w.heap.size w (((w.alloc (.cells (bvs a).toArray 34)).alloc (.cells (bvs b).toArray 34)).alloc (.cells (bvs zero32).toArray 34)) :=
 ⟨HashAt.alloc (HashAt.alloc (HashAt.new w a ha) _) _, HashAt.alloc (HashAt.new2 w _ b hb) _, HashAt.new3 w _ _ zero32 rfl, below3a w _ _ _⟩
theorem z0m (x y : List UInt8) (hx : x.length = 32) (hy : y.length = 32) (w : World) :
  Calls Tryz.prog 94 #[hv x, hv y] w fun e w' => e = .returned (hv (pairL x y)) ∧ Below w.heap.size w w' := by
 obtain ⟨R, hR⟩ : ∃ R, R = pairL x y := ⟨_, rfl⟩
 have HO : Hid (∀ w, Calls Tryz.prog 61 #[.string ⟨#[112, 97, 105, 114]⟩, .slice (some ⟨w.heap.size, 0, none⟩) 2 2] (w.alloc (.cells #[.string ⟨x.toArray⟩, .string ⟨y.toArray⟩] 9)) fun e w' => e = .returned (hv R) ∧ Below w.heap.size w w') := fun w => by rw [hR]; exact of2 tagPair x y w (by decide) (by omega) (by omega)
 have HBx := hide (fun w => q3t x w hx)
 have HBy := hide (fun w => q3t y w hy)
 have HL : Hid (R.length = 32) := by rw [hR]; exact q1z _ _
 rw [← hR]
 obtain ⟨hA, hB, z, b⟩ := below3z w x y hx hy
 clear hR hx hy
 generalize (⟨x.toArray⟩ : ByteArray) = xb at *
 generalize (⟨y.toArray⟩ : ByteArray) = yb at *
 unfold hv
 go_enter Tryz.func94, Tryz.ntmps94
 go_wp2_with fail
 show Code.wp _ _ _ _ (((w.alloc (.cells (bvs x).toArray 34)).alloc (.cells (bvs y).toArray 34)).alloc (.cells (bvs zero32).toArray 34))
 generalize ((w.alloc (.cells (bvs x).toArray 34)).alloc (.cells (bvs y).toArray 34)).alloc (.cells (bvs zero32).toArray 34) = W at *
 refine q0n 4 (by kernel_rfl) (by kernel_rfl) ?_
 simp only [List.take_succ_cons, List.take_zero]
 repeat ((go_big_quiet_want; first | (refine q3a _ rfl rfl (by assumption) ?_; simp only [pS]; go_big_quiet_on)))
 go_big_quiet_want; go_big_quiet_op
 refine ⟨_, fun _ => q0f (HBx.out _), ?_⟩
 go_big_quiet_on
 repeat ((go_big_quiet_want; first | (refine q3a _ rfl rfl (by assumption) ?_; simp only [pS]; go_big_quiet_on)))
 go_big_quiet_want; go_big_quiet_op
 refine ⟨_, fun _ => q0f (HBy.out _), ?_⟩
 go_big_quiet_on
 refine wpQuiet_nil ?_
 intro w3 hq5
 replace z := z.later hq5
 replace b := later b hq5
 clear hq5
 simp only [List.drop_succ_cons, List.drop_zero]
 go_wp2_with fail
 refine (HO.out _).mono ?_
 rintro _ wc6 ⟨rfl, hc6⟩
 replace z := z.later hc6
 replace b := later b hc6
 clear hc6
 have zr := z.row R HL.out
 have br := q0p (b := w.heap.size + 2) b (by omega) (bvs R).toArray
 go_wp2_with (refine q0y rfl _ _ rfl rfl rfl HL.out z ?_)
 exact bodyPost_ret (v := hv R) (q2v rfl _ _ rfl zr) rfl ⟨rfl, br⟩
theorem x0n (x y : List UInt8) (hx : x.length = 32) (hy : y.length = 32) (w : World) :
  Calls Tryz.prog 156 #[hv x, hv y] w fun e w' => e = .returned (hv (pairL x y)) ∧ Below w.heap.size w w' := by
 obtain ⟨R, hR⟩ : ∃ R, R = pairL x y := ⟨_, rfl⟩
 have HO : Hid (∀ w, Calls Tryz.prog 173 #[.string ⟨#[112, 97, 105, 114]⟩, .string ⟨x.toArray⟩, .string ⟨y.toArray⟩] w fun e w' => e = .returned (hv R) ∧ Below w.heap.size w w') := fun w => by rw [hR]; exact j5d tagPair x y w (by decide) (by omega) (by omega)
 have HBx := hide (fun w => q2w x w hx)
 have HBy := hide (fun w => q2w y w hy)
 have HL : Hid (R.length = 32) := by rw [hR]; exact q1z _ _
 rw [← hR]
 obtain ⟨hA, hB, z, b⟩ := below3z w x y hx hy
 clear hR hx hy
 generalize (⟨x.toArray⟩ : ByteArray) = xb at *
 generalize (⟨y.toArray⟩ : ByteArray) = yb at *
 unfold hv
 go_enter Tryz.func156, Tryz.ntmps156
 go_wp2_with fail
 show Code.wp _ _ _ _ (((w.alloc (.cells (bvs x).toArray 34)).alloc (.cells (bvs y).toArray 34)).alloc (.cells (bvs zero32).toArray 34))
 generalize ((w.alloc (.cells (bvs x).toArray 34)).alloc (.cells (bvs y).toArray 34)).alloc (.cells (bvs zero32).toArray 34) = W at *
 refine q0n 5 (by kernel_rfl) (by kernel_rfl) ?_
 simp only [List.take_succ_cons, List.take_zero]
 repeat ((go_big_quiet_want; first | (refine q3a _ rfl rfl (by assumption) ?_; simp only [pS]; go_big_quiet_on)))
 go_big_quiet_want; go_big_quiet_op
 refine ⟨_, fun _ => q0f (HBx.out _), ?_⟩
 go_big_quiet_on
 repeat ((go_big_quiet_want; first | (refine q3a _ rfl rfl (by assumption) ?_; simp only [pS]; go_big_quiet_on)))
 go_big_quiet_want; go_big_quiet_op
 refine ⟨_, fun _ => q0f (HBy.out _), ?_⟩
 go_big_quiet_on
 repeat (fail)
 go_big_quiet_want; go_big_quiet_op
 refine ⟨_, fun _ => q0f (HO.out _), ?_⟩
 go_big_quiet_on
 refine wpQuiet_nil ?_
 intro w3 hq7
 replace z := z.later hq7
 replace b := later b hq7
 clear hq7
 simp only [List.drop_succ_cons, List.drop_zero]
 have zr := z.row R HL.out
 have br := q0p (b := w.heap.size + 2) b (by omega) (bvs R).toArray
 go_wp2_with (refine q0y rfl _ _ rfl rfl rfl HL.out z ?_)
 exact bodyPost_ret (v := hv R) (q2v rfl _ _ rfl zr) rfl ⟨rfl, br⟩
theorem x8t (n : Nat) (t : List UInt8) (hn : n ≤ 9223372036854775807) (ht : t.length = 32) (w : World) :
  Calls Tryz.prog 87 #[.int .i64 n, hv t] w fun e w' => e = .returned (hv (rootL n t)) ∧ Below w.heap.size w w' := by
 obtain ⟨R, hR⟩ : ∃ R, R = rootL n t := ⟨_, rfl⟩
 have HO : Hid (∀ w, Calls Tryz.prog 61 #[.string ⟨#[114, 111, 111, 116]⟩, .slice (some ⟨w.heap.size, 0, none⟩) 2 2] (w.alloc (.cells #[.string ⟨(eightL n).toArray⟩, .string ⟨t.toArray⟩] 9)) fun e w' => e = .returned (hv R) ∧ Below w.heap.size w w') := fun w => by rw [hR]; exact of2 tagRoot (eightL n) t w (by decide) (by rw [q0o]; omega) (by omega)
 have HE := hide (fun w => j9f n w)
 have HB := hide (fun w => q3t t w ht)
 have HL : Hid (R.length = 32) := by rw [hR]; exact q1z _ _
 rw [← hR]
 have hA := HashAt.alloc (HashAt.new w t ht) (.cells (bvs zero32).toArray 34)
 have z := HashAt.new2 w (.cells (bvs t).toArray 34) zero32 rfl
 have b := below2 w (.cells (bvs t).toArray 34) (.cells (bvs zero32).toArray 34)
 clear hR ht
 generalize (⟨t.toArray⟩ : ByteArray) = tb at *
 generalize (⟨(eightL n).toArray⟩ : ByteArray) = nb at *
 unfold hv
 go_enter Tryz.func87, Tryz.ntmps87
 go_wp2_with fail
 show Code.wp _ _ _ _ ((w.alloc (.cells (bvs t).toArray 34)).alloc (.cells (bvs zero32).toArray 34))
 generalize (w.alloc (.cells (bvs t).toArray 34)).alloc (.cells (bvs zero32).toArray 34) = W at *
 refine q0n 5 (by kernel_rfl) (by kernel_rfl) ?_
 simp only [List.take_succ_cons, List.take_zero]
 repeat ((go_big_quiet_want; first | (go_big_quiet_op; go_big_quiet_on)))
 go_big_quiet_want; go_big_quiet_op
 refine ⟨_, fun _ => q0f (HE.out _), ?_⟩
 go_big_quiet_on
 repeat ((go_big_quiet_want; first | (refine q3a _ rfl rfl (by assumption) ?_; simp only [pS]; go_big_quiet_on)))
 go_big_quiet_want; go_big_quiet_op
 refine ⟨_, fun _ => q0f (HB.out _), ?_⟩
 go_big_quiet_on
 refine wpQuiet_nil ?_
 intro w3 hq8
 replace z := z.later hq8
 replace b := later b hq8
 clear hq8
 simp only [List.drop_succ_cons, List.drop_zero]
 go_wp2_with fail
 refine (HO.out _).mono ?_
 rintro _ wc9 ⟨rfl, hc9⟩
 replace z := z.later hc9
 replace b := later b hc9
 clear hc9
 have zr := z.row R HL.out
 have br := q0p (b := w.heap.size + 1) b (by omega) (bvs R).toArray
 go_wp2_with (refine q0y rfl _ _ rfl rfl rfl HL.out z ?_)
 exact bodyPost_ret (v := hv R) (q2v rfl _ _ rfl zr) rfl ⟨rfl, br⟩
theorem j9k (n : Nat) (t : List UInt8) (hn : n ≤ 9223372036854775807) (ht : t.length = 32) (w : World) :
  Calls Tryz.prog 137 #[.int .i64 n, hv t] w fun e w' => e = .returned (hv (rootL n t)) ∧ Below w.heap.size w w' := by
 obtain ⟨R, hR⟩ : ∃ R, R = rootL n t := ⟨_, rfl⟩
 have HO : Hid (∀ w, Calls Tryz.prog 173 #[.string ⟨#[114, 111, 111, 116]⟩, .string ⟨(eightL n).toArray⟩, .string ⟨t.toArray⟩] w fun e w' => e = .returned (hv R) ∧ Below w.heap.size w w') := fun w => by rw [hR]; exact j5d tagRoot (eightL n) t w (by decide) (by rw [q0o]; omega) (by omega)
 have HE := hide (fun w => q7s n w (by omega))
 have HB := hide (fun w => q2w t w ht)
 have HL : Hid (R.length = 32) := by rw [hR]; exact q1z _ _
 rw [← hR]
 have hA := HashAt.alloc (HashAt.new w t ht) (.cells (bvs zero32).toArray 34)
 have z := HashAt.new2 w (.cells (bvs t).toArray 34) zero32 rfl
 have b := below2 w (.cells (bvs t).toArray 34) (.cells (bvs zero32).toArray 34)
 clear hR ht
 generalize (⟨t.toArray⟩ : ByteArray) = tb at *
 generalize (⟨(eightL n).toArray⟩ : ByteArray) = nb at *
 unfold hv
 go_enter Tryz.func137, Tryz.ntmps137
 go_wp2_with fail
 show Code.wp _ _ _ _ ((w.alloc (.cells (bvs t).toArray 34)).alloc (.cells (bvs zero32).toArray 34))
 generalize (w.alloc (.cells (bvs t).toArray 34)).alloc (.cells (bvs zero32).toArray 34) = W at *
 refine q0n 6 (by kernel_rfl) (by kernel_rfl) ?_
 simp only [List.take_succ_cons, List.take_zero]
 repeat ((go_big_quiet_want; first | (go_big_quiet_op; go_big_quiet_on)))
 go_big_quiet_want; go_big_quiet_op
 refine ⟨_, fun _ => q0f (HE.out _), ?_⟩
 go_big_quiet_on
 repeat ((go_big_quiet_want; first | (refine q3a _ rfl rfl (by assumption) ?_; simp only [pS]; go_big_quiet_on)))
 go_big_quiet_want; go_big_quiet_op
 refine ⟨_, fun _ => q0f (HB.out _), ?_⟩
 go_big_quiet_on
 repeat (fail)
 go_big_quiet_want; go_big_quiet_op
 refine ⟨_, fun _ => q0f (HO.out _), ?_⟩
 go_big_quiet_on
 refine wpQuiet_nil ?_
 intro w3 hq10
 replace z := z.later hq10
 replace b := later b hq10
 clear hq10
 simp only [List.drop_succ_cons, List.drop_zero]
 have zr := z.row R HL.out
 have br := q0p (b := w.heap.size + 1) b (by omega) (bvs R).toArray
 go_wp2_with (refine q0y rfl _ _ rfl rfl rfl HL.out z ?_)
 exact bodyPost_ret (v := hv R) (q2v rfl _ _ rfl zr) rfl ⟨rfl, br⟩
theorem hashIe2 : ∃ ie z, Tryz.prog.info? 34 = some ie ∧ ie.size = 32 ∧ ie.bytes = 32 ∧ ie.zero = some z ∧ z.cells.size = 32 := by
 obtain ⟨i, hi, h⟩ := Option.map_eq_some_iff.1 (show (Tryz.prog.info? 34).map (fun i => (i.size, i.bytes, i.zero.map (·.cells.size))) = some (32, 32, some 32) by kernel_rfl)
 simp only [Prod.mk.injEq] at h
 obtain ⟨z, hz, hzs⟩ := Option.map_eq_some_iff.1 h.2.2
 exact ⟨i, z, hi, h.1, h.2.1, hz, hzs⟩
/-- Hashes, as cells. -/
def hcs (l : List H32) : List Value := (l.map bvs).flatten
theorem q8q (a b : List H32) : hcs (a ++ b) = hcs a ++ hcs b := by simp [hcs]
theorem j3f (a : H32) : hcs [a] = bvs a := by simp [hcs]
theorem q5h (l : List H32) (h : ∀ x ∈ l, x.length = 32) : (hcs l).length = l.length * 32 := by
 induction l with
 | nil => rfl
 | cons a r ih =>
  have := ih (fun x hx => h x (by simp [hx]))
  simp only [hcs, List.map_cons, List.flatten_cons, List.length_append, q0c, List.length_cons] at this ⊢
  rw [this, h a (by simp)]; omega
theorem x0f (l : List H32) : ∀ u ∈ hcs l, u.oneCell' = true := by
 intro u hu
 obtain ⟨x, hx, hu⟩ := List.mem_flatten.1 hu
 obtain ⟨y, hy, rfl⟩ := List.mem_map.1 hx
 exact List.all_eq_true.1 (q1f y) u hu
/-- A slice of hashes that a call hands back. -/
def Fresh (w : World) (v : Value) : Prop := ∀ b k n c, v = .slice (some ⟨b, k, none⟩) n c → w.heap.size ≤ b
def HsPost (w : World) (l : List H32) (e : Ending) (w' : World) : Prop := ∃ v, e = .returned v ∧ Hs w' v l ∧ Below w.heap.size w w' ∧ Fresh w v
theorem Hs.own {w : World} {B n : Nat} {v : Value} {l : List H32} (hn : l.length = n) (hl : ∀ h ∈ l, h.length = 32) (h : w.ownsRow B 34 32 v n (hcs l)) : Hs w v l :=
 ⟨Sl.own (by simpa using hn) (fun x hx => by obtain ⟨y, hy, rfl⟩ := List.mem_map.1 hx; rw [q0c]; exact hl y hy) h, hl⟩
theorem x7z : ∀ (l : List H32) (k : Nat), l.length ≤ 2 * k + 1 → 2 * k ≤ l.length → (upL l).take k ++ l.drop (2 * k) = upL l
  | [], k, _, h => by have : k = 0 := by simp at h; omega
                      subst this; rfl
  | [a], k, _, h => by have : k = 0 := by simp at h; omega
                       subst this; rfl
  | a :: b :: r, 0, h, _ => by simp at h
  | a :: b :: r, k + 1, h, h2 => by
    have := x7z r k (by simp at h; omega) (by simp at h2; omega)
    rw [upL, List.take_succ_cons, show 2 * (k + 1) = 2 * k + 1 + 1 by omega, List.drop_succ_cons, List.drop_succ_cons, List.cons_append, this]
/-- A row of hashes of one's own. -/
def OwnHs (w : World) (B : Nat) (v : Value) (l : List H32) : Prop := w.ownsRow B 34 32 v l.length (hcs l)
theorem j4m {w w' : World} (h : Below w.heap.size w w') : w.grownBy w' none := ⟨h.os, h.tape, h.output, h.size, fun k hk _ => h.block k hk⟩
theorem q5y {w w' : World} {B e sz n : Nat} {v : Value} {xs : List Value} (h : w.ownsRow B e sz v n xs) (hb : Below w.heap.size w w') : w'.ownsRow B e sz v n xs := h.kept (j4m hb) (by cases hv : v.ownBlock <;> simp)
theorem OwnHs.later {w w' : World} {B : Nat} {v : Value} {l : List H32} (h : OwnHs w B v l) (hb : Below w.heap.size w w') : OwnHs w' B v l := h.kept (j4m hb) (by cases hv : v.ownBlock <;> simp)
theorem OwnHs.hs {w : World} {B : Nat} {v : Value} {l : List H32} (h : OwnHs w B v l) (hl : ∀ h ∈ l, h.length = 32) : Hs w v l := Hs.own rfl hl h
/-- The cells that a slice of hashes has. -/
theorem Hs.cellsOf {w : World} {b k n cap : Nat} {l : List H32} (h : Hs w (.slice (some ⟨b, k, none⟩) n cap) l) : ∀ j u, (hcs l)[j]? = some u → w.cell? ((⟨b, k, none⟩ : Addr).add j) = some u := by
 intro j u hu
 have hlen := q5h l h.2
 have hj : j < l.length * 32 := by rw [← hlen]; exact (List.getElem?_eq_some_iff.1 hu).1
 have hne : 0 < l.length := by omega
 obtain ⟨b', k', cap', hv, _, _, _, hc⟩ := h.block hne
 simp only [Value.slice.injEq, Option.some.injEq, Addr.mk.injEq, and_true] at hv
 obtain ⟨⟨rfl, rfl⟩, _, _⟩ := hv
 have hi : j / 32 < l.length := by omega
 have h1 := hc (j / 32) hi (j % 32)
 rw [Cells.add]
 have hg : (l.map bvs)[j / 32]? = some (bvs (l.getD (j / 32) [])) := by simp [hi]
 have hl : ∀ e ∈ l.map bvs, e.length = 32 := fun e he => by obtain ⟨y, hy, rfl⟩ := List.mem_map.1 he; rw [q0c]; exact h.2 y hy
 have h32 : (l.getD (j / 32) []).length = 32 := h.2 _ (by rw [List.getD_eq_getElem?_getD, List.getElem?_eq_getElem hi]; exact List.getElem_mem _)
 have hjl : j % 32 < (bvs (l.getD (j / 32) [])).length := by rw [q0c, h32]; omega
 have h2 := q6f 32 (l.map bvs) hl (j / 32) _ hg (j % 32) _ (List.getElem?_eq_getElem hjl)
 rw [show j / 32 * 32 + j % 32 = j by omega] at h2
 have hu' : u = (bvs (l.getD (j / 32) []))[j % 32] := Option.some.inj (hu.symm.trans h2)
 rw [show k + j = k + j / 32 * 32 + j % 32 by omega]
 rw [hu']
 exact h1 _ (List.getElem?_eq_getElem hjl)
theorem z2t (l : List H32) (k : Nat) (h : 2 * k + 1 < l.length) : hcs ((upL l).take (k + 1)) = hcs ((upL l).take k) ++ bvs (pairL (l.getD (2 * k) []) (l.getD (2 * k + 1) [])) := by
 have hk : k < (upL l).length := by rw [q4z]; omega
 have hg := x0q l k (by omega)
 rw [if_pos h] at hg
 rw [List.take_succ_eq_append_getElem hk, q8q, j3f, ← hg]
 simp [hk]
theorem up_any (v : Value) (l : List H32) (w : World) (hv0 : Hs w v l) (hm : l.length ≤ 1000000) :
  Calls Tryz.prog 154 #[v] w (HsPost w (upL l)) := by
 obtain ⟨ie, z, hi1, hi2, hi3, hi4, hi5⟩ := hashIe2
 obtain ⟨a, cap, rfl, hc1, hc2, hc0⟩ := hv0.shape
 obtain ⟨n, hn⟩ : ∃ n, n = l.length / 2 := ⟨_, rfl⟩
 have hlen := q4z l
 have hn1 : 2 * n ≤ l.length := by omega
 have hn2 : l.length ≤ 2 * n + 1 := by omega
 obtain ⟨L, hL⟩ : ∃ L, L = l.length := ⟨_, rfl⟩
 have HL := hide hL
 rw [← hL] at hn hc1 hlen hn1 hn2 hm ⊢
 have hnn : ((L : Int) / 2) = (n : Int) := by omega
 have HN := hide hnn
 clear hn hL hnn
 go_enter Tryz.func154, Tryz.ntmps154
 go_wp2_with (refine wpList_make_own _ rfl _ _ 63 rfl w.heap.size 34 ie z 32 Tryz.underlying63 hi1 hi4 hi2 .i64 .i64 _ (n + 1) rfl rfl (by rw [HN.out]; omega) (by rw [hi3]; omega) (by unfold maxLen; omega) (Nat.le_refl _) ?_; intro w1 hown hg1)
 have hb1 : Below w.heap.size w w1 := (Below.refl _ _).grown hg1 (Nat.le_refl _) (fun k h => by cases h)
 have hown1 : w1.ownsRow w.heap.size 34 32 (.slice (some ⟨w.heap.size, 0, none⟩) 0 (n + 1)) 0 (hcs ((upL l).take 0)) := hown
 clear hg1 hown
 rw [HN.out]
 have HLEN := hide hlen
 clear hlen
 go_loopw [4, 13] (fun out i wr => ∃ k : Nat, k ≤ n ∧ i = .int .i64 k ∧ out = .slice (some ⟨w.heap.size, 0, none⟩) k (n + 1) ∧ wr.ownsRow w.heap.size 34 32 (.slice (some ⟨w.heap.size, 0, none⟩) k (n + 1)) k (hcs ((upL l).take k)) ∧ Below w.heap.size w wr) (fun _ i _ => n - (RowKit.intOf i).toNat)
 case atStart => exact ⟨0, by omega, rfl, rfl, hown1, hb1⟩
 case round =>
  obtain ⟨k, hk, rfl, rfl, hown, hb⟩ := hrel
  clear hown1 hb1
  have hvr := hv0.later hb
  by_cases hlt : k < n
  ·obtain ⟨b, k0, cap', hv, _, _, _, hcs⟩ := hvr.block (by rw [← HL.out]; omega)
   simp only [Value.slice.injEq] at hv
   obtain ⟨rfl, _, rfl⟩ := hv
   have c0 := hcs (2 * k) (by rw [← HL.out]; omega)
   have c1 := hcs (2 * k + 1) (by rw [← HL.out]; omega)
   have l0 : (l.getD (2 * k) []).length = 32 := hvr.2 _ (by rw [List.getD_eq_getElem?_getD, List.getElem?_eq_getElem (by rw [← HL.out]; omega)]; exact List.getElem_mem _)
   have l1 : (l.getD (2 * k + 1) []).length = 32 := hvr.2 _ (by rw [List.getD_eq_getElem?_getD, List.getElem?_eq_getElem (by rw [← HL.out]; omega)]; exact List.getElem_mem _)
   have hT := z2t l k (by rw [← HL.out]; omega)
   generalize l.getD (2 * k) [] = x at *
   generalize l.getD (2 * k + 1) [] = y at *
   have HT := hide hT
   have HP := hide (fun w => z0m x y l0 l1 w)
   clear hcs hT
   have L0 := hide l0
   have L1 := hide l1
   clear l0 l1
   go_wp2_with fail
   refine q1m (fun x => Below (wr).heap.size (wr) x) (.fl [0, 1, 2, 3, 4, 5, 6, 7, 8, 9, 10, 11] 12 (.one [] 13 (.bar [] 14 (.stop [15])))) (by kernel_rfl) (by kernel_rfl) (by kernel_rfl) (by decide) (q3h (Nat.le_refl _)) (Below.refl _ _) ?_
   intro wpl0 _ _ _
   refine q7m ?_
   simp only [pickOps, opAt, List.getElem?_cons_succ, List.getElem?_cons_zero, List.nil_append, List.cons_append]
   repeat ((go_big_quiet_want; first | ((refine q5m _ rfl rfl (by assumption) (by first | exact L0.out | exact L1.out) ?_); simp only [pS]; go_big_quiet_on) | (go_big_quiet_op; go_big_quiet_on)))
   refine wpQuiet_nil ?_
   refine q7p (args := #[hv x, hv y]) (by rfl) rfl (by kernel_rfl) (by simp only [List.map_toArray, List.map_cons, List.map_nil]; rfl) (fun w' hC => HP.out w') ?_
   simp only [pS]
   refine q0w ?_
   simp only [pickOps, opAt, List.getElem?_cons_succ, List.getElem?_cons_zero, List.nil_append, List.cons_append]
   refine wpQuiet_nil ?_
   intro w13 hw13 hk13
   refine q8p rfl 1 _ rfl [pairL x y] rfl (by simp only [List.map_toArray, List.map_cons, List.map_nil]; rfl) (by intro h hh; simp at hh; subst hh; exact q6o _ _) (by decide) (by decide) ?_
   intro w14 hs14 hb14 hz14
   have hk14 := later hk13 hb14
   refine q6y (q3h (Nat.le_refl _)) hk14 (q2u ?_)
   simp only [pickOps, opAt, List.getElem?_cons_succ, List.getElem?_cons_zero, List.nil_append, List.cons_append]
   refine wpQuiet_nil ?_
   intro w15 hw15 hk15
   have hown15 := q5y hown (later hk14 hk15)
   have hs15 := hs14.later hk15
   have hb15 := later hb (later hk14 hk15)
   clear hown hb hk13 hk14 hk15 hw13 hw15 hs14 hb14 hz14 c0 c1 hvr
   generalize w13.heap.size = g at *
   refine wpList_append_fits _ rfl _ _ 63 rfl w.heap.size 34 ie 32 Tryz.underlying63 hi1 hi2 w.heap.size k (n + 1) _ rfl hown15 ⟨g, 0, none⟩ 1 1 (bvs (pairL x y)) rfl (by rw [q0c, q6o]) (fun j u hu => hs15.cellsOf j u (by rw [j3f]; exact hu)) (fun u hu => List.all_eq_true.1 (q1f _) u hu) (by omega) ?_
   intro w16 hown16 hg16
   rw [← HT.out] at hown16
   have hb16 := hb15.grown hg16 hb15.size (fun k h => by have := Option.some.inj h; omega)
   clear hg16 hown15 hs15 hb15
   refine q1v (q2l ?_)
   simp only [pickOps, opAt, List.getElem?_cons_succ, List.getElem?_cons_zero, List.nil_append, List.cons_append]
   simp only [pS]
   repeat ((go_big_quiet_want; first | (go_big_quiet_op; go_big_quiet_on)))
   refine wpQuiet_nil ?_
   intro w17 _ hk17
   replace hown16 := q5y hown16 hk17
   replace hb16 := later hb16 hk17
   clear hk17
   go_wp2_with fail
   go_roundw
   case rel => exact ⟨k + 1, by omega, by simp, rfl, hown16, hb16⟩
   case measure => simp [RowKit.intOf]; omega
  ·have hkn : k = n := by omega
   subst hkn
   go_wp2_with fail
   refine q0n 9 (by kernel_rfl) (by kernel_rfl) ?_
   simp only [List.take_succ_cons, List.take_zero]
   repeat ((go_big_quiet_want; go_big_quiet_op; go_big_quiet_on))
   refine wpQuiet_nil ?_
   intro w3 hw3
   simp only [List.drop_succ_cons, List.drop_zero]
   have hown3 := q5y hown hw3
   have hd3 := (hvr.later hw3).drop (2 * k) (by rw [← HL.out]; omega)
   rw [← HL.out] at hd3
   have hb3 := later hb hw3
   have hsh := hd3.shape
   have hlen3 : (l.drop (2 * k)).length = L - 2 * k := by rw [List.length_drop, HL.out]
   have HF : Hid (hcs ((upL l).take k) ++ hcs (l.drop (2 * k)) = hcs (upL l)) := by
    unfold Hid
    rw [← q8q, x7z l k (by rw [← HL.out]; omega) (by rw [← HL.out]; omega)]
   clear hown hvr hb hw3
   obtain ⟨ao, hao⟩ : ∃ ao, ao = if cap = 2 * k then a else Option.map (fun x => x.add (2 * k * 32)) a := ⟨_, rfl⟩
   rw [← hao] at hd3 hsh ⊢
   obtain ⟨a3, c3, hs1, hs2, hs3, hs4⟩ := hsh
   simp only [Value.slice.injEq] at hs1
   obtain ⟨rfl, _, rfl⟩ := hs1
   clear hao
   refine wpList_append_fits_any _ rfl _ _ 63 rfl w.heap.size 34 ie 32 Tryz.underlying63 hi1 hi2 w.heap.size k (k + 1) _ rfl hown3 ao (L - 2 * k) (cap - 2 * k) (hcs (l.drop (2 * k))) rfl (by rw [q5h _ hd3.2, hlen3]) (fun h => ⟨by have := hs4 h; omega, hs4 h⟩) (fun ad had j u hu => ?_) (x0f _) (by omega) ?_
   ·subst had
    obtain ⟨b, o, sp⟩ := ad
    have hsp : sp = none := by
     by_cases h0 : 0 < (l.drop (2 * k)).length
     ·obtain ⟨b', k', cap', hv', _⟩ := hd3.block h0
      simp only [Value.slice.injEq, Option.some.injEq, Addr.mk.injEq] at hv'
      exact hv'.1.2.2
     ·have : l.drop (2 * k) = [] := List.eq_nil_of_length_eq_zero (by omega)
      rw [this] at hu; simp [hcs] at hu
    subst hsp
    exact hd3.cellsOf j u hu
   ·intro w4 hown4 hg4
    rw [HF.out] at hown4
    have hb4 := hb3.grown hg4 hb3.size (fun k h => by have := Option.some.inj h; omega)
    have hk4 : (upL l).length = k + (L - 2 * k) := by rw [HLEN.out]; omega
    have h32 := x1q l hv0.2
    have hres : Hs w4 (.slice (some ⟨w.heap.size, 0, none⟩) (k + (L - 2 * k)) (k + 1)) (upL l) := Hs.own hk4 h32 hown4
    have hfr : Fresh w (.slice (some ⟨w.heap.size, 0, none⟩) (k + (L - 2 * k)) (k + 1)) := fun b k n c h => by
     simp only [Value.slice.injEq, Option.some.injEq, Addr.mk.injEq] at h
     exact Nat.le_of_eq h.1.1
    clear hk4 hg4 hown4 hs2 hs3 hs4 hown3 hb3 hd3
    simp only [pS]
    go_wp2_with fail
    go_ret
    exact ⟨_, rfl, hres, hb4, hfr⟩
theorem j4j {P : Program} (w : World) (g k : Nat) (t ty : TypeId) (cs vs : List Value) (hg : Arr w g t cs) (hi : (P.info? ty).map (·.size) = some vs.length) (hl : k + vs.length ≤ cs.length) (h1 : ∀ v ∈ vs, v.oneCell' = true) :
  (storeVar ty ⟨g, k, none⟩ (.agg vs.toArray)).run P w = .ok () (w.setRow g (cs.take k ++ vs ++ cs.drop (k + vs.length)).toArray) := by
 have := run_storeCells_at (P := P) g k t vs 0 cs.toArray w hg (by simpa using hl) h1
 cases hq : P.info? ty with
 | none => simp [hq] at hi
 | some i =>
  have hs : vs.length = i.size := by simp [hq] at hi; omega
  simp only [Nat.add_zero] at this
  simp [storeVar, sizeOf, typeInfo, hq, Value.cells, hs, this]
section
variable {P : Program} {ops : Array Oper} {rest : List Oper} {o : Oper} {a : Act} {w : World} {Q : Exit → Act → World → Prop}
theorem x0v {K : Act → World → Prop} (ty : TypeId) (x y : Operand) (ho : o.op = .store ty x y) {g k : Nat} {t : TypeId} {cs vs : List Value} (hx : a.eval x = .pointer (some ⟨g, k, none⟩)) (hy : a.eval y = .agg vs.toArray)
  (hg : Arr w g t cs) (hi : (P.info? ty).map (·.size) = some vs.length) (hl : k + vs.length ≤ cs.length) (h1 : ∀ v ∈ vs, v.oneCell' = true) (h : K (a.put o.dst undef) (w.setRow g (cs.take k ++ vs ++ cs.drop (k + vs.length)).toArray)) : o.wp P a w K Q := by
 unfold Oper.wp execOp
 simp only [ho, hx, hy, Instr.storeAt, Instr.sureAddr, Sem.run_bind, Sem.run_pure, Result.andThen_ok, j4j w g k t ty cs vs hg hi hl h1]
 exact h
theorem j8t (hgd : o.guard = none) (ty : TypeId) (x y : Operand) (ho : o.op = .store ty x y) {g k : Nat} {t : TypeId} {cs vs : List Value} (hx : a.eval x = .pointer (some ⟨g, k, none⟩)) (hy : a.eval y = .agg vs.toArray)
  (hg : Arr w g t cs) (hi : (P.info? ty).map (·.size) = some vs.length) (hl : k + vs.length ≤ cs.length) (h1 : ∀ v ∈ vs, v.oneCell' = true)
  (h : wpList P ops Q rest (a.put o.dst undef) (w.setRow g (cs.take k ++ vs ++ cs.drop (k + vs.length)).toArray)) : wpList P ops Q (o :: rest) a w :=
 wpList_plain hgd fun _ hK => x0v ty x y ho hx hy hg hi hl h1 (hK _ _ h)
end
/-- Of what stood in w only blocks of S may have been turned. -/
structure Touch (S : Nat → Prop) (w w' : World) : Prop where
 os : w'.os = w.os
 tape : w'.tape = w.tape
 output : w'.output = w.output
 size : w.heap.size ≤ w'.heap.size
 block : ∀ k, k < w.heap.size → ¬ S k → w'.heap[k]? = w.heap[k]?
theorem Touch.refl (S : Nat → Prop) (w : World) : Touch S w w := ⟨rfl, rfl, rfl, Nat.le_refl _, fun _ _ _ => rfl⟩
theorem q2s {S : Nat → Prop} {w w' : World} (h : Below w.heap.size w w') : Touch S w w' := ⟨h.os, h.tape, h.output, h.size, fun k hk _ => h.block k hk⟩
theorem Touch.trans {S S' : Nat → Prop} {a b c : World} (h : Touch S a b) (k : Touch S' b c) (hs : ∀ x, S' x → S x ∨ a.heap.size ≤ x) : Touch S a c :=
 ⟨k.os.trans h.os, k.tape.trans h.tape, k.output.trans h.output, Nat.le_trans h.size k.size, fun x hx hn => (k.block x (Nat.lt_of_lt_of_le hx h.size) (fun h' => (hs x h').elim hn (fun h2 => by omega))).trans (h.block x hx hn)⟩
theorem Touch.below {S : Nat → Prop} {B : Nat} {w w' : World} (h : Touch S w w') (hB : B ≤ w.heap.size) (hS : ∀ x, S x → B ≤ x) : Below B w w' := ⟨h.os, h.tape, h.output, h.size, fun k hk => h.block k (by omega) (fun h' => by have := hS k h'; omega)⟩
/-- The block in which a slice stands, if in any. -/
def Off (S : Nat → Prop) (v : Value) : Prop := ∀ b k n c, v = .slice (some ⟨b, k, none⟩) n c → ¬ S b
theorem Hs.touch {S : Nat → Prop} {w w' : World} {v : Value} {l : List H32} (h : Hs w v l) (ht : Touch S w w') (hS : Off S v) : Hs w' v l := by
 refine ⟨?_, h.2⟩
 obtain ⟨a, cap, h1, h2, h3, h4, h0, h5⟩ := h.1
 refine ⟨a, cap, h1, h2, h3, h4, h0, fun hne => ?_⟩
 obtain ⟨b, k, h6, h7, h8⟩ := h5 hne
 refine ⟨b, k, h6, Nat.lt_of_lt_of_le h7 ht.size, fun i e he j v hj => ?_⟩
 have hb : w'.heap[b]? = w.heap[b]? := ht.block b h7 (hS b k _ _ (by rw [h1, h6]))
 exact (World.cell?_of_block (a := ⟨b, k + i * 32 + j, none⟩) hb).trans (h8 i e he j v hj)
theorem Arr.touch {S : Nat → Prop} {w w' : World} {b : Nat} {t : TypeId} {cs : List Value} (h : Arr w b t cs) (ht : Touch S w w') (hS : ¬ S b) : Arr w' b t cs := by
 unfold Arr
 rw [ht.block b (Arr.lt h) hS]
 exact h
theorem HashAt.touch {S : Nat → Prop} {w w' : World} {b : Nat} {l : List UInt8} (h : HashAt w b l) (ht : Touch S w w') (hS : ¬ S b) : HashAt w' b l := ⟨h.1, Arr.touch h.2 ht hS⟩
theorem j0b (w : World) (g : Nat) (a : Array Value) : Touch (fun b => b = g) w (w.setRow g a) := ⟨rfl, rfl, rfl, by simp, fun k _ hn => setRow_other w g k a hn⟩
theorem q2r {P : Program} {ops : Array Oper} {rest : List Oper} {o : Oper} {a : Act} {w : World} {Q : Exit → Act → World → Prop} (hgd : o.guard = none) (ty : TypeId) (x y : Operand) (ho : o.op = .store ty x y) {g k : Nat} {t : TypeId} {cs vs : List Value} (hx : a.eval x = .pointer (some ⟨g, k, none⟩)) (hy : a.eval y = .agg vs.toArray)
  (hg : Arr w g t cs) (hi : (P.info? ty).map (·.size) = some vs.length) (hl : k + vs.length ≤ cs.length) (h1 : ∀ v ∈ vs, v.oneCell' = true) (new : List Value) (hnew : cs.take k ++ vs ++ cs.drop (k + vs.length) = new)
  (h : ∀ w2, Arr w2 g t new → Touch (fun b => b = g) w w2 → wpList P ops Q rest (a.put o.dst undef) w2) : wpList P ops Q (o :: rest) a w := by
 subst hnew
 exact j8t hgd ty x y ho hx hy hg hi hl h1 (h _ (Arr.row hg _) (j0b w g _))
theorem Touch.add {S T : Nat → Prop} {a b c : World} (h : Touch S a b) (k : Touch T b c) (hs : ∀ x, T x → S x) : Touch S a c := h.trans k (fun x hx => .inl (hs x hx))
theorem Touch.behind {S : Nat → Prop} {a b c : World} (h : Touch S a b) (k : Below b.heap.size b c) : Touch S a c := h.add (q2s (S := fun _ => False) k) (fun _ h => h.elim)
theorem q3s (w : World) (a : Addr) (v : Value) : Touch (fun b => b = a.block) w (w.setCell a v) := ⟨rfl, rfl, rfl, by simp [World.setCell], fun k _ hn => heap_setCell_other w a k v hn⟩
theorem x8a {w : World} {a : Addr} {v : Value} (h : w.cell? a = some v) (s : Kept (fun x => Below w.heap.size w x)) : s.w.cell? a = some v := (s.ok.cell (World.block_lt_of_cell? w a h)).trans h
theorem q2m {S : Nat → Prop} {w w' : World} {B e sz n : Nat} {v : Value} {xs : List Value} (h : w.ownsRow B e sz v n xs) (ht : Touch S w w') (hS : ∀ b, v.ownBlock = some b → ¬ S b) : w'.ownsRow B e sz v n xs := by
 refine ⟨h.1, ?_⟩
 rcases h.2 with hn | ⟨g, cap, cur, rfl, hb, hg, rest⟩
 ·exact .inl hn
 ·refine .inr ⟨g, cap, cur, rfl, hb, ?_, rest⟩
  rw [ht.block g (Array.getElem?_eq_some_iff.1 hg).1 (hS g rfl)]
  exact hg
theorem j4f {w : World} {B B' e sz n : Nat} {v : Value} {xs : List Value} (h : w.ownsRow B e sz v n xs) (hB : B' ≤ B) : w.ownsRow B' e sz v n xs := by
 refine ⟨h.1, ?_⟩
 rcases h.2 with hn | ⟨g, cap, cur, rfl, hb, rest⟩
 ·exact .inl hn
 ·exact .inr ⟨g, cap, cur, rfl, Nat.le_trans hB hb, rest⟩
/-- A literal of hashes is a row of one's own. -/
theorem j4n {ops : Array Oper} {rest : List Oper} {o : Oper} {a : Act} {w : World} {Q : Exit → Act → World → Prop} (hw : Region.wanted o (yielded ops a.tmps) = true) (n : Nat) (parts : Array (Nat × Operand)) (ho : o.op = .buildSlice 63 n parts) (l : List (List UInt8)) (hn : l.length = n)
  (hp : (parts.map fun (i, x) => (i, a.eval x)).toList = (l.map hv).zipIdx.map fun x => (x.2, x.1)) (hl : ∀ h ∈ l, h.length = 32) (h0 : 0 < n) (h1 : n ≤ 524288)
  (hk : ∀ w2, OwnHs w2 w.heap.size (.slice (some ⟨w.heap.size, 0, none⟩) n n) l → Below w.heap.size w w2 → w.heap.size < w2.heap.size → wpList Tryz.prog ops Q rest (a.put o.dst (.slice (some ⟨w.heap.size, 0, none⟩) n n)) w2) : wpList Tryz.prog ops Q (o :: rest) a w := by
 subst hn
 obtain ⟨ie, z, h2, h3, h4⟩ := hashIe
 refine BigFrame.wpList_want hw fun _ hK => ?_
 have hl' : ∀ x ∈ l.map bvs, x.length = 32 := fun x hx => by obtain ⟨h, hh, rfl⟩ := List.mem_map.1 hx; rw [q0c]; exact hl h hh
 have hr := q9w (P := Tryz.prog) w 63 34 32 (l.map hv) _ hp ie Tryz.underlying63 h2 h3 z h4 (by intro v hv; obtain ⟨x, hx, rfl⟩ := List.mem_map.1 hv; show (bvs x).toArray.size = 32; rw [List.size_toArray, q0c, hl x hx]) (by rw [List.length_map]; omega) (by rw [List.length_map]; omega)
 have ef : (l.map hv).flatMap (fun v => v.cells.toList) = hcs l := by
  have := j6l (l.map bvs)
  rw [List.flatMap_map] at this
  rw [List.flatMap_map]
  exact this
 rw [ef, List.length_map] at hr
 unfold Oper.wp execOp
 simp only [ho, Sem.run_bind, hr, Result.andThen_ok]
 refine hK _ _ (hk _ ?_ (below1 _ _) (by simp))
 have hs : (hcs l).toArray.size = l.length * 32 := by rw [List.size_toArray, q5h l hl]
 have := World.ownsRow_lit (base := w.heap.size) (e := 34) (size := 32) w (hcs l).toArray l.length (Nat.le_refl _) (by unfold maxLen; omega) hs
 simpa [OwnHs] using this
/-- A cell of one's own. -/
def One (w : World) (b : Nat) (t : TypeId) (v : Value) : Prop := Arr w b t [v]
section
variable {w w' : World} {b : Nat} {t : TypeId} {v : Value}
theorem One.cell (h : One w b t v) : w.cell? ⟨b, 0, none⟩ = some v := by have := Arr.cell h (i := 0) (by simp); simpa using this
theorem One.thaw (h : One w b t v) : w.frozen? ⟨b, 0, none⟩ = false := Arr.thaw h 0
theorem One.lt (h : One w b t v) : b < w.heap.size := Arr.lt h
theorem One.later (h : One w b t v) (hb : Below w.heap.size w w') : One w' b t v := Arr.later h hb
theorem One.touch {S : Nat → Prop} (h : One w b t v) (ht : Touch S w w') (hS : ¬ S b) : One w' b t v := Arr.touch h ht hS
theorem One.set (h : One w b t v) (u : Value) : One (w.setCell ⟨b, 0, none⟩ u) b t u := Arr.set h 0 u
theorem One.new (w : World) (t : TypeId) (v : Value) : One (w.alloc (.cells #[v] t)) w.heap.size t v := Arr.new w [v] t
end
/-! ### append to a row of one's own, elements of any size -/
structure ElemOf (P : Program) (t e : TypeId) (sz by' : Nat) : Prop where
 ht : P.underlying t = some (.slice e)
 pos : 0 < sz
 info : ∃ i z, P.info? e = some i ∧ i.zero = some z ∧ i.size = sz ∧ i.bytes = by' ∧ z.cells.size = sz
theorem q7h {w : World} {B e sz n : Nat} {v : Value} {xs : List Value} (h : w.ownsRow B e sz v n xs) : ∃ a c, v = .slice a n c := by
 rcases h.2 with ⟨rfl, rfl⟩ | ⟨g, cap, cur, rfl, _⟩
 ·exact ⟨_, _, rfl⟩
 ·exact ⟨_, _, rfl⟩
theorem j9m {w w' : World} {v : Value} (h : w.grownBy w' v.ownBlock) : Touch (fun b => v.ownBlock = some b) w w' := ⟨h.os, h.tape, h.output, h.size, fun k hk hn => h.block k hk (fun e => hn e.symm)⟩
theorem j4r {P : Program} (w : World) {t e sz by' : Nat} (E : ElemOf P t e sz by') (ty B : Nat) (v : Value) (n : Nat) (xs : List Value) (hown : w.ownsRow B e sz v n xs) (a : Addr) (m c : Nat) (news : List Value) (hl : news.length = m * sz)
  (hnews : ∀ j u, news[j]? = some u → w.cell? (a.add j) = some u) (h1 : ∀ u ∈ news, u.oneCell' = true) (h63 : n + m ≤ maxLen) (hbytes : (n + m) * by' ≤ 140737488355328) (hbase : B ≤ w.heap.size) :
  ∃ a' c' w', (Builtin.append_ #[t, t] ty #[v, .slice (some a) m c]).run P w = .ok (.slice a' (n + m) c') w' ∧ w'.ownsRow B e sz (.slice a' (n + m) c') (n + m) (xs ++ news) ∧ Touch (fun b => v.ownBlock = some b) w w' ∧
   ((Value.slice a' (n + m) c').ownBlock = v.ownBlock ∨ (Value.slice a' (n + m) c').ownBlock = some w.heap.size) := by
 obtain ⟨ht, pos, i, z, hi, hz, hs, hb, hzs⟩ := E
 obtain ⟨v', w', h2, h3, h4, _, h5⟩ := run_append_own_at (P := P) w B t ty e i z sz by' ht hi hz hs hb hzs pos v n xs hown a m c news hl hnews h1 h63 hbytes hbase
 obtain ⟨a', c', rfl⟩ := q7h h3
 exact ⟨a', c', w', h2, h3, j9m h4, h5⟩
theorem q4t {P : Program} {ops : Array Oper} {rest : List Oper} {o : Oper} {a : Act} {w : World} {Q : Exit → Act → World → Prop} (hw : Region.wanted o (yielded ops a.tmps) = true) (s x : Operand) {t e sz by' : Nat} (E : ElemOf P t e sz by')
    (ho : o.op = .call { callee := .builtin .append, args := #[s, x], argTypes := #[t, t] }) {B : Nat} {v : Value} {n : Nat} {xs : List Value} (hs : a.eval s = v) (hown : w.ownsRow B e sz v n xs) {ad : Addr} {m c : Nat} {news : List Value} (hx : a.eval x = .slice (some ad) m c) (hl : news.length = m * sz)
    (hnews : ∀ j u, news[j]? = some u → w.cell? (ad.add j) = some u) (h1 : ∀ u ∈ news, u.oneCell' = true) (h63 : n + m ≤ maxLen) (hbytes : (n + m) * by' ≤ 140737488355328) (hbase : B ≤ w.heap.size)
    (hk : ∀ a' c' w', w'.ownsRow B e sz (.slice a' (n + m) c') (n + m) (xs ++ news) → Touch (fun b => v.ownBlock = some b) w w' → ((Value.slice a' (n + m) c').ownBlock = v.ownBlock ∨ (Value.slice a' (n + m) c').ownBlock = some w.heap.size) →
      wpList P ops Q rest (a.put o.dst (.slice a' (n + m) c')) w') : wpList P ops Q (o :: rest) a w := by
  refine BigFrame.wpList_want hw fun _ hK => ?_
  obtain ⟨a', c', w', hr, h2, h3, h4⟩ := j4r (P := P) w E o.type B v n xs hown ad m c news hl hnews h1 h63 hbytes hbase
  unfold Oper.wp
  simp [execOp, ho, resolve, invoke, builtin, hs, hx, hr, Result.andThen]
  exact hK _ _ (hk a' c' w' h2 h3 h4)
/-- One hash more. -/
theorem hashElem : ElemOf Tryz.prog 63 34 32 32 := by
 obtain ⟨i, z, h1, h2, h3, h4, h5⟩ := hashIe2
 exact ⟨Tryz.underlying63, by decide, i, z, h1, h4, h2, h3, h5⟩
theorem q6c {ops : Array Oper} {rest : List Oper} {o : Oper} {a : Act} {w : World} {Q : Exit → Act → World → Prop} (hw : Region.wanted o (yielded ops a.tmps) = true) (s x : Operand)
    (ho : o.op = .call { callee := .builtin .append, args := #[s, x], argTypes := #[63, 63] }) {B : Nat} {v : Value} {l : List H32} {h : H32} (hs : a.eval s = v) (hown : OwnHs w B v l) {b k c : Nat} (hx : a.eval x = .slice (some ⟨b, k, none⟩) 1 c)
    (hxs : Hs w (.slice (some ⟨b, k, none⟩) 1 c) [h]) (n : Nat) (hn : l.length = n) (hm : l.length ≤ 1000000) (hB : B ≤ w.heap.size)
    (hk : ∀ a' c' w', OwnHs w' B (.slice a' (n + 1) c') (l ++ [h]) → Touch (fun b => v.ownBlock = some b) w w' → ((Value.slice a' (n + 1) c').ownBlock = v.ownBlock ∨ (Value.slice a' (n + 1) c').ownBlock = some w.heap.size) →
      wpList Tryz.prog ops Q rest (a.put o.dst (.slice a' (n + 1) c')) w') : wpList Tryz.prog ops Q (o :: rest) a w := by
  subst hn
  have h32 : h.length = 32 := hxs.2 h (by simp)
  refine q4t hw s x hashElem ho hs hown hx (news := bvs h) (by rw [q0c, h32]) (fun j u hu => hxs.cellsOf j u (by rw [j3f]; exact hu)) (fun u hu => List.all_eq_true.1 (q1f _) u hu) (by unfold maxLen; omega) (by omega) hB (fun a' c' w' h1 h2 h3 => hk a' c' w' ?_ h2 h3)
  unfold OwnHs
  rw [List.length_append, q8q, j3f]
  exact h1
end Go.Proofs.YtbbfnpfkbbpjgaaGreat
