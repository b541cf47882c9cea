/- Cells in memory, wherever they stand: what an array, a struct, an element of a slice is made of; slices of such; the steps of a walk that load them. -/
import Derived.Test.YtikphhhkikdhaaaHash
import Derived.Laws.AppendOwn
namespace Go.Proofs.Ytikphhhkikdhaaa
open Go.RowKit Go.Lib
set_option linter.unusedVariables false
set_option linter.unusedSimpArgs false

/-- From the address ⟨b, o⟩ on stand the cells cs. -/
def Cells (w : World) (b o : Nat) (cs : List Value) : Prop := ∀ j v, cs[j]? = some v → w.cell? ⟨b, o + j, none⟩ = some v
section
variable {w w' : World} {b o : Nat} {cs xs ys : List Value}
theorem Cells.below (h : Cells w b o cs) {B : Nat} (hb : Below B w w') (hB : b < B) : Cells w' b o cs := fun j v hj => (hb.cell (p := ⟨b, o + j, none⟩) hB).trans (h j v hj)
theorem Cells.later (h : Cells w b o cs) (hb : Below w.heap.size w w') : Cells w' b o cs := fun j v hj => by
  have h1 := h j v hj
  exact (hb.cell (p := ⟨b, o + j, none⟩) (World.block_lt_of_cell? w _ h1)).trans h1
theorem Cells.left (h : Cells w b o (xs ++ ys)) : Cells w b o xs := fun j v hj => h j v (by rw [List.getElem?_append_left (List.getElem?_eq_some_iff.1 hj).1]; exact hj)
theorem Cells.right (h : Cells w b o (xs ++ ys)) {n : Nat} (hn : xs.length = n) : Cells w b (o + n) ys := fun j v hj => by
  subst hn
  have := h (xs.length + j) v (by rw [List.getElem?_append_right (by omega)]; simpa using hj)
  rwa [Nat.add_assoc]
theorem Cells.one {v : Value} (h : Cells w b o (v :: ys)) : w.cell? ⟨b, o, none⟩ = some v := h 0 v rfl
theorem Cells.tail {v : Value} (h : Cells w b o (v :: ys)) : Cells w b (o + 1) ys := Cells.right (xs := [v]) h rfl
theorem Cells.arr {t : TypeId} (h : Arr w b t cs) : Cells w b 0 cs := fun j v hj => by
  have := Arr.cell h (List.getElem?_eq_some_iff.1 hj).1
  rw [Nat.zero_add, this, List.getD_eq_getElem?_getD, hj]; rfl
theorem Cells.lt (h : Cells w b o cs) (hne : cs ≠ []) : b < w.heap.size := by
  cases cs with
  | nil => exact absurd rfl hne
  | cons v r => exact World.block_lt_of_cell? w _ h.one
theorem Cells.add (b o j : Nat) : (⟨b, o, none⟩ : Addr).add j = ⟨b, o + j, none⟩ := by unfold Addr.add; split <;> simp_all
theorem Cells.load {P : Program} (h : Cells w b o cs) (ty : TypeId) (d : TypeDesc) (hu : P.underlying ty = some d) (hd : (match d with | .struct _ | .array _ _ => true | _ => false) = true) (hi : (P.info? ty).map (·.size) = some cs.length) :
    (loadVar ty ⟨b, o, none⟩).run P w = .ok (.agg cs.toArray) w := by
  have hl : (loadCells ⟨b, o, none⟩ cs.length).run P w = .ok cs.toArray w := run_loadCells_list (P := P) w ⟨b, o, none⟩ cs (fun j v hv => by rw [Cells.add]; exact h j v hv)
  cases hq : P.info? ty with
  | none => simp [hq] at hi
  | some i =>
    have hs : i.size = cs.length := by simpa [hq] using hi
    have hagg : (isAgg ty).run P w = .ok true w := by
      unfold isAgg
      rw [Sem.run_bind, run_underlying hu w]
      cases d <;> simp_all
    simp [loadVar, Sem.run_bind, hagg, sizeOf, typeInfo, hq, hs, hl]
end

section
variable {P : Program} {ops : Array Oper} {rest : List Oper} {o : Oper} {a : Act} {w : World} {Q : Exit → Act → World → Prop} {K : Act → Prop}
theorem wpl_value (hw : Region.wanted o (yielded ops a.tmps) = true) (v : Value) (h : (execOp a.eval o).run P w = .ok (.value v) w) (hk : wpList P ops Q rest (a.put o.dst v) w) : wpList P ops Q (o :: rest) a w :=
  BigFrame.wpList_want hw fun _ hK => by
    unfold Oper.wp
    rw [h]
    exact hK _ _ hk
theorem load_cells (ty : TypeId) (x : Operand) (ho : o.op = .load ty x) {b k : Nat} {cs : List Value} (hx : a.eval x = .pointer (some ⟨b, k, none⟩)) (h : Cells w b k cs) (d : TypeDesc) (hu : P.underlying ty = some d) (hd : (match d with | .struct _ | .array _ _ => true | _ => false) = true)
    (hi : (P.info? ty).map (·.size) = some cs.length) : (execOp a.eval o).run P w = .ok (.value (.agg cs.toArray)) w := by
  unfold execOp
  simp only [ho, hx, Instr.loadAt, Instr.sureAddr, Sem.run_bind, Sem.run_pure, Result.andThen_ok, h.load ty d hu hd hi]
theorem wpl_load_cells (hw : Region.wanted o (yielded ops a.tmps) = true) (ty : TypeId) (x : Operand) (ho : o.op = .load ty x) {b k : Nat} {cs : List Value} (hx : a.eval x = .pointer (some ⟨b, k, none⟩)) (h : Cells w b k cs) (d : TypeDesc) (hu : P.underlying ty = some d)
    (hd : (match d with | .struct _ | .array _ _ => true | _ => false) = true) (hi : (P.info? ty).map (·.size) = some cs.length) (hk : wpList P ops Q rest (a.put o.dst (.agg cs.toArray)) w) : wpList P ops Q (o :: rest) a w :=
  wpl_value hw _ (load_cells ty x ho hx h d hu hd hi) hk
/-- In a region: in every world of a class. -/
theorem quiet_load_cells {C : World → Prop} (ty : TypeId) (x : Operand) (ho : o.op = .load ty x) {b k : Nat} {cs : List Value} (hx : a.eval x = .pointer (some ⟨b, k, none⟩)) (h : ∀ w, C w → Cells w b k cs) (d : TypeDesc) (hu : P.underlying ty = some d)
    (hd : (match d with | .struct _ | .array _ _ => true | _ => false) = true) (hi : (P.info? ty).map (·.size) = some cs.length) (hk : K (a.put o.dst (.agg cs.toArray))) : o.quiet P a C K :=
  quiet_value _ (fun w hw => load_cells ty x ho hx (h w hw) d hu hd hi) hk
theorem Cells.since {w0 : World} {b k : Nat} {cs : List Value} (h : Cells w0 b k cs) : ∀ w, (∃ s : Since w0, w = s.w) → Cells w b k cs := fun _ ⟨s, hs⟩ => by subst hs; exact h.later s.ok
end

/-- A variable of one's own that was just made is filled: as a call that makes new memory. -/
theorem wpl_new_hash {ops : Array Oper} {rest : List Oper} {o : Oper} {a : Act} {w : World} {Q : Exit → Act → World → Prop} (hgd : o.guard = none) (x y : Operand) (ho : o.op = .store 23 x y) {l : List UInt8}
    (hx : a.eval x = .pointer (some ⟨w.heap.size, 0, none⟩)) (hy : a.eval y = hv l) (hl : l.length = 32) (hk : ∀ w2, HashAt w2 w.heap.size l → Below w.heap.size w w2 → wpList Try.prog ops Q rest (a.put o.dst undef) w2) :
    wpList Try.prog ops Q (o :: rest) a (w.alloc (.cells (bvs zero32).toArray 23)) :=
  wpl_store_hash hgd x y ho hx hy hl (HashAt.zero w) (hk _ (hash_set w l hl).1 (hash_set w l hl).2)
theorem below3a (w : World) (a b c : Obj) : Below w.heap.size w (((w.alloc a).alloc b).alloc c) := later (below2 w a b) (below1 _ c)
theorem HashAt.new3 (w : World) (o o' : Obj) (l : List UInt8) (hl : l.length = 32) : HashAt (((w.alloc o).alloc o').alloc (.cells (bvs l).toArray 23)) (w.heap.size + 2) l := by
  have := HashAt.new ((w.alloc o).alloc o') l hl
  simpa using this

/-- The slice v has the elements els, each of sz cells. -/
def Sl (w : World) (v : Value) (sz : Nat) (els : List (List Value)) : Prop :=
  ∃ a cap, v = .slice a els.length cap ∧ els.length ≤ cap ∧ cap ≤ maxLen ∧ (∀ e ∈ els, e.length = sz) ∧ (a = none → cap = 0) ∧ (els ≠ [] → ∃ b k, a = some ⟨b, k, none⟩ ∧ b < w.heap.size ∧ ∀ i e, els[i]? = some e → Cells w b (k + i * sz) e)
section
variable {w w' : World} {v : Value} {sz : Nat} {els : List (List Value)}
theorem Sl.later (h : Sl w v sz els) (hb : Below w.heap.size w w') : Sl w' v sz els := by
  obtain ⟨a, cap, h1, h2, h3, h4, h0, h5⟩ := h
  refine ⟨a, cap, h1, h2, h3, h4, h0, fun hne => ?_⟩
  obtain ⟨b, k, h6, h7, h8⟩ := h5 hne
  exact ⟨b, k, h6, Nat.lt_of_lt_of_le h7 hb.size, fun i e he => (h8 i e he).later hb⟩
theorem Sl.nil (w : World) (sz : Nat) : Sl w (.slice none 0 0) sz [] := ⟨none, 0, rfl, by simp, by simp [maxLen], by simp, fun _ => rfl, fun h => absurd rfl h⟩
/-- The elements of a list of cells, n of sz each. -/
def chop (sz : Nat) : Nat → List Value → List (List Value)
  | 0, _ => []
  | n + 1, xs => xs.take sz :: chop sz n (xs.drop sz)
theorem chop_length (sz : Nat) : ∀ n xs, (chop sz n xs).length = n
  | 0, _ => rfl
  | n + 1, xs => by simp [chop, chop_length sz n]
theorem chop_flatten (sz : Nat) : ∀ (els : List (List Value)), (∀ e ∈ els, e.length = sz) → chop sz els.length els.flatten = els
  | [], _ => rfl
  | e :: r, h => by
    have he := h e (by simp)
    have ih := chop_flatten sz r (fun x hx => h x (by simp [hx]))
    rw [List.flatten_cons, List.length_cons]
    unfold chop
    rw [← he, List.take_left, List.drop_left, he, ih]
theorem flatten_get (sz : Nat) : ∀ (els : List (List Value)), (∀ e ∈ els, e.length = sz) → ∀ i e, els[i]? = some e → ∀ j v, e[j]? = some v → els.flatten[i * sz + j]? = some v
  | [], _, i, e, h, _, _, _ => by simp at h
  | x :: r, hl, 0, e, h, j, v, hv => by
    simp only [List.getElem?_cons_zero, Option.some.injEq] at h
    subst h
    rw [List.flatten_cons, Nat.zero_mul, Nat.zero_add, List.getElem?_append_left (List.getElem?_eq_some_iff.1 hv).1]
    exact hv
  | x :: r, hl, i + 1, e, h, j, v, hv => by
    have hx := hl x (by simp)
    rw [List.getElem?_cons_succ] at h
    rw [List.flatten_cons, List.getElem?_append_right (by rw [hx, Nat.add_mul]; omega), hx, show (i + 1) * sz + j - sz = i * sz + j by rw [Nat.add_mul]; omega]
    exact flatten_get sz r (fun y hy => hl y (by simp [hy])) i e h j v hv
/-- A slice from a place on. -/
theorem Sl.drop {a : Option Addr} {n cap : Nat} (h : Sl w (.slice a n cap) sz els) (lo : Nat) (hlo : lo ≤ n) (hsz : 0 < sz) : Sl w (.slice (if cap = lo then a else a.map (·.add (lo * sz))) (n - lo) (cap - lo)) sz (els.drop lo) := by
  obtain ⟨a', cap', h1, h2, h3, h4, h0, h5⟩ := h
  simp only [Value.slice.injEq] at h1
  obtain ⟨rfl, rfl, rfl⟩ := h1
  refine ⟨_, _, by rw [List.length_drop], by rw [List.length_drop]; omega, by omega, fun e he => h4 e (List.mem_of_mem_drop he), fun hn => ?_, fun hne => ?_⟩
  · split at hn
    · rw [h0 hn]; omega
    · cases a with
      | none => rw [h0 rfl]; omega
      | some x => simp at hn
  · have hlt : lo < els.length := by
      rcases Nat.lt_or_ge lo els.length with h | h
      · exact h
      · exact absurd (List.drop_of_length_le h) hne
    obtain ⟨b, k, rfl, hb, hc⟩ := h5 (by intro h0; rw [h0] at hlt; simp at hlt)
    refine ⟨b, k + lo * sz, by rw [if_neg (by omega), Option.map_some, Cells.add], hb, fun i e he => ?_⟩
    have := hc (lo + i) e (by rw [List.getElem?_drop] at he; exact he)
    rw [show k + lo * sz + i * sz = k + (lo + i) * sz by rw [Nat.add_mul]; omega]
    exact this
/-- .. and up to a place. -/
theorem Sl.take {a : Option Addr} {n cap : Nat} (h : Sl w (.slice a n cap) sz els) (hi c2 : Nat) (hhi : hi ≤ n) (hc2 : hi ≤ c2) (hc3 : c2 ≤ maxLen) (hz : a = none → c2 = 0) : Sl w (.slice a hi c2) sz (els.take hi) := by
  obtain ⟨a', cap', h1, h2, h3, h4, h0, h5⟩ := h
  simp only [Value.slice.injEq] at h1
  obtain ⟨rfl, rfl, rfl⟩ := h1
  refine ⟨_, c2, by rw [List.length_take, Nat.min_eq_left hhi], by rw [List.length_take]; omega, hc3, fun e he => h4 e (List.mem_of_mem_take he), hz, fun hne => ?_⟩
  obtain ⟨b, k, rfl, hb, hc⟩ := h5 (by intro h0; subst h0; simp at hne)
  refine ⟨b, k, rfl, hb, fun i e he => hc i e ?_⟩
  rw [List.getElem?_take] at he
  split at he
  · exact he
  · cases he
/-- A row of one's own, as a slice. -/
theorem Sl.own {B : Nat} {e : TypeId} {n : Nat} (hn : els.length = n) (hl : ∀ e ∈ els, e.length = sz) (h : w.ownsRow B e sz v n els.flatten) : Sl w v sz els := by
  subst hn
  obtain ⟨h1, h | ⟨g, cap, cur, hv, hg, hh, hc, hm, hs, ht⟩⟩ := h
  · obtain ⟨rfl, h0⟩ := h
    have : els = [] := List.eq_nil_of_length_eq_zero h0
    subst this
    exact Sl.nil w sz
  · refine ⟨_, cap, hv, hc, hm, hl, fun h => (by cases h), fun hne => ⟨g, 0, rfl, (Array.getElem?_eq_some_iff.1 hh).1, fun i e he j u hu => ?_⟩⟩
    have := flatten_get sz els hl i e he j u hu
    rw [← ht] at this
    rw [cell_of_row w g _ cur _ (0, 0) hh, Nat.zero_add]
    have hlt : i * sz + j < (cur.toList.take (els.length * sz)).length := (List.getElem?_eq_some_iff.1 this).1
    rw [List.getElem?_take] at this
    split at this
    · simpa using this
    · cases this
end
end Go.Proofs.Ytikphhhkikdhaaa
