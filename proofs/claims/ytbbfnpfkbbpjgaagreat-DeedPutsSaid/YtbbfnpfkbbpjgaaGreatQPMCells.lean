/- Several texts of this proof in one: TreeL, Cells, RefTwo, Plan, Build, TreeA, TreeUp, Mem, OnceRef, OnceRef2, OnceRef3. -/
import Derived.Test.YtbbfnpfkbbpjgaaGreatQPMRef
import Derived.Test.YtbbfnpfkbbpjgaaGreatQPMOf
import Derived.Laws.AppendOwn
import Derived.Great.BuildSlice
import Derived.OwnWalk
import Derived.Laws.CopyRow
import Derived.Maps.AppendAt
/- Trees of hashes, in plain words: rows, the top, proofs, and what a proof comes to. -/
namespace Go.Proofs.YtbbfnpfkbbpjgaaGreat

abbrev H32 := List UInt8
end Go.Proofs.YtbbfnpfkbbpjgaaGreat

/- Cells in memory, wherever they stand: what an array, a struct, an element of a slice is made of; slices of such; the steps of a walk that load them. -/
namespace Go.Proofs.YtbbfnpfkbbpjgaaGreat
open Go.RowKit Go.Lib
set_option linter.unusedVariables false
set_option linter.unusedSimpArgs false

/-- From the address ⟨b, o⟩ on stand the cells cs. -/
def Cells (w : World) (b o : Nat) (cs : List Value) : Prop := ∀ j v, cs[j]? = some v → w.cell? ⟨b, o + j, none⟩ = some v
section
variable {w w' : World} {b o : Nat} {cs xs ys : List Value}
theorem Cells.below (h : Cells w b o cs) {B : Nat} (hb : Below B w w') (hB : b < B) : Cells w' b o cs := fun j v hj => (hb.cell (p := ⟨b, o + j, none⟩) hB).trans (h j v hj)
theorem Cells.later (h : Cells w b o cs) (hb : Below w.heap.size w w') : Cells w' b o cs := fun j v hj => by
  have h1 := h j v hj
  exact (hb.cell (p := ⟨b, o + j, none⟩) (World.block_lt_of_cell? w _ h1)).trans h1
theorem Cells.left (h : Cells w b o (xs ++ ys)) : Cells w b o xs := fun j v hj => h j v (by rw [List.getElem?_append_left (List.getElem?_eq_some_iff.1 hj).1]; exact hj)
theorem Cells.right (h : Cells w b o (xs ++ ys)) {n : Nat} (hn : xs.length = n) : Cells w b (o + n) ys := fun j v hj => by
  subst hn
  have := h (xs.length + j) v (by rw [List.getElem?_append_right (by omega)]; simpa using hj)
  rwa [Nat.add_assoc]
theorem Cells.one {v : Value} (h : Cells w b o (v :: ys)) : w.cell? ⟨b, o, none⟩ = some v := h 0 v rfl
theorem Cells.tail {v : Value} (h : Cells w b o (v :: ys)) : Cells w b (o + 1) ys := Cells.right (xs := [v]) h rfl
theorem Cells.arr {t : TypeId} (h : Arr w b t cs) : Cells w b 0 cs := fun j v hj => by
  have := Arr.cell h (List.getElem?_eq_some_iff.1 hj).1
  rw [Nat.zero_add, this, List.getD_eq_getElem?_getD, hj]; rfl
theorem Cells.lt (h : Cells w b o cs) (hne : cs ≠ []) : b < w.heap.size := by
  cases cs with
  | nil => exact absurd rfl hne
  | cons v r => exact World.block_lt_of_cell? w _ h.one
theorem Cells.add (b o j : Nat) : (⟨b, o, none⟩ : Addr).add j = ⟨b, o + j, none⟩ := by unfold Addr.add; split <;> simp_all
theorem Cells.load {P : Program} (h : Cells w b o cs) (ty : TypeId) (d : TypeDesc) (hu : P.underlying ty = some d) (hd : (match d with | .struct _ | .array _ _ => true | _ => false) = true) (hi : (P.info? ty).map (·.size) = some cs.length) :
    (loadVar ty ⟨b, o, none⟩).run P w = .ok (.agg cs.toArray) w := by
  have hl : (loadCells ⟨b, o, none⟩ cs.length).run P w = .ok cs.toArray w := run_loadCells_list (P := P) w ⟨b, o, none⟩ cs (fun j v hv => by rw [Cells.add]; exact h j v hv)
  cases hq : P.info? ty with
  | none => simp [hq] at hi
  | some i =>
    have hs : i.size = cs.length := by simpa [hq] using hi
    have hagg : (isAgg ty).run P w = .ok true w := by
      unfold isAgg
      rw [Sem.run_bind, run_underlying hu w]
      cases d <;> simp_all
    simp [loadVar, Sem.run_bind, hagg, sizeOf, typeInfo, hq, hs, hl]
end

section
variable {P : Program} {ops : Array Oper} {rest : List Oper} {o : Oper} {a : Act} {w : World} {Q : Exit → Act → World → Prop} {K : Act → Prop}
theorem wpl_value (hw : Region.wanted o (yielded ops a.tmps) = true) (v : Value) (h : (execOp a.eval o).run P w = .ok (.value v) w) (hk : wpList P ops Q rest (a.put o.dst v) w) : wpList P ops Q (o :: rest) a w :=
  BigFrame.wpList_want hw fun _ hK => by
    unfold Oper.wp
    rw [h]
    exact hK _ _ hk
theorem load_cells (ty : TypeId) (x : Operand) (ho : o.op = .load ty x) {b k : Nat} {cs : List Value} (hx : a.eval x = .pointer (some ⟨b, k, none⟩)) (h : Cells w b k cs) (d : TypeDesc) (hu : P.underlying ty = some d) (hd : (match d with | .struct _ | .array _ _ => true | _ => false) = true)
    (hi : (P.info? ty).map (·.size) = some cs.length) : (execOp a.eval o).run P w = .ok (.value (.agg cs.toArray)) w := by
  unfold execOp
  simp only [ho, hx, Instr.loadAt, Instr.sureAddr, Sem.run_bind, Sem.run_pure, Result.andThen_ok, h.load ty d hu hd hi]
theorem wpl_load_cells (hw : Region.wanted o (yielded ops a.tmps) = true) (ty : TypeId) (x : Operand) (ho : o.op = .load ty x) {b k : Nat} {cs : List Value} (hx : a.eval x = .pointer (some ⟨b, k, none⟩)) (h : Cells w b k cs) (d : TypeDesc) (hu : P.underlying ty = some d)
    (hd : (match d with | .struct _ | .array _ _ => true | _ => false) = true) (hi : (P.info? ty).map (·.size) = some cs.length) (hk : wpList P ops Q rest (a.put o.dst (.agg cs.toArray)) w) : wpList P ops Q (o :: rest) a w :=
  wpl_value hw _ (load_cells ty x ho hx h d hu hd hi) hk
/-- In a region: in every world of a class. -/
theorem quiet_load_cells {C : World → Prop} (ty : TypeId) (x : Operand) (ho : o.op = .load ty x) {b k : Nat} {cs : List Value} (hx : a.eval x = .pointer (some ⟨b, k, none⟩)) (h : ∀ w, C w → Cells w b k cs) (d : TypeDesc) (hu : P.underlying ty = some d)
    (hd : (match d with | .struct _ | .array _ _ => true | _ => false) = true) (hi : (P.info? ty).map (·.size) = some cs.length) (hk : K (a.put o.dst (.agg cs.toArray))) : o.quiet P a C K :=
  quiet_value _ (fun w hw => load_cells ty x ho hx (h w hw) d hu hd hi) hk
theorem Cells.since {w0 : World} {b k : Nat} {cs : List Value} (h : Cells w0 b k cs) : ∀ w, (∃ s : Since w0, w = s.w) → Cells w b k cs := fun _ ⟨s, hs⟩ => by subst hs; exact h.later s.ok
end

/-- The slice v has the elements els, each of sz cells. -/
def Sl (w : World) (v : Value) (sz : Nat) (els : List (List Value)) : Prop :=
  ∃ a cap, v = .slice a els.length cap ∧ els.length ≤ cap ∧ cap ≤ maxLen ∧ (∀ e ∈ els, e.length = sz) ∧ (a = none → cap = 0) ∧ (els ≠ [] → ∃ b k, a = some ⟨b, k, none⟩ ∧ b < w.heap.size ∧ ∀ i e, els[i]? = some e → Cells w b (k + i * sz) e)
section
variable {w w' : World} {v : Value} {sz : Nat} {els : List (List Value)}
theorem Sl.later (h : Sl w v sz els) (hb : Below w.heap.size w w') : Sl w' v sz els := by
  obtain ⟨a, cap, h1, h2, h3, h4, h0, h5⟩ := h
  refine ⟨a, cap, h1, h2, h3, h4, h0, fun hne => ?_⟩
  obtain ⟨b, k, h6, h7, h8⟩ := h5 hne
  exact ⟨b, k, h6, Nat.lt_of_lt_of_le h7 hb.size, fun i e he => (h8 i e he).later hb⟩
theorem Sl.nil (w : World) (sz : Nat) : Sl w (.slice none 0 0) sz [] := ⟨none, 0, rfl, by simp, by simp [maxLen], by simp, fun _ => rfl, fun h => absurd rfl h⟩
theorem flatten_get (sz : Nat) : ∀ (els : List (List Value)), (∀ e ∈ els, e.length = sz) → ∀ i e, els[i]? = some e → ∀ j v, e[j]? = some v → els.flatten[i * sz + j]? = some v
  | [], _, i, e, h, _, _, _ => by simp at h
  | x :: r, hl, 0, e, h, j, v, hv => by
    simp only [List.getElem?_cons_zero, Option.some.injEq] at h
    subst h
    rw [List.flatten_cons, Nat.zero_mul, Nat.zero_add, List.getElem?_append_left (List.getElem?_eq_some_iff.1 hv).1]
    exact hv
  | x :: r, hl, i + 1, e, h, j, v, hv => by
    have hx := hl x (by simp)
    rw [List.getElem?_cons_succ] at h
    rw [List.flatten_cons, List.getElem?_append_right (by rw [hx, Nat.add_mul]; omega), hx, show (i + 1) * sz + j - sz = i * sz + j by rw [Nat.add_mul]; omega]
    exact flatten_get sz r (fun y hy => hl y (by simp [hy])) i e h j v hv
/-- A slice from a place on. -/
theorem Sl.drop {a : Option Addr} {n cap : Nat} (h : Sl w (.slice a n cap) sz els) (lo : Nat) (hlo : lo ≤ n) (hsz : 0 < sz) : Sl w (.slice (if cap = lo then a else a.map (·.add (lo * sz))) (n - lo) (cap - lo)) sz (els.drop lo) := by
  obtain ⟨a', cap', h1, h2, h3, h4, h0, h5⟩ := h
  simp only [Value.slice.injEq] at h1
  obtain ⟨rfl, rfl, rfl⟩ := h1
  refine ⟨_, _, by rw [List.length_drop], by rw [List.length_drop]; omega, by omega, fun e he => h4 e (List.mem_of_mem_drop he), fun hn => ?_, fun hne => ?_⟩
  · split at hn
    · rw [h0 hn]; omega
    · cases a with
      | none => rw [h0 rfl]; omega
      | some x => simp at hn
  · have hlt : lo < els.length := by
      rcases Nat.lt_or_ge lo els.length with h | h
      · exact h
      · exact absurd (List.drop_of_length_le h) hne
    obtain ⟨b, k, rfl, hb, hc⟩ := h5 (by intro h0; rw [h0] at hlt; simp at hlt)
    refine ⟨b, k + lo * sz, by rw [if_neg (by omega), Option.map_some, Cells.add], hb, fun i e he => ?_⟩
    have := hc (lo + i) e (by rw [List.getElem?_drop] at he; exact he)
    rw [show k + lo * sz + i * sz = k + (lo + i) * sz by rw [Nat.add_mul]; omega]
    exact this
/-- .. and up to a place. -/
theorem Sl.take {a : Option Addr} {n cap : Nat} (h : Sl w (.slice a n cap) sz els) (hi c2 : Nat) (hhi : hi ≤ n) (hc2 : hi ≤ c2) (hc3 : c2 ≤ maxLen) (hz : a = none → c2 = 0) : Sl w (.slice a hi c2) sz (els.take hi) := by
  obtain ⟨a', cap', h1, h2, h3, h4, h0, h5⟩ := h
  simp only [Value.slice.injEq] at h1
  obtain ⟨rfl, rfl, rfl⟩ := h1
  refine ⟨_, c2, by rw [List.length_take, Nat.min_eq_left hhi], by rw [List.length_take]; omega, hc3, fun e he => h4 e (List.mem_of_mem_take he), hz, fun hne => ?_⟩
  obtain ⟨b, k, rfl, hb, hc⟩ := h5 (by intro h0; subst h0; simp at hne)
  refine ⟨b, k, rfl, hb, fun i e he => hc i e ?_⟩
  rw [List.getElem?_take] at he
  split at he
  · exact he
  · cases he
/-- A row of one's own, as a slice. -/
theorem Sl.own {B : Nat} {e : TypeId} {n : Nat} (hn : els.length = n) (hl : ∀ e ∈ els, e.length = sz) (h : w.ownsRow B e sz v n els.flatten) : Sl w v sz els := by
  subst hn
  obtain ⟨h1, h | ⟨g, cap, cur, hv, hg, hh, hc, hm, hs, ht⟩⟩ := h
  · obtain ⟨rfl, h0⟩ := h
    have : els = [] := List.eq_nil_of_length_eq_zero h0
    subst this
    exact Sl.nil w sz
  · refine ⟨_, cap, hv, hc, hm, hl, fun h => (by cases h), fun hne => ⟨g, 0, rfl, (Array.getElem?_eq_some_iff.1 hh).1, fun i e he j u hu => ?_⟩⟩
    have := flatten_get sz els hl i e he j u hu
    rw [← ht] at this
    rw [cell_of_row w g _ cur _ (0, 0) hh, Nat.zero_add]
    have hlt : i * sz + j < (cur.toList.take (els.length * sz)).length := (List.getElem?_eq_some_iff.1 this).1
    rw [List.getElem?_take] at this
    split at this
    · simpa using this
    · cases this
end
end Go.Proofs.YtbbfnpfkbbpjgaaGreat

/- The reference's One, Two (mintageref03). -/
namespace Go.Proofs.YtbbfnpfkbbpjgaaGreat
open Go.RowKit Go.Lib
set_option linter.unusedVariables false
set_option linter.unusedSimpArgs false

set_option maxRecDepth 100000 in
set_option maxHeartbeats 1600000 in
theorem refOne_any (tag a : List UInt8) (w : World) (ht : tag.length ≤ 1048576) (ha : a.length ≤ 1048576) :
    Calls Tryz.prog 57 #[.string ⟨tag.toArray⟩, .string ⟨a.toArray⟩] w fun e w' => e = .returned (hv (ofX tag [a])) ∧ Below w.heap.size w w' := by
  obtain ⟨R, hR⟩ : ∃ R, R = ofX tag [a] := ⟨_, rfl⟩
  have HO : Hid (∀ w, Calls Tryz.prog 114 #[.string ⟨tag.toArray⟩, .slice (some ⟨w.heap.size, 0, none⟩) 1 1] (w.alloc (.cells #[.string ⟨a.toArray⟩] 9)) fun e w' => e = .returned (hv R) ∧ Below w.heap.size w w') := fun w => by rw [hR]; exact refOf1 tag a w ht ha
  have HL : Hid (R.length = 32) := by rw [hR]; exact ofX_length _ _
  rw [← hR]
  clear hR ht ha
  have z := HashAt.zero w
  have b := below1 w (.cells (bvs zero32).toArray 34)
  generalize (⟨tag.toArray⟩ : ByteArray) = tb at *
  generalize (⟨a.toArray⟩ : ByteArray) = ab at *
  go_enter Tryz.func57, Tryz.ntmps57
  go_wp2_with fail
  show Calls _ _ _ ((w.alloc (.cells (bvs zero32).toArray 34)).alloc _) _
  rw [show w.heap.size + 1 = (w.alloc (.cells (bvs zero32).toArray 34)).heap.size by simp]
  generalize w.alloc (.cells (bvs zero32).toArray 34) = W at *
  refine (HO.out _).mono ?_
  rintro _ wc1 ⟨rfl, hc1⟩
  replace b := later b hc1
  replace z := z.later hc1
  clear hc1
  have zr := z.row R HL.out
  have br := below_setRow (b := w.heap.size) b (Nat.le_refl _) (bvs R).toArray
  go_wp2_with (refine wpl_store_hash rfl _ _ rfl rfl rfl HL.out z ?_)
  exact bodyPost_ret (v := hv R) (ret_hash rfl _ _ rfl zr) rfl ⟨rfl, br⟩
end Go.Proofs.YtbbfnpfkbbpjgaaGreat

/- A region that draws its order, walked by a plan: operations that look, calls that may come up anywhere, operations of which one or two or three are next; the class of worlds may grow narrower behind each of these. -/
namespace Go.Proofs.YtbbfnpfkbbpjgaaGreat
open Go.RowKit
set_option linter.unusedVariables false

/-- What lasts while new memory is made. -/
def Lasts (K : World → Prop) : Prop := ∀ w w', K w → Below w.heap.size w w' → K w'
theorem lasts_below {B : Nat} {w : World} (hB : B ≤ w.heap.size) : Lasts (fun x => Below B w x) := fun _ _ h k => h.trans (k.mono (Nat.le_trans hB h.size))
instance kept_below (B : Nat) (w : World) : Nonempty (Kept (fun x => Below B w x)) := ⟨⟨w, Below.refl _ _⟩⟩
/-- The class of the worlds of which K holds. -/
def Kl (K : World → Prop) : World → Prop := fun w' => ∃ s : Kept K, w' = s.w
theorem Kl.out {K : World → Prop} {w : World} (h : ∃ s : Kept K, w = s.w) : K w := by obtain ⟨s, rfl⟩ := h; exact s.ok

section
variable {P : Program} {ops : Array Oper} {md : Region.Mode} {Q : Exit → Act → World → Prop}

theorem YieldsFl.sub {C C' : World → Prop} {o : Oper} {v : Value} {a : Act} (h : YieldsFl P ops C o v a) (hs : ∀ x, C' x → C x) : YieldsFl P ops C' o v a :=
  h.imp (fun h => ⟨h.1, fun w hw => h.2 w (hs w hw)⟩) id
/-- What is listed waits for nothing that is not. -/
def Closed (md : Region.Mode) (ops : Array Oper) (L : Array Bool) : Prop := ∀ j oj, ops[j]? = some oj → L.getD j false = true → ∀ e ∈ oj.after, Region.binds md e = true → L.getD e.on false = true
theorem Closed.set {L : Array Bool} {i : Nat} (h : Closed md ops L) (hi : i ∈ Region.ready md ops L) : Closed md ops (L.setIfInBounds i true) := by
  obtain ⟨_, oi, hoi, hall⟩ := mem_ready.1 hi
  intro j oj hj hl e he hb
  by_cases hij : i = j
  · subst hij
    have : oj = oi := Option.some.inj (hj.symm.trans hoi)
    subst this
    exact getD_set_true (hall e he hb)
  · rw [getD_set_ne false hij] at hl
    exact getD_set_true (h j oj hj hl e he hb)
theorem closed_start {n : Nat} : Closed md ops (Array.replicate n false) := fun j oj _ hl => by rw [getD_replicate_false] at hl; cases hl
/-- j waits for i, by whatever stands between. -/
def reach (md : Region.Mode) (ops : Array Oper) : Nat → Nat → Nat → Bool
  | 0, _, _ => false
  | f + 1, j, i => match ops[j]? with
    | some oj => oj.after.any fun e => Region.binds md e && (e.on == i || reach md ops f e.on i)
    | none => false
theorem reach_listed {L : Array Bool} (h : Closed md ops L) : ∀ (f j i : Nat), reach md ops f j i = true → (∀ oj, ops[j]? = some oj → ∀ e ∈ oj.after, Region.binds md e = true → L.getD e.on false = true) → L.getD i false = true
  | 0, _, _, hr, _ => by cases hr
  | f + 1, j, i, hr, hd => by
    unfold reach at hr
    split at hr
    · rename_i oj hj
      obtain ⟨e, he, hb⟩ := Array.any_eq_true'.1 hr
      simp only [Bool.and_eq_true, Bool.or_eq_true, beq_iff_eq] at hb
      have hl := hd oj hj e he hb.1
      rcases hb.2 with h1 | h1
      · rw [← h1]; exact hl
      · exact reach_listed h f e.on i h1 (fun oj' hj' e' he' hb' => h e.on oj' hj' hl e' he' hb')
    · cases hr
/-- All others stand ahead of it or behind it. -/
def barrier (md : Region.Mode) (ops : Array Oper) (j : Nat) : Bool := (List.range ops.size).all fun i => i == j || reach md ops ops.size j i || reach md ops ops.size i j
theorem barrier_no {L : Array Bool} {i j : Nat} (h : Closed md ops L) (hb : barrier md ops j = true) (hi : i ∈ Region.ready md ops L) (hj : j ∈ Region.ready md ops L) (hne : i ≠ j) : False := by
  obtain ⟨hiu, oi, hoi, hia⟩ := mem_ready.1 hi
  obtain ⟨hju, oj, hoj, hja⟩ := mem_ready.1 hj
  have hlt : i < ops.size := (Array.getElem?_eq_some_iff.1 hoi).1
  have h1 := List.all_eq_true.1 hb i (List.mem_range.2 hlt)
  simp only [Bool.or_eq_true, beq_iff_eq] at h1
  rcases h1 with (h1 | h1) | h1
  · exact hne h1
  · have := reach_listed h _ j i h1 (fun o ho e he hbb => by have : o = oj := Option.some.inj (ho.symm.trans hoj); subst this; exact hja e he hbb)
    rw [getD_both hiu] at this; cases this
  · have := reach_listed h _ i j h1 (fun o ho e he hbb => by have : o = oi := Option.some.inj (ho.symm.trans hoi); subst this; exact hia e he hbb)
    rw [getD_both hju] at this; cases this
def wpAnyT (P : Program) (md : Region.Mode) (ops : Array Oper) (Q : Exit → Act → World → Prop) : Nat → (World → Prop) → Array Bool → Act → World → Prop
  | 0, C, listed, a, w => ∀ w', Below w.heap.size w w' → C w' → Region.ready md ops listed = [] ∧ Q .normal a w'
  | fuel + 1, C, listed, a, w => ∀ w', Below w.heap.size w w' → C w' →
    (Region.ready md ops listed = [] → Q .normal a w') ∧
    ∀ i ∈ Region.ready md ops listed, wpOp P ops Q i (fun a' w'' => ∃ C', (barrier md ops i = true ∨ ∀ x, C' x → C x) ∧ Lasts C' ∧ C' w'' ∧ wpAnyT P md ops Q fuel C' (listed.setIfInBounds i true) a' w'') a w'
theorem wpAnyT_later {C : World → Prop} {fuel : Nat} {listed : Array Bool} {a : Act} {w w1 : World} (h : wpAnyT P md ops Q fuel C listed a w) (hb : Below w.heap.size w w1) : wpAnyT P md ops Q fuel C listed a w1 := by
  cases fuel with
  | zero => exact fun w' hw' hC => h w' (hb.trans (hw'.mono hb.size)) hC
  | succ fuel => exact fun w' hw' hC => h w' (hb.trans (hw'.mono hb.size)) hC
theorem wpAny_of_T : ∀ (fuel : Nat) (C : World → Prop) (listed : Array Bool) (a : Act) (w : World), C w → wpAnyT P md ops Q fuel C listed a w → wpAny P md ops Q fuel listed a w
  | 0, _, _, _, w, hC, h => h w (Below.refl _ _) hC
  | fuel + 1, _, _, _, w, hC, h =>
    have h := h w (Below.refl _ _) hC
    ⟨h.1, fun i hi => wpOp_mono (fun a' w' ⟨C', _, _, h1, h2⟩ => wpAny_of_T fuel C' _ a' w' h1 h2) (h.2 i hi)⟩
theorem wpAnyT_done {C : World → Prop} {listed : Array Bool} {a : Act} {w : World} (hr : Region.ready md ops listed = []) (h : ∀ w', Below w.heap.size w w' → C w' → Q .normal a w') :
    ∀ fuel, wpAnyT P md ops Q fuel C listed a w
  | 0 => fun w' hw' hC => ⟨hr, h w' hw' hC⟩
  | _ + 1 => fun w' hw' hC => ⟨fun _ => h w' hw' hC, by rw [hr]; simp⟩
theorem wpAnyT_first {i : Nat} {oi : Oper} {v : Value} (hi : ops[i]? = some oi) (hsel : ∀ (j : Nat) (o : Oper) cs b, ops[j]? = some o → o.op ≠ .select cs b)
    (hQ : ∀ c a w, Q (.panic c) (a.put oi.dst v) w → Q (.panic c) a w) :
    ∀ (fuel : Nat) (C : World → Prop) (listed : Array Bool) (a : Act) (w : World), Lasts C → Closed md ops listed →
      (∀ j oj, ops[j]? = some oj → j ≠ i → listed.getD j true = false → (∀ e ∈ oj.after, Region.binds md e = true → e.on ≠ i) → oi.apart ops oj = true) →
      i ∈ Region.ready md ops listed → YieldsFl P ops C oi v a →
      wpAnyT P md ops Q fuel C (listed.setIfInBounds i true) (a.put oi.dst v) w → wpAnyT P md ops Q (fuel + 1) C listed a w := by
  intro fuel
  induction fuel with
  | zero =>
    intro C listed a w hCR hcl _ hr hy H w' hw' hC
    refine ⟨fun h => (by rw [h] at hr; cases hr), fun j hj => ?_⟩
    by_cases hji : j = i
    · subst hji
      exact hy.wpOp hi hC (fun w'' hb => ⟨C, .inr fun _ h => h, hCR, hCR _ _ hC hb, wpAnyT_later (wpAnyT_later H hw') hb⟩)
    · have := ready_mono hj hji
      rw [(H w' hw' hC).1] at this
      cases this
  | succ fuel ih =>
    intro C listed a w hCR hcl hfree hr hy H w' hw' hC
    refine ⟨fun h => (by rw [h] at hr; cases hr), fun j hj => ?_⟩
    by_cases hji : j = i
    · subst hji
      exact hy.wpOp hi hC (fun w'' hb => ⟨C, .inr fun _ h => h, hCR, hCR _ _ hC hb, wpAnyT_later (wpAnyT_later H hw') hb⟩)
    · have h1 := (H w' hw' hC).2 j (ready_mono hj hji)
      obtain ⟨hjun, oj, hoj, hall⟩ := mem_ready.1 hj
      have hnot : ∀ e ∈ oj.after, Region.binds md e = true → e.on ≠ i := fun e he hb heq => by
        have h1 := hall e he hb
        have h0 := (mem_ready.1 hr).1
        rw [heq] at h1
        rcases Nat.lt_or_ge i listed.size with h' | h'
        · simp [h'] at h0 h1; rw [h0] at h1; cases h1
        · simp [Array.getElem?_eq_none h'] at h1
      have h2 := wpOp_putFl hoj (hfree j oj hoj hji hjun hnot) (fun cs b => hsel i oi cs b hi) (fun cs b => hsel j oj cs b hoj) hQ hy h1
      have hfree' : ∀ k ok, ops[k]? = some ok → k ≠ i → (listed.setIfInBounds j true).getD k true = false →
          (∀ e ∈ ok.after, Region.binds md e = true → e.on ≠ i) → oi.apart ops ok = true := fun k ok hk hki hun hno => by
        refine hfree k ok hk hki ?_ hno
        by_cases hjk : j = k
        · subst hjk; exact hjun
        · rw [getD_set_ne true hjk] at hun; exact hun
      refine wpOp_mono (fun a' w'' h3 => ?_) h2
      obtain ⟨hy', C', hsub, hl, hc, hrest⟩ := h3
      have hsub : ∀ x, C' x → C x := hsub.elim (fun hb => (barrier_no hcl hb hr hj (Ne.symm hji)).elim) id
      refine ⟨C', .inr hsub, hl, hc, ih C' (listed.setIfInBounds j true) a' w'' hl (hcl.set hj) hfree' (ready_mono hr (Ne.symm hji)) (hy'.sub hsub) ?_⟩
      rw [Array.setIfInBounds_comm _ _ hji]
      exact hrest

/-- A plan. -/
inductive Plan where
  | stop (q : List Nat)
  | fl (q : List Nat) (i : Nat) (p : Plan)
  | one (q : List Nat) (i : Nat) (p : Plan)
  | bar (q : List Nat) (i : Nat) (p : Plan)
  | two (q : List Nat) (i : Nat) (p : Plan) (j : Nat) (r : Plan)
  | three (q : List Nat) (i : Nat) (p : Plan) (j : Nat) (r : Plan) (k : Nat) (s : Plan)
def planB (md : Region.Mode) (ops : Array Oper) : Plan → Array Bool → Bool
  | .stop q, L => match quietB md ops q L with
    | none => false
    | some L1 => Region.ready md ops L1 == []
  | .fl q i p, L => match quietB md ops q L with
    | none => false
    | some L1 => (Region.ready md ops L1).contains i && Region.free md ops L1 i && planB md ops p (L1.setIfInBounds i true)
  | .one q i p, L => match quietB md ops q L with
    | none => false
    | some L1 => Region.ready md ops L1 == [i] && planB md ops p (L1.setIfInBounds i true)
  | .bar q i p, L => match quietB md ops q L with
    | none => false
    | some L1 => Region.ready md ops L1 == [i] && barrier md ops i && planB md ops p (L1.setIfInBounds i true)
  | .two q i p j r, L => match quietB md ops q L with
    | none => false
    | some L1 => Region.ready md ops L1 == [i, j] && planB md ops p (L1.setIfInBounds i true) && planB md ops r (L1.setIfInBounds j true)
  | .three q i p j r k s, L => match quietB md ops q L with
    | none => false
    | some L1 => Region.ready md ops L1 == [i, j, k] && planB md ops p (L1.setIfInBounds i true) && planB md ops r (L1.setIfInBounds j true) && planB md ops s (L1.setIfInBounds k true)
def Plan.len : Plan → Nat
  | .stop q => q.length
  | .fl q _ p => q.length + (p.len + 1)
  | .one q _ p => q.length + (p.len + 1)
  | .bar q _ p => q.length + (p.len + 1)
  | .two q _ p _ r => q.length + (max p.len r.len + 1)
  | .three q _ p _ r _ s => q.length + (max p.len (max r.len s.len) + 1)
/-- What an operation that is next owes: a class for what follows, no wider than the one before. -/
def goQ (K : World → Prop) (next : (World → Prop) → Act → World → Prop) : Exit → Act → World → Prop
  | .normal, a, w => ∃ K', (∀ x, K' x → K x) ∧ Lasts K' ∧ K' w ∧ next K' a w
  | _, _, _ => False
theorem goQ_same {K : World → Prop} {next : (World → Prop) → Act → World → Prop} {a : Act} {w : World} (hl : Lasts K) (h : K w) (h2 : next K a w) : goQ K next .normal a w := ⟨K, fun _ h => h, hl, h, h2⟩
theorem goQ_since {K : World → Prop} {next : (World → Prop) → Act → World → Prop} {a : Act} {w : World} (hl : Lasts K) (h : K w) (h2 : next (fun x => Below w.heap.size w x) a w) : goQ K next .normal a w :=
  ⟨_, fun _ hx => hl _ _ h hx, lasts_below (Nat.le_refl _), Below.refl _ _, h2⟩
/-- .. where all others stand ahead of it or behind it: any class. -/
def goB (next : (World → Prop) → Act → World → Prop) : Exit → Act → World → Prop
  | .normal, a, w => ∃ K', Lasts K' ∧ K' w ∧ next K' a w
  | _, _, _ => False
theorem goB_since {next : (World → Prop) → Act → World → Prop} {a : Act} {w : World} (h2 : next (fun x => Below w.heap.size w x) a w) : goB next .normal a w :=
  ⟨_, lasts_below (Nat.le_refl _), Below.refl _ _, h2⟩
def opAt (l : List Oper) (i : Nat) : List Oper := match l[i]? with | some o => [o] | none => []
def wpPlan (P : Program) (l : List Oper) (N : Act → World → Prop) : Plan → (World → Prop) → Act → World → Prop
  | .stop q, K, a, w => wpQuiet P l.toArray (fun w2 => ∃ s : Kept K, w2 = s.w) (fun a' => ∀ w', Below w.heap.size w w' → K w' → N a' w') (pickOps l q) a
  | .fl q i p, K, a, w => wpQuiet P l.toArray (fun w2 => ∃ s : Kept K, w2 = s.w) (fun a' => match opAt l i with
      | [] => False
      | o :: _ => Floats P l.toArray (fun w2 => ∃ s : Kept K, w2 = s.w) o a' (fun a'' => wpPlan P l N p K a'' w)) (pickOps l q) a
  | .one q i p, K, a, w => wpQuiet P l.toArray (fun w2 => ∃ s : Kept K, w2 = s.w) (fun a' => ∀ w', Below w.heap.size w w' → K w' → wpList P l.toArray (goQ K (wpPlan P l N p)) (opAt l i) a' w') (pickOps l q) a
  | .bar q i p, K, a, w => wpQuiet P l.toArray (fun w2 => ∃ s : Kept K, w2 = s.w) (fun a' => ∀ w', Below w.heap.size w w' → K w' → wpList P l.toArray (goB (wpPlan P l N p)) (opAt l i) a' w') (pickOps l q) a
  | .two q i p j r, K, a, w => wpQuiet P l.toArray (fun w2 => ∃ s : Kept K, w2 = s.w) (fun a' => ∀ w', Below w.heap.size w w' → K w' →
      wpList P l.toArray (goQ K (wpPlan P l N p)) (opAt l i) a' w' ∧ wpList P l.toArray (goQ K (wpPlan P l N r)) (opAt l j) a' w') (pickOps l q) a
  | .three q i p j r k s, K, a, w => wpQuiet P l.toArray (fun w2 => ∃ s : Kept K, w2 = s.w) (fun a' => ∀ w', Below w.heap.size w w' → K w' →
      wpList P l.toArray (goQ K (wpPlan P l N p)) (opAt l i) a' w' ∧ wpList P l.toArray (goQ K (wpPlan P l N r)) (opAt l j) a' w' ∧ wpList P l.toArray (goQ K (wpPlan P l N s)) (opAt l k) a' w') (pickOps l q) a

theorem goB_out {next : (World → Prop) → Act → World → Prop} (h : LetsOut (goB next)) : LetsOut Q := by obtain ⟨_, _, h⟩ := h; exact h.elim
theorem Oper.wp_goB {o : Oper} {a : Act} {w : World} {K : Act → World → Prop} {next : (World → Prop) → Act → World → Prop} (hh : o.wp P a w K (goB next)) : o.wp P a w K Q := by
  unfold Oper.wp at *
  generalize (execOp a.eval o).run P w = r at *
  cases r with
  | ok n w' =>
    cases n <;> simp only [Oper.upon] at hh ⊢ <;>
      first
        | exact hh
        | exact Calls.mono hh (fun e w'' he => by cases e <;> first | exact he | exact goB_out he | exact he.elim)
  | halt x w' => cases x <;> simp only [Oper.upon] at hh ⊢ <;> first | exact hh | exact hh.elim
theorem wpOp_of_bar {l : List Oper} {i : Nat} {next : (World → Prop) → Act → World → Prop} {M : Act → World → Prop} {a : Act} {w : World} (hi : i < l.length)
    (hM : ∀ a' w', goB next .normal a' w' → M a' w') (h : wpList P l.toArray (goB next) (opAt l i) a w) : wpOp P l.toArray Q i M a w := by
  have ho : l[i]? = some l[i] := List.getElem?_eq_getElem hi
  have ho' : l.toArray[i]? = some l[i] := by simp [hi]
  unfold opAt at h
  rw [ho] at h
  simp only [wpList] at h
  unfold wpOp
  simp only [ho']
  split
  · rename_i hw
    rw [if_pos hw] at h
    refine h.imp (fun h1 => ?_) (fun h1 => ⟨h1.1, goB_out h1.2⟩)
    exact Oper.wp_mono (fun a2 w2 h2 => hM _ _ h2) (Oper.wp_goB h1)
  · rename_i hw
    rw [if_neg hw] at h
    exact hM _ _ h
theorem goQ_out {K : World → Prop} {next : (World → Prop) → Act → World → Prop} (h : LetsOut (goQ K next)) : LetsOut Q := by obtain ⟨_, _, h⟩ := h; exact h.elim
theorem Oper.wp_goQ {K0 : World → Prop} {o : Oper} {a : Act} {w : World} {K : Act → World → Prop} {next : (World → Prop) → Act → World → Prop} (hh : o.wp P a w K (goQ K0 next)) : o.wp P a w K Q := by
  unfold Oper.wp at *
  generalize (execOp a.eval o).run P w = r at *
  cases r with
  | ok n w' =>
    cases n <;> simp only [Oper.upon] at hh ⊢ <;>
      first
        | exact hh
        | exact Calls.mono hh (fun e w'' he => by cases e <;> first | exact he | exact goQ_out he | exact he.elim)
  | halt x w' => cases x <;> simp only [Oper.upon] at hh ⊢ <;> first | exact hh | exact hh.elim
theorem wpOp_of_go {l : List Oper} {i : Nat} {K : World → Prop} {next : (World → Prop) → Act → World → Prop} {M : Act → World → Prop} {a : Act} {w : World} (hi : i < l.length)
    (hM : ∀ a' w', goQ K next .normal a' w' → M a' w') (h : wpList P l.toArray (goQ K next) (opAt l i) a w) : wpOp P l.toArray Q i M a w := by
  have ho : l[i]? = some l[i] := List.getElem?_eq_getElem hi
  have ho' : l.toArray[i]? = some l[i] := by simp [hi]
  unfold opAt at h
  rw [ho] at h
  simp only [wpList] at h
  unfold wpOp
  simp only [ho']
  split
  · rename_i hw
    rw [if_pos hw] at h
    refine h.imp (fun h1 => ?_) (fun h1 => ⟨h1.1, goQ_out h1.2⟩)
    exact Oper.wp_mono (fun a2 w2 h2 => hM _ _ h2) (Oper.wp_goQ h1)
  · rename_i hw
    rw [if_neg hw] at h
    exact hM _ _ h
theorem wpAnyT_quiet {C : World → Prop} (hl : Lasts C) {next : Act → Prop} (hs : Region.noSelect ops = true) (hQ : ∀ c a d v w, Q (.panic c) (Act.put a d v) w → Q (.panic c) a w) {w : World} {fuel : Nat} :
    ∀ (q : List Nat) (L L1 : Array Bool) (a : Act), Closed md ops L → quietB md ops q L = some L1 → (∀ a', Closed md ops L1 → next a' → wpAnyT P md ops Q fuel C L1 a' w) →
      wpQuiet P ops C next (pickOps ops.toList q) a → wpAnyT P md ops Q (q.length + fuel) C L a w
  | [], L, L1, a, hcl, hB, hn, h => by
    simp only [quietB, Option.some.injEq] at hB
    subst hB
    have := hn a hcl h
    simp only [List.length_nil, Nat.zero_add]
    exact this
  | i :: q, L, L1, a, hcl, hB, hn, h => by
    simp only [quietB] at hB
    split at hB
    · rename_i hc
      simp only [Bool.and_eq_true] at hc
      obtain ⟨⟨h1, h2⟩, h3⟩ := hc
      cases ho : ops[i]? with
      | none => rw [ho] at h1; cases h1
      | some o =>
        rw [ho] at h1
        have hlo : ops.toList[i]? = some o := by simpa using ho
        simp only [pickOps, hlo, List.singleton_append] at h
        obtain ⟨v, hy, hK⟩ := yieldsIf_of_quiet (P := P) (ops := ops) (o := o) (a := a) (C := C) (K := fun a' => wpQuiet P ops C next (pickOps ops.toList q) a') (by simpa using h1) h
        have hy' : YieldsFl P ops C o v a := hy.imp (fun hh => ⟨hh.1, fun w hC => by rw [hh.2 w hC]; exact ⟨rfl, rfl⟩⟩) id
        rw [show (i :: q).length + fuel = (q.length + fuel) + 1 by simp; omega]
        exact wpAnyT_first ho (Region.noSelect_spec hs) (fun c a w => hQ c a o.dst v w) _ C L a w hl hcl (Region.free_spec ho h3) (by simpa using h2) hy' (wpAnyT_quiet hl hs hQ q _ L1 _ (hcl.set (by simpa using h2)) hB hn hK)
    · cases hB
theorem wpAnyT_all {C : World → Prop} {fuel : Nat} {L : Array Bool} {a : Act} {w : World} {rs : List Nat} (hr : Region.ready md ops L = rs) (hne : rs ≠ [])
    (h : ∀ w', Below w.heap.size w w' → C w' → ∀ i ∈ rs, wpOp P ops Q i (fun a' w'' => ∃ C', (barrier md ops i = true ∨ ∀ x, C' x → C x) ∧ Lasts C' ∧ C' w'' ∧ wpAnyT P md ops Q fuel C' (L.setIfInBounds i true) a' w'') a w') :
    wpAnyT P md ops Q (fuel + 1) C L a w := fun w' hw' hC => ⟨fun h0 => absurd (hr.symm.trans h0) hne, fun i hi => h w' hw' hC i (hr ▸ hi)⟩
theorem lasts_kl {K : World → Prop} (h : Lasts K) : Lasts (fun w2 => ∃ s : Kept K, w2 = s.w) := fun _ _ hk hb => kept (h _ _ (Kl.out hk) hb)
theorem goQ_kl {l : List Oper} {i fuel : Nat} {L : Array Bool} {K : World → Prop} {N : Act → World → Prop} {p : Plan} {a : Act} {w : World}
    (ih : ∀ K a w, Lasts K → K w → wpPlan P l N p K a w → wpAnyT P md l.toArray Q fuel (fun w2 => ∃ s : Kept K, w2 = s.w) L a w) (h : goQ K (wpPlan P l N p) .normal a w) :
    ∃ C', (barrier md l.toArray i = true ∨ ∀ x, C' x → ∃ s : Kept K, x = s.w) ∧ Lasts C' ∧ C' w ∧ wpAnyT P md l.toArray Q fuel C' L a w := by
  obtain ⟨K', hsub, hl, hk, hn⟩ := h
  exact ⟨_, .inr fun x hx => kept (hsub _ (Kl.out hx)), lasts_kl hl, kept hk, ih K' a w hl hk hn⟩
theorem goB_kl {l : List Oper} {i fuel : Nat} {L : Array Bool} {K : World → Prop} {N : Act → World → Prop} {p : Plan} {a : Act} {w : World} (hb : barrier md l.toArray i = true)
    (ih : ∀ K a w, Lasts K → K w → wpPlan P l N p K a w → wpAnyT P md l.toArray Q fuel (fun w2 => ∃ s : Kept K, w2 = s.w) L a w) (h : goB (wpPlan P l N p) .normal a w) :
    ∃ C', (barrier md l.toArray i = true ∨ ∀ x, C' x → ∃ s : Kept K, x = s.w) ∧ Lasts C' ∧ C' w ∧ wpAnyT P md l.toArray Q fuel C' L a w := by
  obtain ⟨K', hl, hk, hn⟩ := h
  exact ⟨_, .inl hb, lasts_kl hl, kept hk, ih K' a w hl hk hn⟩
theorem ready_lt {L : Array Bool} {i : Nat} {l : List Oper} (h : i ∈ Region.ready md l.toArray L) : i < l.length := by
  obtain ⟨_, o, ho, _⟩ := mem_ready.1 h
  have := (Array.getElem?_eq_some_iff.1 ho).1
  simpa using this
theorem wpAnyT_plan {l : List Oper} (hs : Region.noSelect l.toArray = true) (hQ : ∀ c a d v w, Q (.panic c) (Act.put a d v) w → Q (.panic c) a w) :
    ∀ (p : Plan) (L : Array Bool) (k : Nat) (K : World → Prop) (a : Act) (w : World), Closed md l.toArray L → planB md l.toArray p L = true → Lasts K → K w →
      wpPlan P l (Q .normal) p K a w → wpAnyT P md l.toArray Q (p.len + k) (fun w2 => ∃ s : Kept K, w2 = s.w) L a w
  | .stop q, L, k, K, a, w, hcl, hB, hl, hK, h => by
    simp only [planB] at hB
    split at hB
    · cases hB
    · rename_i L1 hq
      rw [Plan.len]
      exact wpAnyT_quiet (lasts_kl hl) hs hQ q L L1 a hcl hq (fun a' hc1 ha' => wpAnyT_done (by simpa using hB) (fun w' hw' hC => ha' w' hw' (Kl.out hC)) _) h
  | .fl q i p, L, k, K, a, w, hcl, hB, hl, hK, h => by
    simp only [planB] at hB
    split at hB
    · cases hB
    · rename_i L1 hq
      simp only [Bool.and_eq_true] at hB
      obtain ⟨⟨h1, h2⟩, h3⟩ := hB
      rw [Plan.len, show q.length + (p.len + 1) + k = q.length + ((p.len + k) + 1) by omega]
      refine wpAnyT_quiet (lasts_kl hl) hs hQ q L L1 a hcl hq (fun a' hc1 ha' => ?_) h
      have hm : i ∈ Region.ready md l.toArray L1 := by simpa using h1
      have hi := ready_lt hm
      have ho : l[i]? = some l[i] := List.getElem?_eq_getElem hi
      have ho' : l.toArray[i]? = some l[i] := by simp [hi]
      unfold opAt at ha'
      rw [ho] at ha'
      obtain ⟨v, hy, hKK⟩ := ha'
      exact wpAnyT_first ho' (Region.noSelect_spec hs) (fun c a w => hQ c a _ v w) _ _ L1 a' w (lasts_kl hl) hc1 (Region.free_spec ho' h2) hm hy (wpAnyT_plan hs hQ p _ k K _ w (hc1.set hm) h3 hl hK hKK)
  | .one q i p, L, k, K, a, w, hcl, hB, hl, hK, h => by
    simp only [planB] at hB
    split at hB
    · cases hB
    · rename_i L1 hq
      simp only [Bool.and_eq_true] at hB
      obtain ⟨h1, h3⟩ := hB
      rw [Plan.len, show q.length + (p.len + 1) + k = q.length + ((p.len + k) + 1) by omega]
      refine wpAnyT_quiet (lasts_kl hl) hs hQ q L L1 a hcl hq (fun a' hc1 ha' => ?_) h
      have hr : Region.ready md l.toArray L1 = [i] := by simpa using h1
      refine wpAnyT_all hr (by simp) (fun w' hw' hC j hj => ?_)
      have hji : j = i := by simpa using hj
      subst hji
      refine wpOp_of_go (ready_lt (hr ▸ hj)) (fun a2 w2 h2 => ?_) (ha' w' hw' (Kl.out hC))
      exact goQ_kl (fun K a w hl hK hp => wpAnyT_plan hs hQ p _ k K a w (hc1.set (hr ▸ hj)) h3 hl hK hp) h2
  | .bar q i p, L, k, K, a, w, hcl, hB, hl, hK, h => by
    simp only [planB] at hB
    split at hB
    · cases hB
    · rename_i L1 hq
      simp only [Bool.and_eq_true] at hB
      obtain ⟨⟨h1, hbar⟩, h3⟩ := hB
      rw [Plan.len, show q.length + (p.len + 1) + k = q.length + ((p.len + k) + 1) by omega]
      refine wpAnyT_quiet (lasts_kl hl) hs hQ q L L1 a hcl hq (fun a' hc1 ha' => ?_) h
      have hr : Region.ready md l.toArray L1 = [i] := by simpa using h1
      refine wpAnyT_all hr (by simp) (fun w' hw' hC j hj => ?_)
      have hji : j = i := by simpa using hj
      subst hji
      refine wpOp_of_bar (ready_lt (hr ▸ hj)) (fun a2 w2 h2 => ?_) (ha' w' hw' (Kl.out hC))
      exact goB_kl hbar (fun K a w hl hK hp => wpAnyT_plan hs hQ p _ k K a w (hc1.set (hr ▸ hj)) h3 hl hK hp) h2
  | .two q i p j r, L, k, K, a, w, hcl, hB, hl, hK, h => by
    simp only [planB] at hB
    split at hB
    · cases hB
    · rename_i L1 hq
      simp only [Bool.and_eq_true] at hB
      obtain ⟨⟨h1, h3⟩, h4⟩ := hB
      have m1 := Nat.le_max_left p.len r.len
      have m2 := Nat.le_max_right p.len r.len
      rw [Plan.len]
      generalize max p.len r.len = m at *
      rw [show q.length + (m + 1) + k = q.length + ((m + k) + 1) by omega]
      refine wpAnyT_quiet (lasts_kl hl) hs hQ q L L1 a hcl hq (fun a' hc1 ha' => ?_) h
      have hr : Region.ready md l.toArray L1 = [i, j] := by simpa using h1
      refine wpAnyT_all hr (by simp) (fun w' hw' hC x hx => ?_)
      obtain ⟨g1, g2⟩ := ha' w' hw' (Kl.out hC)
      have hx' := hr ▸ hx
      have hlt := ready_lt hx'
      simp only [List.mem_cons, List.not_mem_nil, or_false] at hx
      rcases hx with rfl | rfl
      · refine wpOp_of_go hlt (fun a2 w2 h2 => ?_) g1
        rw [show m + k = p.len + (m - p.len + k) by omega]
        exact goQ_kl (fun K a w hl hK hp => wpAnyT_plan hs hQ p _ (m - p.len + k) K a w (hc1.set hx') h3 hl hK hp) h2
      · refine wpOp_of_go hlt (fun a2 w2 h2 => ?_) g2
        rw [show m + k = r.len + (m - r.len + k) by omega]
        exact goQ_kl (fun K a w hl hK hp => wpAnyT_plan hs hQ r _ (m - r.len + k) K a w (hc1.set hx') h4 hl hK hp) h2
  | .three q i p j r n s, L, k, K, a, w, hcl, hB, hl, hK, h => by
    simp only [planB] at hB
    split at hB
    · cases hB
    · rename_i L1 hq
      simp only [Bool.and_eq_true] at hB
      obtain ⟨⟨⟨h1, h3⟩, h4⟩, h5⟩ := hB
      have m1 := Nat.le_max_left p.len (max r.len s.len)
      have m0 := Nat.le_max_right p.len (max r.len s.len)
      have m2 := Nat.le_trans (Nat.le_max_left r.len s.len) m0
      have m3 := Nat.le_trans (Nat.le_max_right r.len s.len) m0
      rw [Plan.len]
      generalize max p.len (max r.len s.len) = m at *
      rw [show q.length + (m + 1) + k = q.length + ((m + k) + 1) by omega]
      refine wpAnyT_quiet (lasts_kl hl) hs hQ q L L1 a hcl hq (fun a' hc1 ha' => ?_) h
      have hr : Region.ready md l.toArray L1 = [i, j, n] := by simpa using h1
      refine wpAnyT_all hr (by simp) (fun w' hw' hC x hx => ?_)
      obtain ⟨g1, g2, g3⟩ := ha' w' hw' (Kl.out hC)
      have hx' := hr ▸ hx
      have hlt := ready_lt hx'
      simp only [List.mem_cons, List.not_mem_nil, or_false] at hx
      rcases hx with rfl | rfl | rfl
      · refine wpOp_of_go hlt (fun a2 w2 h2 => ?_) g1
        rw [show m + k = p.len + (m - p.len + k) by omega]
        exact goQ_kl (fun K a w hl hK hp => wpAnyT_plan hs hQ p _ (m - p.len + k) K a w (hc1.set hx') h3 hl hK hp) h2
      · refine wpOp_of_go hlt (fun a2 w2 h2 => ?_) g2
        rw [show m + k = r.len + (m - r.len + k) by omega]
        exact goQ_kl (fun K a w hl hK hp => wpAnyT_plan hs hQ r _ (m - r.len + k) K a w (hc1.set hx') h4 hl hK hp) h2
      · refine wpOp_of_go hlt (fun a2 w2 h2 => ?_) g3
        rw [show m + k = s.len + (m - s.len + k) by omega]
        exact goQ_kl (fun K a w hl hK hp => wpAnyT_plan hs hQ s _ (m - s.len + k) K a w (hc1.set hx') h5 hl hK hp) h2
end

/-- The region by a plan. -/
theorem region_plan {P : Program} {id : Nat} {Q : Exit → Act → World → Prop} {a : Act} {w : World} {l : List Oper} (K : World → Prop) (p : Plan) (hm : P.follows .mixedOrders = true)
    (hs : Region.noSelect l.toArray = true) (hB : planB .any l.toArray p (Array.replicate l.toArray.size false) = true) (hlen : p.len ≤ l.toArray.size)
    (hl : Lasts K) (hK : K w) (h : ∀ w', Below w.heap.size w w' → w'.heap.size = w.heap.size → K w' → wpPlan P l (Q .normal) p K a w') : (Code.region id l.toArray true).wp P Q a w := by
  have hmono : ∀ e a w, calmQ Q e a w → Q e a w := fun e a w h => by cases e <;> first | exact h | exact h.elim
  refine Code.wp_mono hmono (wp_region_any hm ?_)
  have hK' : K { w with drawn := w.drawn + 1 } := hl _ _ hK (Below.refl _ w).drew
  have := wpAnyT_plan (P := P) (md := .any) (Q := calmQ Q) hs (fun _ _ _ _ _ h => h.elim) p (Array.replicate l.toArray.size false) (l.toArray.size - p.len) K a { w with drawn := w.drawn + 1 } closed_start hB hl hK'
    (h _ (Below.refl _ w).drew rfl hK')
  rw [show p.len + (l.toArray.size - p.len) = l.toArray.size by omega] at this
  exact wpAny_of_T _ _ _ _ _ (kept hK') this

/-! ### The steps -/
section
variable {P : Program} {l : List Oper} {N : Act → World → Prop} {K : World → Prop} {a : Act} {w : World}
theorem plan_stop {q : List Nat} (h : wpQuiet P l.toArray (fun w2 => ∃ s : Kept K, w2 = s.w) (fun a' => ∀ w', Below w.heap.size w w' → K w' → N a' w') (pickOps l q) a) : wpPlan P l N (.stop q) K a w := h
theorem plan_fl {q : List Nat} {i : Nat} {p : Plan} (h : wpQuiet P l.toArray (fun w2 => ∃ s : Kept K, w2 = s.w) (fun a' => match opAt l i with
      | [] => False
      | o :: _ => Floats P l.toArray (fun w2 => ∃ s : Kept K, w2 = s.w) o a' (fun a'' => wpPlan P l N p K a'' w)) (pickOps l q) a) : wpPlan P l N (.fl q i p) K a w := h
theorem plan_one {q : List Nat} {i : Nat} {p : Plan} (h : wpQuiet P l.toArray (fun w2 => ∃ s : Kept K, w2 = s.w) (fun a' => ∀ w', Below w.heap.size w w' → K w' → wpList P l.toArray (goQ K (wpPlan P l N p)) (opAt l i) a' w') (pickOps l q) a) : wpPlan P l N (.one q i p) K a w := h
theorem plan_bar {q : List Nat} {i : Nat} {p : Plan} (h : wpQuiet P l.toArray (fun w2 => ∃ s : Kept K, w2 = s.w) (fun a' => ∀ w', Below w.heap.size w w' → K w' → wpList P l.toArray (goB (wpPlan P l N p)) (opAt l i) a' w') (pickOps l q) a) : wpPlan P l N (.bar q i p) K a w := h
end
section
variable {o : Oper} {a : Act} {K : Act → Prop} {w0 : World}
theorem plan_load_cells {P : Program} (ty : TypeId) (x : Operand) (ho : o.op = .load ty x) {b k : Nat} {cs : List Value} (hx : a.eval x = .pointer (some ⟨b, k, none⟩)) (h : Cells w0 b k cs) (d : TypeDesc) (hu : P.underlying ty = some d)
    (hd : (match d with | .struct _ | .array _ _ => true | _ => false) = true) (hi : (P.info? ty).map (·.size) = some cs.length) (hk : K (a.put o.dst (.agg cs.toArray))) : o.quiet P a (fun w' => ∃ s : Kept (fun x => Below w0.heap.size w0 x), w' = s.w) K :=
  quiet_load_cells ty x ho hx (fun w hw => h.later (Kl.out hw)) d hu hd hi hk
theorem plan_load_elem (x : Operand) (ho : o.op = .load 34 x) {b k : Nat} {l : List UInt8} (hx : a.eval x = .pointer (some ⟨b, k, none⟩)) (h : Cells w0 b k (bvs l)) (hl : l.length = 32) (hk : K (a.put o.dst (hv l))) :
    o.quiet Tryz.prog a (fun w' => ∃ s : Kept (fun x => Below w0.heap.size w0 x), w' = s.w) K :=
  plan_load_cells 34 x ho hx h _ Tryz.underlying34 rfl (by rw [bvs_length, hl]; exact hashInfo) hk
end
theorem wpl_load_elem {ops : Array Oper} {rest : List Oper} {o : Oper} {a : Act} {w : World} {Q : Exit → Act → World → Prop} (hw : Region.wanted o (yielded ops a.tmps) = true) (x : Operand) (ho : o.op = .load 34 x) {b k : Nat} {l : List UInt8}
    (hx : a.eval x = .pointer (some ⟨b, k, none⟩)) (h : Cells w b k (bvs l)) (hl : l.length = 32) (hk : wpList Tryz.prog ops Q rest (a.put o.dst (hv l)) w) : wpList Tryz.prog ops Q (o :: rest) a w :=
  wpl_load_cells hw 34 x ho hx h _ Tryz.underlying34 rfl (by rw [bvs_length, hl]; exact hashInfo) hk
theorem since_load_elem {o : Oper} {a : Act} {K : Act → Prop} {w0 : World} (x : Operand) (ho : o.op = .load 34 x) {b k : Nat} {l : List UInt8} (hx : a.eval x = .pointer (some ⟨b, k, none⟩)) (h : Cells w0 b k (bvs l)) (hl : l.length = 32) (hk : K (a.put o.dst (hv l))) :
    o.quiet Tryz.prog a (fun w' => ∃ s : Since w0, w' = s.w) K :=
  quiet_load_cells 34 x ho hx h.since _ Tryz.underlying34 rfl (by rw [bvs_length, hl]; exact hashInfo) hk
end Go.Proofs.YtbbfnpfkbbpjgaaGreat

/- Slice literals of elements of more than one cell; slices of hashes. -/
namespace Go.Proofs.YtbbfnpfkbbpjgaaGreat
open Go.RowKit Go.Lib
set_option linter.unusedVariables false

theorem fill_list (off : Nat) : ∀ (l : List Value) (k : Nat) (cs : Array Value), off + k + l.length ≤ cs.size →
    (l.zipIdx k).foldl (fun cs x => cs.setIfInBounds (off + x.2) x.1) cs = (cs.toList.take (off + k) ++ l ++ cs.toList.drop (off + k + l.length)).toArray
  | [], k, cs, h => by simp
  | v :: l, k, cs, h => by
    simp only [List.zipIdx_cons, List.foldl_cons, List.length_cons] at h ⊢
    rw [fill_list off l (k + 1) _ (by simp; omega)]
    have hlt : off + k < cs.toList.length := by simp; omega
    apply Array.ext'
    simp only [Array.toList_setIfInBounds]
    rw [show off + (k + 1) = off + k + 1 by omega, List.take_succ_eq_append_getElem (by simpa using hlt), List.take_set_of_le (by omega), List.getElem_set_self, List.drop_set_of_lt (by omega), show off + k + 1 + l.length = off + k + (l.length + 1) by omega]
    simp
theorem fill_one (off : Nat) (v : Value) (cs : Array Value) (h : off + v.cells.size ≤ cs.size) :
    v.cells.zipIdx.foldl (fun cs (x : Value × Nat) => cs.setIfInBounds (off + x.2) x.1) cs = (cs.toList.take off ++ v.cells.toList ++ cs.toList.drop (off + v.cells.size)).toArray := by
  rw [← Array.foldl_toList, Array.toList_zipIdx]
  have := fill_list off v.cells.toList 0 cs (by simpa using h)
  simpa using this
theorem fill_dense (sz : Nat) : ∀ (vs : List Value) (k : Nat) (cs : Array Value), (∀ v ∈ vs, v.cells.size = sz) → (k + vs.length) * sz ≤ cs.size →
    Instr.fill (fun i => some (i * sz, sz)) cs ((vs.zipIdx k).map fun x => (x.2, x.1)) = some (cs.toList.take (k * sz) ++ vs.flatMap (fun v => v.cells.toList) ++ cs.toList.drop ((k + vs.length) * sz)).toArray
  | [], k, cs, _, h => by simp [Instr.fill]
  | v :: vs, k, cs, hv, h => by
    have h0 := hv v (by simp)
    have hle : k * sz + sz ≤ cs.size := by
      refine Nat.le_trans ?_ h
      rw [List.length_cons, show k + (vs.length + 1) = (k + 1) + vs.length by omega, Nat.add_mul (k + 1), Nat.add_mul]
      omega
    simp only [List.zipIdx_cons, List.map_cons, Instr.fill]
    rw [if_neg (by simp only [h0, ne_eq, not_true_eq_false, decide_false, Bool.false_or, decide_eq_true_eq]; omega)]
    have e := fill_one (k * sz) v cs (by rw [h0]; exact hle)
    rw [show (v.cells.zipIdx.foldl (fun cs x => match x with | (c, j) => cs.setIfInBounds (k * sz + j) c) cs) = _ from e]
    have hcs : (cs.toList.take (k * sz) ++ v.cells.toList ++ cs.toList.drop (k * sz + v.cells.size)).toArray.size = cs.size := by
      simp [h0]; omega
    rw [fill_dense sz vs (k + 1) _ (fun x hx => hv x (by simp [hx])) (by rw [hcs, show k + 1 + vs.length = k + (v :: vs).length by simp; omega]; exact h)]
    congr 1
    have ek : (k + 1) * sz = k * sz + sz := by rw [Nat.add_mul]; omega
    have hlk : (cs.toList.take (k * sz)).length = k * sz := by simp; omega
    have hl2 : (cs.toList.take (k * sz) ++ v.cells.toList).length = k * sz + sz := by rw [List.length_append, hlk]; simp [h0]
    apply Array.ext'
    simp only [List.flatMap_cons]
    have e2 : (k + 1 + vs.length) * sz = (k * sz + sz) + vs.length * sz := by rw [Nat.add_mul, Nat.add_mul]; omega
    have e3 : (k + (v :: vs).length) * sz = (k * sz + sz) + vs.length * sz := by rw [List.length_cons, Nat.add_mul, Nat.add_mul]; omega
    rw [ek, e2, e3, h0]
    generalize vs.length * sz = m at *
    generalize vs.flatMap (fun v => v.cells.toList) = F at *
    have ht : (cs.toList.take (k * sz) ++ v.cells.toList ++ cs.toList.drop (k * sz + sz)).take (k * sz + sz) = cs.toList.take (k * sz) ++ v.cells.toList := by
      rw [← hl2, List.take_left]
    have hd : (cs.toList.take (k * sz) ++ v.cells.toList ++ cs.toList.drop (k * sz + sz)).drop (k * sz + sz + m) = cs.toList.drop (k * sz + sz + m) := by
      rw [List.drop_append, hl2, List.drop_of_length_le (by omega), List.nil_append, List.drop_drop]
      congr 1
      omega
    rw [ht, hd]
    simp [List.append_assoc]

/-- A slice literal of n elements of sz cells each, every place written. -/
theorem run_dense {P : Program} (w : World) (t e : TypeId) (sz : Nat) (vs : List Value) (parts : Array (Nat × Value)) (hp : parts.toList = vs.zipIdx.map fun x => (x.2, x.1)) (ie : TypeInfo) (hu : P.underlying t = some (.slice e)) (hie : P.info? e = some ie) (hsz : ie.size = sz)
    (z : Value) (hz : ie.zero = some z) (hv : ∀ v ∈ vs, v.cells.size = sz) (h0 : 0 < vs.length * sz) (h1 : vs.length * sz ≤ 16777216) :
    (Instr.buildSlice t vs.length parts).run P w = .ok (.slice (some ⟨w.heap.size, 0, none⟩) vs.length vs.length) (w.alloc (.cells (vs.flatMap (fun v => v.cells.toList)).toArray e)) := by
  subst hsz
  refine run_buildSlice w t e vs.length parts _ ie z hu hie hz (by omega) (by omega) ?_
  rw [hp, fill_dense ie.size vs 0 _ hv (by simp)]
  simp
section
variable {P : Program} {ops : Array Oper} {rest : List Oper} {o : Oper} {a : Act} {w : World} {Q : Exit → Act → World → Prop} {K : Act → Prop}
end

end Go.Proofs.YtbbfnpfkbbpjgaaGreat

/- Package tree: leaf, pair, root; the reference's Leaf, Pair, Over. -/
namespace Go.Proofs.YtbbfnpfkbbpjgaaGreat
open Go.RowKit Go.Lib
set_option linter.unusedVariables false

end Go.Proofs.YtbbfnpfkbbpjgaaGreat

/- Package tree: up. -/
namespace Go.Proofs.YtbbfnpfkbbpjgaaGreat
open Go.RowKit Go.Lib
set_option linter.unusedVariables false
set_option linter.unusedSimpArgs false

/-- Hashes, as cells. -/
def hcs (l : List H32) : List Value := (l.map bvs).flatten
theorem below_grown {w w' : World} (h : Below w.heap.size w w') : w.grownBy w' none := ⟨h.os, h.tape, h.output, h.size, fun k hk _ => h.block k hk⟩
theorem owns_later {w w' : World} {B e sz n : Nat} {v : Value} {xs : List Value} (h : w.ownsRow B e sz v n xs) (hb : Below w.heap.size w w') : w'.ownsRow B e sz v n xs := h.kept (below_grown hb) (by cases hv : v.ownBlock <;> simp)
end Go.Proofs.YtbbfnpfkbbpjgaaGreat

/- A store of a struct or an array somewhere in a block; what a call may have touched. -/
namespace Go.Proofs.YtbbfnpfkbbpjgaaGreat
open Go.RowKit Go.Lib
set_option linter.unusedVariables false
set_option linter.unusedSimpArgs false

theorem run_storeVar_at {P : Program} (w : World) (g k : Nat) (t ty : TypeId) (cs vs : List Value) (hg : Arr w g t cs) (hi : (P.info? ty).map (·.size) = some vs.length) (hl : k + vs.length ≤ cs.length) (h1 : ∀ v ∈ vs, v.oneCell' = true) :
    (storeVar ty ⟨g, k, none⟩ (.agg vs.toArray)).run P w = .ok () (w.setRow g (cs.take k ++ vs ++ cs.drop (k + vs.length)).toArray) := by
  have := run_storeCells_at (P := P) g k t vs 0 cs.toArray w hg (by simpa using hl) h1
  cases hq : P.info? ty with
  | none => simp [hq] at hi
  | some i =>
    have hs : vs.length = i.size := by simp [hq] at hi; omega
    simp only [Nat.add_zero] at this
    simp [storeVar, sizeOf, typeInfo, hq, Value.cells, hs, this]
section
variable {P : Program} {ops : Array Oper} {rest : List Oper} {o : Oper} {a : Act} {w : World} {Q : Exit → Act → World → Prop}
theorem wp_store_at {K : Act → World → Prop} (ty : TypeId) (x y : Operand) (ho : o.op = .store ty x y) {g k : Nat} {t : TypeId} {cs vs : List Value} (hx : a.eval x = .pointer (some ⟨g, k, none⟩)) (hy : a.eval y = .agg vs.toArray)
    (hg : Arr w g t cs) (hi : (P.info? ty).map (·.size) = some vs.length) (hl : k + vs.length ≤ cs.length) (h1 : ∀ v ∈ vs, v.oneCell' = true) (h : K (a.put o.dst undef) (w.setRow g (cs.take k ++ vs ++ cs.drop (k + vs.length)).toArray)) : o.wp P a w K Q := by
  unfold Oper.wp execOp
  simp only [ho, hx, hy, Instr.storeAt, Instr.sureAddr, Sem.run_bind, Sem.run_pure, Result.andThen_ok, run_storeVar_at w g k t ty cs vs hg hi hl h1]
  exact h
theorem wpl_store_at (hgd : o.guard = none) (ty : TypeId) (x y : Operand) (ho : o.op = .store ty x y) {g k : Nat} {t : TypeId} {cs vs : List Value} (hx : a.eval x = .pointer (some ⟨g, k, none⟩)) (hy : a.eval y = .agg vs.toArray)
    (hg : Arr w g t cs) (hi : (P.info? ty).map (·.size) = some vs.length) (hl : k + vs.length ≤ cs.length) (h1 : ∀ v ∈ vs, v.oneCell' = true)
    (h : wpList P ops Q rest (a.put o.dst undef) (w.setRow g (cs.take k ++ vs ++ cs.drop (k + vs.length)).toArray)) : wpList P ops Q (o :: rest) a w :=
  wpList_plain hgd fun _ hK => wp_store_at ty x y ho hx hy hg hi hl h1 (hK _ _ h)
end
/-- Of what stood in w only blocks of S may have been turned. -/
structure Touch (S : Nat → Prop) (w w' : World) : Prop where
  os : w'.os = w.os
  tape : w'.tape = w.tape
  output : w'.output = w.output
  size : w.heap.size ≤ w'.heap.size
  block : ∀ k, k < w.heap.size → ¬ S k → w'.heap[k]? = w.heap[k]?
theorem Touch.refl (S : Nat → Prop) (w : World) : Touch S w w := ⟨rfl, rfl, rfl, Nat.le_refl _, fun _ _ _ => rfl⟩
theorem touch_below {S : Nat → Prop} {w w' : World} (h : Below w.heap.size w w') : Touch S w w' := ⟨h.os, h.tape, h.output, h.size, fun k hk _ => h.block k hk⟩
theorem Touch.trans {S S' : Nat → Prop} {a b c : World} (h : Touch S a b) (k : Touch S' b c) (hs : ∀ x, S' x → S x ∨ a.heap.size ≤ x) : Touch S a c :=
  ⟨k.os.trans h.os, k.tape.trans h.tape, k.output.trans h.output, Nat.le_trans h.size k.size, fun x hx hn => (k.block x (Nat.lt_of_lt_of_le hx h.size) (fun h' => (hs x h').elim hn (fun h2 => by omega))).trans (h.block x hx hn)⟩
theorem Touch.below {S : Nat → Prop} {B : Nat} {w w' : World} (h : Touch S w w') (hB : B ≤ w.heap.size) (hS : ∀ x, S x → B ≤ x) : Below B w w' := ⟨h.os, h.tape, h.output, h.size, fun k hk => h.block k (by omega) (fun h' => by have := hS k h'; omega)⟩
theorem Arr.touch {S : Nat → Prop} {w w' : World} {b : Nat} {t : TypeId} {cs : List Value} (h : Arr w b t cs) (ht : Touch S w w') (hS : ¬ S b) : Arr w' b t cs := by
  unfold Arr
  rw [ht.block b (Arr.lt h) hS]
  exact h
theorem HashAt.touch {S : Nat → Prop} {w w' : World} {b : Nat} {l : List UInt8} (h : HashAt w b l) (ht : Touch S w w') (hS : ¬ S b) : HashAt w' b l := ⟨h.1, Arr.touch h.2 ht hS⟩
theorem touch_row (w : World) (g : Nat) (a : Array Value) : Touch (fun b => b = g) w (w.setRow g a) := ⟨rfl, rfl, rfl, by simp, fun k _ hn => setRow_other w g k a hn⟩
theorem wpl_put_at {P : Program} {ops : Array Oper} {rest : List Oper} {o : Oper} {a : Act} {w : World} {Q : Exit → Act → World → Prop} (hgd : o.guard = none) (ty : TypeId) (x y : Operand) (ho : o.op = .store ty x y) {g k : Nat} {t : TypeId} {cs vs : List Value} (hx : a.eval x = .pointer (some ⟨g, k, none⟩)) (hy : a.eval y = .agg vs.toArray)
    (hg : Arr w g t cs) (hi : (P.info? ty).map (·.size) = some vs.length) (hl : k + vs.length ≤ cs.length) (h1 : ∀ v ∈ vs, v.oneCell' = true) (new : List Value) (hnew : cs.take k ++ vs ++ cs.drop (k + vs.length) = new)
    (h : ∀ w2, Arr w2 g t new → Touch (fun b => b = g) w w2 → wpList P ops Q rest (a.put o.dst undef) w2) : wpList P ops Q (o :: rest) a w := by
  subst hnew
  exact wpl_store_at hgd ty x y ho hx hy hg hi hl h1 (h _ (Arr.row hg _) (touch_row w g _))
theorem Touch.add {S T : Nat → Prop} {a b c : World} (h : Touch S a b) (k : Touch T b c) (hs : ∀ x, T x → S x) : Touch S a c := h.trans k (fun x hx => .inl (hs x hx))
theorem Touch.behind {S : Nat → Prop} {a b c : World} (h : Touch S a b) (k : Below b.heap.size b c) : Touch S a c := h.add (touch_below (S := fun _ => False) k) (fun _ h => h.elim)
theorem kept_cell {w : World} {a : Addr} {v : Value} (h : w.cell? a = some v) (s : Kept (fun x => Below w.heap.size w x)) : s.w.cell? a = some v := (s.ok.cell (World.block_lt_of_cell? w a h)).trans h
theorem owns_touch {S : Nat → Prop} {w w' : World} {B e sz n : Nat} {v : Value} {xs : List Value} (h : w.ownsRow B e sz v n xs) (ht : Touch S w w') (hS : ∀ b, v.ownBlock = some b → ¬ S b) : w'.ownsRow B e sz v n xs := by
  refine ⟨h.1, ?_⟩
  rcases h.2 with hn | ⟨g, cap, cur, rfl, hb, hg, rest⟩
  · exact .inl hn
  · refine .inr ⟨g, cap, cur, rfl, hb, ?_, rest⟩
    rw [ht.block g (Array.getElem?_eq_some_iff.1 hg).1 (hS g rfl)]
    exact hg
theorem owns_base {w : World} {B B' e sz n : Nat} {v : Value} {xs : List Value} (h : w.ownsRow B e sz v n xs) (hB : B' ≤ B) : w.ownsRow B' e sz v n xs := by
  refine ⟨h.1, ?_⟩
  rcases h.2 with hn | ⟨g, cap, cur, rfl, hb, rest⟩
  · exact .inl hn
  · exact .inr ⟨g, cap, cur, rfl, Nat.le_trans hB hb, rest⟩
/-- A cell of one's own. -/
def One (w : World) (b : Nat) (t : TypeId) (v : Value) : Prop := Arr w b t [v]
section
variable {w w' : World} {b : Nat} {t : TypeId} {v : Value}
theorem One.cell (h : One w b t v) : w.cell? ⟨b, 0, none⟩ = some v := by have := Arr.cell h (i := 0) (by simp); simpa using this
theorem One.thaw (h : One w b t v) : w.frozen? ⟨b, 0, none⟩ = false := Arr.thaw h 0
theorem One.lt (h : One w b t v) : b < w.heap.size := Arr.lt h
theorem One.later (h : One w b t v) (hb : Below w.heap.size w w') : One w' b t v := Arr.later h hb
theorem One.touch {S : Nat → Prop} (h : One w b t v) (ht : Touch S w w') (hS : ¬ S b) : One w' b t v := Arr.touch h ht hS
theorem One.set (h : One w b t v) (u : Value) : One (w.setCell ⟨b, 0, none⟩ u) b t u := Arr.set h 0 u
theorem One.new (w : World) (t : TypeId) (v : Value) : One (w.alloc (.cells #[v] t)) w.heap.size t v := Arr.new w [v] t
end

/-! ### append to a row of one's own, elements of any size -/
structure ElemOf (P : Program) (t e : TypeId) (sz by' : Nat) : Prop where
  ht : P.underlying t = some (.slice e)
  pos : 0 < sz
  info : ∃ i z, P.info? e = some i ∧ i.zero = some z ∧ i.size = sz ∧ i.bytes = by' ∧ z.cells.size = sz
theorem owns_shape {w : World} {B e sz n : Nat} {v : Value} {xs : List Value} (h : w.ownsRow B e sz v n xs) : ∃ a c, v = .slice a n c := by
  rcases h.2 with ⟨rfl, rfl⟩ | ⟨g, cap, cur, rfl, _⟩
  · exact ⟨_, _, rfl⟩
  · exact ⟨_, _, rfl⟩
theorem touch_grown {w w' : World} {v : Value} (h : w.grownBy w' v.ownBlock) : Touch (fun b => v.ownBlock = some b) w w' := ⟨h.os, h.tape, h.output, h.size, fun k hk hn => h.block k hk (fun e => hn e.symm)⟩
theorem run_append_any {P : Program} (w : World) {t e sz by' : Nat} (E : ElemOf P t e sz by') (ty B : Nat) (v : Value) (n : Nat) (xs : List Value) (hown : w.ownsRow B e sz v n xs) (a : Addr) (m c : Nat) (news : List Value) (hl : news.length = m * sz)
    (hnews : ∀ j u, news[j]? = some u → w.cell? (a.add j) = some u) (h1 : ∀ u ∈ news, u.oneCell' = true) (h63 : n + m ≤ maxLen) (hbytes : (n + m) * by' ≤ 140737488355328) (hbase : B ≤ w.heap.size) :
    ∃ a' c' w', (Builtin.append_ #[t, t] ty #[v, .slice (some a) m c]).run P w = .ok (.slice a' (n + m) c') w' ∧ w'.ownsRow B e sz (.slice a' (n + m) c') (n + m) (xs ++ news) ∧ Touch (fun b => v.ownBlock = some b) w w' ∧
      ((Value.slice a' (n + m) c').ownBlock = v.ownBlock ∨ (Value.slice a' (n + m) c').ownBlock = some w.heap.size) := by
  obtain ⟨ht, pos, i, z, hi, hz, hs, hb, hzs⟩ := E
  obtain ⟨v', w', h2, h3, h4, _, h5⟩ := run_append_own_at (P := P) w B t ty e i z sz by' ht hi hz hs hb hzs pos v n xs hown a m c news hl hnews h1 h63 hbytes hbase
  obtain ⟨a', c', rfl⟩ := owns_shape h3
  exact ⟨a', c', w', h2, h3, touch_grown h4, h5⟩
theorem wpl_append_any {P : Program} {ops : Array Oper} {rest : List Oper} {o : Oper} {a : Act} {w : World} {Q : Exit → Act → World → Prop} (hw : Region.wanted o (yielded ops a.tmps) = true) (s x : Operand) {t e sz by' : Nat} (E : ElemOf P t e sz by')
    (ho : o.op = .call { callee := .builtin .append, args := #[s, x], argTypes := #[t, t] }) {B : Nat} {v : Value} {n : Nat} {xs : List Value} (hs : a.eval s = v) (hown : w.ownsRow B e sz v n xs) {ad : Addr} {m c : Nat} {news : List Value} (hx : a.eval x = .slice (some ad) m c) (hl : news.length = m * sz)
    (hnews : ∀ j u, news[j]? = some u → w.cell? (ad.add j) = some u) (h1 : ∀ u ∈ news, u.oneCell' = true) (h63 : n + m ≤ maxLen) (hbytes : (n + m) * by' ≤ 140737488355328) (hbase : B ≤ w.heap.size)
    (hk : ∀ a' c' w', w'.ownsRow B e sz (.slice a' (n + m) c') (n + m) (xs ++ news) → Touch (fun b => v.ownBlock = some b) w w' → ((Value.slice a' (n + m) c').ownBlock = v.ownBlock ∨ (Value.slice a' (n + m) c').ownBlock = some w.heap.size) →
      wpList P ops Q rest (a.put o.dst (.slice a' (n + m) c')) w') : wpList P ops Q (o :: rest) a w := by
  refine BigFrame.wpList_want hw fun _ hK => ?_
  obtain ⟨a', c', w', hr, h2, h3, h4⟩ := run_append_any (P := P) w E o.type B v n xs hown ad m c news hl hnews h1 h63 hbytes hbase
  unfold Oper.wp
  simp [execOp, ho, resolve, invoke, builtin, hs, hx, hr, Result.andThen]
  exact hK _ _ (hk a' c' w' h2 h3 h4)
end Go.Proofs.YtbbfnpfkbbpjgaaGreat

/- The reference's Secret, Mark, Bit (mintageref05). -/
namespace Go.Proofs.YtbbfnpfkbbpjgaaGreat
open Go.RowKit Go.Lib

end Go.Proofs.YtbbfnpfkbbpjgaaGreat

/- The reference's Bit, Public, Sign (mintageref05). -/
namespace Go.Proofs.YtbbfnpfkbbpjgaaGreat
open Go.RowKit Go.Lib

end Go.Proofs.YtbbfnpfkbbpjgaaGreat

/- The reference's Tells, Check (mintageref05). -/
namespace Go.Proofs.YtbbfnpfkbbpjgaaGreat
open Go.RowKit Go.Lib
set_option linter.unusedVariables false

end Go.Proofs.YtbbfnpfkbbpjgaaGreat
