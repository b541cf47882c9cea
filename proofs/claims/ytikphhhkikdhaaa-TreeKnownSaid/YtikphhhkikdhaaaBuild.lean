/- Slice literals of elements of more than one cell; slices of hashes. -/
import Derived.Test.YtikphhhkikdhaaaCells
import Derived.Great.BuildSlice
namespace Go.Proofs.Ytikphhhkikdhaaa
open Go.RowKit Go.Lib
set_option linter.unusedVariables false

theorem fill_list (off : Nat) : ∀ (l : List Value) (k : Nat) (cs : Array Value), off + k + l.length ≤ cs.size →
    (l.zipIdx k).foldl (fun cs x => cs.setIfInBounds (off + x.2) x.1) cs = (cs.toList.take (off + k) ++ l ++ cs.toList.drop (off + k + l.length)).toArray
  | [], k, cs, h => by simp
  | v :: l, k, cs, h => by
    simp only [List.zipIdx_cons, List.foldl_cons, List.length_cons] at h ⊢
    rw [fill_list off l (k + 1) _ (by simp; omega)]
    have hlt : off + k < cs.toList.length := by simp; omega
    apply Array.ext'
    simp only [Array.toList_setIfInBounds]
    rw [show off + (k + 1) = off + k + 1 by omega, List.take_succ_eq_append_getElem (by simpa using hlt), List.take_set_of_le (by omega), List.getElem_set_self, List.drop_set_of_lt (by omega), show off + k + 1 + l.length = off + k + (l.length + 1) by omega]
    simp
theorem fill_one (off : Nat) (v : Value) (cs : Array Value) (h : off + v.cells.size ≤ cs.size) :
    v.cells.zipIdx.foldl (fun cs (x : Value × Nat) => cs.setIfInBounds (off + x.2) x.1) cs = (cs.toList.take off ++ v.cells.toList ++ cs.toList.drop (off + v.cells.size)).toArray := by
  rw [← Array.foldl_toList, Array.toList_zipIdx]
  have := fill_list off v.cells.toList 0 cs (by simpa using h)
  simpa using this
theorem fill_dense (sz : Nat) : ∀ (vs : List Value) (k : Nat) (cs : Array Value), (∀ v ∈ vs, v.cells.size = sz) → (k + vs.length) * sz ≤ cs.size →
    Instr.fill (fun i => some (i * sz, sz)) cs ((vs.zipIdx k).map fun x => (x.2, x.1)) = some (cs.toList.take (k * sz) ++ vs.flatMap (fun v => v.cells.toList) ++ cs.toList.drop ((k + vs.length) * sz)).toArray
  | [], k, cs, _, h => by simp [Instr.fill]
  | v :: vs, k, cs, hv, h => by
    have h0 := hv v (by simp)
    have hle : k * sz + sz ≤ cs.size := by
      refine Nat.le_trans ?_ h
      rw [List.length_cons, show k + (vs.length + 1) = (k + 1) + vs.length by omega, Nat.add_mul (k + 1), Nat.add_mul]
      omega
    simp only [List.zipIdx_cons, List.map_cons, Instr.fill]
    rw [if_neg (by simp only [h0, ne_eq, not_true_eq_false, decide_false, Bool.false_or, decide_eq_true_eq]; omega)]
    have e := fill_one (k * sz) v cs (by rw [h0]; exact hle)
    rw [show (v.cells.zipIdx.foldl (fun cs x => match x with | (c, j) => cs.setIfInBounds (k * sz + j) c) cs) = _ from e]
    have hcs : (cs.toList.take (k * sz) ++ v.cells.toList ++ cs.toList.drop (k * sz + v.cells.size)).toArray.size = cs.size := by
      simp [h0]; omega
    rw [fill_dense sz vs (k + 1) _ (fun x hx => hv x (by simp [hx])) (by rw [hcs, show k + 1 + vs.length = k + (v :: vs).length by simp; omega]; exact h)]
    congr 1
    have ek : (k + 1) * sz = k * sz + sz := by rw [Nat.add_mul]; omega
    have hlk : (cs.toList.take (k * sz)).length = k * sz := by simp; omega
    have hl2 : (cs.toList.take (k * sz) ++ v.cells.toList).length = k * sz + sz := by rw [List.length_append, hlk]; simp [h0]
    apply Array.ext'
    simp only [List.flatMap_cons]
    have e2 : (k + 1 + vs.length) * sz = (k * sz + sz) + vs.length * sz := by rw [Nat.add_mul, Nat.add_mul]; omega
    have e3 : (k + (v :: vs).length) * sz = (k * sz + sz) + vs.length * sz := by rw [List.length_cons, Nat.add_mul, Nat.add_mul]; omega
    rw [ek, e2, e3, h0]
    generalize vs.length * sz = m at *
    generalize vs.flatMap (fun v => v.cells.toList) = F at *
    have ht : (cs.toList.take (k * sz) ++ v.cells.toList ++ cs.toList.drop (k * sz + sz)).take (k * sz + sz) = cs.toList.take (k * sz) ++ v.cells.toList := by
      rw [← hl2, List.take_left]
    have hd : (cs.toList.take (k * sz) ++ v.cells.toList ++ cs.toList.drop (k * sz + sz)).drop (k * sz + sz + m) = cs.toList.drop (k * sz + sz + m) := by
      rw [List.drop_append, hl2, List.drop_of_length_le (by omega), List.nil_append, List.drop_drop]
      congr 1
      omega
    rw [ht, hd]
    simp [List.append_assoc]

/-- A slice literal of n elements of sz cells each, every place written. -/
theorem run_dense {P : Program} (w : World) (t e : TypeId) (sz : Nat) (vs : List Value) (parts : Array (Nat × Value)) (hp : parts.toList = vs.zipIdx.map fun x => (x.2, x.1)) (ie : TypeInfo) (hu : P.underlying t = some (.slice e)) (hie : P.info? e = some ie) (hsz : ie.size = sz)
    (z : Value) (hz : ie.zero = some z) (hv : ∀ v ∈ vs, v.cells.size = sz) (h0 : 0 < vs.length * sz) (h1 : vs.length * sz ≤ 16777216) :
    (Instr.buildSlice t vs.length parts).run P w = .ok (.slice (some ⟨w.heap.size, 0, none⟩) vs.length vs.length) (w.alloc (.cells (vs.flatMap (fun v => v.cells.toList)).toArray e)) := by
  subst hsz
  refine run_buildSlice w t e vs.length parts _ ie z hu hie hz (by omega) (by omega) ?_
  rw [hp, fill_dense ie.size vs 0 _ hv (by simp)]
  simp
theorem sl_new (w : World) (e : TypeId) (sz : Nat) (els : List (List Value)) (hl : ∀ x ∈ els, x.length = sz) (hm : els.length ≤ maxLen) :
    Sl (w.alloc (.cells els.flatten.toArray e)) (.slice (some ⟨w.heap.size, 0, none⟩) els.length els.length) sz els := by
  refine ⟨_, _, rfl, Nat.le_refl _, hm, hl, fun h => (by cases h), fun hne => ⟨w.heap.size, 0, rfl, by simp, fun i x hx j v hv => ?_⟩⟩
  have := Cells.arr (Arr.new w els.flatten e)
  rw [Nat.zero_add]
  have := this (i * sz + j) v (flatten_get sz els hl i x hx j v hv)
  simpa using this

theorem agg_flat : ∀ els : List (List Value), els.flatMap (fun x => (Value.agg x.toArray).cells.toList) = els.flatten
  | [] => rfl
  | x :: r => by rw [List.flatMap_cons, List.flatten_cons, agg_flat r]; rfl
section
variable {P : Program} {ops : Array Oper} {rest : List Oper} {o : Oper} {a : Act} {w : World} {Q : Exit → Act → World → Prop} {K : Act → Prop}
theorem wpl_dense (hw : Region.wanted o (yielded ops a.tmps) = true) (t e : TypeId) (sz n : Nat) (parts : Array (Nat × Operand)) (ho : o.op = .buildSlice t n parts) (els : List (List Value)) (hn : els.length = n)
    (hp : (parts.map fun (i, x) => (i, a.eval x)).toList = (els.map fun x => Value.agg x.toArray).zipIdx.map fun x => (x.2, x.1)) (ie : TypeInfo) (hu : P.underlying t = some (.slice e)) (hie : P.info? e = some ie) (hsz : ie.size = sz) (z : Value) (hz : ie.zero = some z)
    (hl : ∀ x ∈ els, x.length = sz) (h0 : 0 < n * sz) (h1 : n * sz ≤ 16777216)
    (hk : ∀ w2, Sl w2 (.slice (some ⟨w.heap.size, 0, none⟩) n n) sz els → Below w.heap.size w w2 → w.heap.size < w2.heap.size → wpList P ops Q rest (a.put o.dst (.slice (some ⟨w.heap.size, 0, none⟩) n n)) w2) : wpList P ops Q (o :: rest) a w := by
  subst hn
  refine BigFrame.wpList_want hw fun _ hK => ?_
  have hr := run_dense (P := P) w t e sz (els.map fun x => Value.agg x.toArray) _ hp ie hu hie hsz z hz (by intro v hv; obtain ⟨x, hx, rfl⟩ := List.mem_map.1 hv; simpa [Value.cells] using hl x hx) (by simpa using h0) (by simpa using h1)
  have ef : (els.map fun x => Value.agg x.toArray).flatMap (fun v => v.cells.toList) = els.flatten := by
    rw [List.flatMap_map]; exact agg_flat els
  rw [ef, List.length_map] at hr
  unfold Oper.wp execOp
  simp only [ho, Sem.run_bind, hr, Result.andThen_ok]
  refine hK _ _ (hk _ (sl_new w e sz els hl ?_) (below1 _ _) (by simp))
  have : els.length * 1 ≤ els.length * sz := Nat.mul_le_mul_left _ (Nat.pos_of_ne_zero fun h => by rw [h] at h0; simp at h0)
  unfold maxLen; omega
end

/-- The slice v holds the hashes l. -/
def Hs (w : World) (v : Value) (l : List (List UInt8)) : Prop := Sl w v 32 (l.map bvs) ∧ ∀ h ∈ l, h.length = 32
theorem Hs.later {w w' : World} {v : Value} {l : List (List UInt8)} (h : Hs w v l) (hb : Below w.heap.size w w') : Hs w' v l := ⟨h.1.later hb, h.2⟩
theorem Hs.nil (w : World) : Hs w (.slice none 0 0) [] := ⟨Sl.nil w 32, by simp⟩
theorem Hs.shape {w : World} {v : Value} {l : List (List UInt8)} (h : Hs w v l) : ∃ a cap, v = .slice a l.length cap ∧ l.length ≤ cap ∧ cap ≤ maxLen ∧ (a = none → cap = 0) := by
  obtain ⟨⟨a, cap, h1, h2, h3, _, h0, _⟩, _⟩ := h
  exact ⟨a, cap, by simpa using h1, by simpa using h2, h3, h0⟩
/-- .. which are not none: they stand in a block. -/
theorem Hs.block {w : World} {v : Value} {l : List (List UInt8)} (h : Hs w v l) (hne : 0 < l.length) : ∃ b k cap, v = .slice (some ⟨b, k, none⟩) l.length cap ∧ l.length ≤ cap ∧ cap ≤ maxLen ∧ b < w.heap.size ∧ ∀ i, i < l.length → Cells w b (k + i * 32) (bvs (l.getD i [])) := by
  obtain ⟨⟨a, cap, h1, h2, h3, h4, h0, h5⟩, _⟩ := h
  obtain ⟨b, k, rfl, hb, hc⟩ := h5 (by intro h0; simp at h0; subst h0; simp at hne)
  refine ⟨b, k, cap, by simpa using h1, by simpa using h2, h3, hb, fun i hi => hc i _ ?_⟩
  simp [hi]
theorem Hs.drop {w : World} {a : Option Addr} {n cap : Nat} {l : List (List UInt8)} (h : Hs w (.slice a n cap) l) (lo : Nat) (hlo : lo ≤ n) : Hs w (.slice (if cap = lo then a else a.map (·.add (lo * 32))) (n - lo) (cap - lo)) (l.drop lo) :=
  ⟨by have := h.1.drop lo hlo (by decide); rwa [← List.map_drop] at this, fun x hx => h.2 x (List.mem_of_mem_drop hx)⟩
theorem hashIe : ∃ ie z, Try.prog.info? 23 = some ie ∧ ie.size = 32 ∧ ie.zero = some z := by
  obtain ⟨i, hi, h⟩ := Option.map_eq_some_iff.1 (show (Try.prog.info? 23).map (fun i => (i.size, i.zero.isSome)) = some (32, true) by kernel_rfl)
  simp only [Prod.mk.injEq] at h
  obtain ⟨z, hz⟩ := Option.isSome_iff_exists.1 h.2
  exact ⟨i, z, hi, h.1, hz⟩
theorem wpl_hashes {ops : Array Oper} {rest : List Oper} {o : Oper} {a : Act} {w : World} {Q : Exit → Act → World → Prop} (hw : Region.wanted o (yielded ops a.tmps) = true) (n : Nat) (parts : Array (Nat × Operand)) (ho : o.op = .buildSlice 36 n parts) (l : List (List UInt8)) (hn : l.length = n)
    (hp : (parts.map fun (i, x) => (i, a.eval x)).toList = (l.map hv).zipIdx.map fun x => (x.2, x.1)) (hl : ∀ h ∈ l, h.length = 32) (h0 : 0 < n) (h1 : n ≤ 524288)
    (hk : ∀ w2, Hs w2 (.slice (some ⟨w.heap.size, 0, none⟩) n n) l → Below w.heap.size w w2 → w.heap.size < w2.heap.size → wpList Try.prog ops Q rest (a.put o.dst (.slice (some ⟨w.heap.size, 0, none⟩) n n)) w2) : wpList Try.prog ops Q (o :: rest) a w := by
  obtain ⟨ie, z, h2, h3, h4⟩ := hashIe
  refine wpl_dense hw 36 23 32 n parts ho (l.map bvs) (by simpa using hn) (by rw [hp, List.map_map]; rfl) ie Try.underlying36 h2 h3 z h4 (fun x hx => ?_) (by omega) (by omega) (fun w2 hs hb hz => hk w2 ⟨hs, hl⟩ hb hz)
  obtain ⟨h, hh, rfl⟩ := List.mem_map.1 hx
  rw [bvs_length]; exact hl h hh
end Go.Proofs.Ytikphhhkikdhaaa
