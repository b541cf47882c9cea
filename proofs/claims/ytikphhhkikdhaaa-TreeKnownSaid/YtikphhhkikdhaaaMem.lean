/- A store of a struct or an array somewhere in a block; what a call may have touched. -/
import Derived.Test.YtikphhhkikdhaaaTreeUp
import Derived.Laws.CopyRow
import Derived.Maps.AppendAt
namespace Go.Proofs.Ytikphhhkikdhaaa
open Go.RowKit Go.Lib
set_option linter.unusedVariables false
set_option linter.unusedSimpArgs false

theorem run_storeVar_at {P : Program} (w : World) (g k : Nat) (t ty : TypeId) (cs vs : List Value) (hg : Arr w g t cs) (hi : (P.info? ty).map (·.size) = some vs.length) (hl : k + vs.length ≤ cs.length) (h1 : ∀ v ∈ vs, v.oneCell' = true) :
    (storeVar ty ⟨g, k, none⟩ (.agg vs.toArray)).run P w = .ok () (w.setRow g (cs.take k ++ vs ++ cs.drop (k + vs.length)).toArray) := by
  have := run_storeCells_at (P := P) g k t vs 0 cs.toArray w hg (by simpa using hl) h1
  cases hq : P.info? ty with
  | none => simp [hq] at hi
  | some i =>
    have hs : vs.length = i.size := by simp [hq] at hi; omega
    simp only [Nat.add_zero] at this
    simp [storeVar, sizeOf, typeInfo, hq, Value.cells, hs, this]
section
variable {P : Program} {ops : Array Oper} {rest : List Oper} {o : Oper} {a : Act} {w : World} {Q : Exit → Act → World → Prop}
theorem wp_store_at {K : Act → World → Prop} (ty : TypeId) (x y : Operand) (ho : o.op = .store ty x y) {g k : Nat} {t : TypeId} {cs vs : List Value} (hx : a.eval x = .pointer (some ⟨g, k, none⟩)) (hy : a.eval y = .agg vs.toArray)
    (hg : Arr w g t cs) (hi : (P.info? ty).map (·.size) = some vs.length) (hl : k + vs.length ≤ cs.length) (h1 : ∀ v ∈ vs, v.oneCell' = true) (h : K (a.put o.dst undef) (w.setRow g (cs.take k ++ vs ++ cs.drop (k + vs.length)).toArray)) : o.wp P a w K Q := by
  unfold Oper.wp execOp
  simp only [ho, hx, hy, Instr.storeAt, Instr.sureAddr, Sem.run_bind, Sem.run_pure, Result.andThen_ok, run_storeVar_at w g k t ty cs vs hg hi hl h1]
  exact h
theorem wpl_store_at (hgd : o.guard = none) (ty : TypeId) (x y : Operand) (ho : o.op = .store ty x y) {g k : Nat} {t : TypeId} {cs vs : List Value} (hx : a.eval x = .pointer (some ⟨g, k, none⟩)) (hy : a.eval y = .agg vs.toArray)
    (hg : Arr w g t cs) (hi : (P.info? ty).map (·.size) = some vs.length) (hl : k + vs.length ≤ cs.length) (h1 : ∀ v ∈ vs, v.oneCell' = true)
    (h : wpList P ops Q rest (a.put o.dst undef) (w.setRow g (cs.take k ++ vs ++ cs.drop (k + vs.length)).toArray)) : wpList P ops Q (o :: rest) a w :=
  wpList_plain hgd fun _ hK => wp_store_at ty x y ho hx hy hg hi hl h1 (hK _ _ h)
end
theorem Arr.row_at {w : World} {g : Nat} {t : TypeId} {cs : List Value} (h : Arr w g t cs) (cs' : List Value) : Arr (w.setRow g cs'.toArray) g t cs' := Arr.row h cs'

/-- Of what stood in w only blocks of S may have been turned. -/
structure Touch (S : Nat → Prop) (w w' : World) : Prop where
  os : w'.os = w.os
  tape : w'.tape = w.tape
  output : w'.output = w.output
  size : w.heap.size ≤ w'.heap.size
  block : ∀ k, k < w.heap.size → ¬ S k → w'.heap[k]? = w.heap[k]?
theorem Touch.refl (S : Nat → Prop) (w : World) : Touch S w w := ⟨rfl, rfl, rfl, Nat.le_refl _, fun _ _ _ => rfl⟩
theorem touch_below {S : Nat → Prop} {w w' : World} (h : Below w.heap.size w w') : Touch S w w' := ⟨h.os, h.tape, h.output, h.size, fun k hk _ => h.block k hk⟩
theorem Touch.trans {S S' : Nat → Prop} {a b c : World} (h : Touch S a b) (k : Touch S' b c) (hs : ∀ x, S' x → S x ∨ a.heap.size ≤ x) : Touch S a c :=
  ⟨k.os.trans h.os, k.tape.trans h.tape, k.output.trans h.output, Nat.le_trans h.size k.size, fun x hx hn => (k.block x (Nat.lt_of_lt_of_le hx h.size) (fun h' => (hs x h').elim hn (fun h2 => by omega))).trans (h.block x hx hn)⟩
theorem Touch.below {S : Nat → Prop} {B : Nat} {w w' : World} (h : Touch S w w') (hB : B ≤ w.heap.size) (hS : ∀ x, S x → B ≤ x) : Below B w w' := ⟨h.os, h.tape, h.output, h.size, fun k hk => h.block k (by omega) (fun h' => by have := hS k h'; omega)⟩
/-- The block in which a slice stands, if in any. -/
def Off (S : Nat → Prop) (v : Value) : Prop := ∀ b k n c, v = .slice (some ⟨b, k, none⟩) n c → ¬ S b
theorem Hs.touch {S : Nat → Prop} {w w' : World} {v : Value} {l : List H32} (h : Hs w v l) (ht : Touch S w w') (hS : Off S v) : Hs w' v l := by
  refine ⟨?_, h.2⟩
  obtain ⟨a, cap, h1, h2, h3, h4, h0, h5⟩ := h.1
  refine ⟨a, cap, h1, h2, h3, h4, h0, fun hne => ?_⟩
  obtain ⟨b, k, h6, h7, h8⟩ := h5 hne
  refine ⟨b, k, h6, Nat.lt_of_lt_of_le h7 ht.size, fun i e he j v hj => ?_⟩
  have hb : w'.heap[b]? = w.heap[b]? := ht.block b h7 (hS b k _ _ (by rw [h1, h6]))
  exact (World.cell?_of_block (a := ⟨b, k + i * 32 + j, none⟩) hb).trans (h8 i e he j v hj)
theorem Hs.touch2 {S : Nat → Prop} {w w' : World} {v : Value} {l : List H32} (h : Hs w v l) (ht : Touch S w w') (hS : 0 < l.length → ∀ b, v.ownBlock = some b → ¬ S b) : Hs w' v l := by
  refine ⟨?_, h.2⟩
  obtain ⟨a, cap, h1, h2, h3, h4, h0, h5⟩ := h.1
  refine ⟨a, cap, h1, h2, h3, h4, h0, fun hne => ?_⟩
  obtain ⟨b, k, h6, h7, h8⟩ := h5 hne
  refine ⟨b, k, h6, Nat.lt_of_lt_of_le h7 ht.size, fun i e he j v hj => ?_⟩
  have hl : 0 < l.length := by
    rcases l with _ | ⟨x, r⟩
    · exact absurd rfl hne
    · simp
  have hb : w'.heap[b]? = w.heap[b]? := ht.block b h7 (hS hl b (by rw [h1, h6]; rfl))
  exact (World.cell?_of_block (a := ⟨b, k + i * 32 + j, none⟩) hb).trans (h8 i e he j v hj)
theorem ownBlock_cut (a : Option Addr) (c : Prop) [Decidable c] (k n m n' m' : Nat) : (Value.slice (if c then a else a.map (·.add k)) n m).ownBlock = (Value.slice a n' m').ownBlock := by
  split
  · cases a <;> rfl
  · cases a with
    | none => rfl
    | some x => simp only [Option.map_some, Value.ownBlock, Addr.add]; split <;> rfl
theorem Hs.own_lt {w : World} {v : Value} {l : List H32} (h : Hs w v l) (h0 : 0 < l.length) : ∀ b, v.ownBlock = some b → b < w.heap.size := by
  intro b hb
  obtain ⟨b', k, cap, rfl, _, _, hlt, _⟩ := h.block h0
  simp only [Value.ownBlock, Option.some.injEq] at hb
  omega
theorem Arr.touch {S : Nat → Prop} {w w' : World} {b : Nat} {t : TypeId} {cs : List Value} (h : Arr w b t cs) (ht : Touch S w w') (hS : ¬ S b) : Arr w' b t cs := by
  unfold Arr
  rw [ht.block b (Arr.lt h) hS]
  exact h
theorem HashAt.touch {S : Nat → Prop} {w w' : World} {b : Nat} {l : List UInt8} (h : HashAt w b l) (ht : Touch S w w') (hS : ¬ S b) : HashAt w' b l := ⟨h.1, Arr.touch h.2 ht hS⟩
theorem touch_row (w : World) (g : Nat) (a : Array Value) : Touch (fun b => b = g) w (w.setRow g a) := ⟨rfl, rfl, rfl, by simp, fun k _ hn => setRow_other w g k a hn⟩
theorem wpl_put_at {P : Program} {ops : Array Oper} {rest : List Oper} {o : Oper} {a : Act} {w : World} {Q : Exit → Act → World → Prop} (hgd : o.guard = none) (ty : TypeId) (x y : Operand) (ho : o.op = .store ty x y) {g k : Nat} {t : TypeId} {cs vs : List Value} (hx : a.eval x = .pointer (some ⟨g, k, none⟩)) (hy : a.eval y = .agg vs.toArray)
    (hg : Arr w g t cs) (hi : (P.info? ty).map (·.size) = some vs.length) (hl : k + vs.length ≤ cs.length) (h1 : ∀ v ∈ vs, v.oneCell' = true) (new : List Value) (hnew : cs.take k ++ vs ++ cs.drop (k + vs.length) = new)
    (h : ∀ w2, Arr w2 g t new → Touch (fun b => b = g) w w2 → wpList P ops Q rest (a.put o.dst undef) w2) : wpList P ops Q (o :: rest) a w := by
  subst hnew
  exact wpl_store_at hgd ty x y ho hx hy hg hi hl h1 (h _ (Arr.row hg _) (touch_row w g _))
theorem Touch.add {S T : Nat → Prop} {a b c : World} (h : Touch S a b) (k : Touch T b c) (hs : ∀ x, T x → S x) : Touch S a c := h.trans k (fun x hx => .inl (hs x hx))
theorem Touch.behind {S : Nat → Prop} {a b c : World} (h : Touch S a b) (k : Below b.heap.size b c) : Touch S a c := h.add (touch_below (S := fun _ => False) k) (fun _ h => h.elim)
theorem touch_set (w : World) (a : Addr) (v : Value) : Touch (fun b => b = a.block) w (w.setCell a v) := ⟨rfl, rfl, rfl, by simp [World.setCell], fun k _ hn => heap_setCell_other w a k v hn⟩
theorem kept_cell {w : World} {a : Addr} {v : Value} (h : w.cell? a = some v) (s : Kept (fun x => Below w.heap.size w x)) : s.w.cell? a = some v := (s.ok.cell (World.block_lt_of_cell? w a h)).trans h
theorem owns_touch {S : Nat → Prop} {w w' : World} {B e sz n : Nat} {v : Value} {xs : List Value} (h : w.ownsRow B e sz v n xs) (ht : Touch S w w') (hS : ∀ b, v.ownBlock = some b → ¬ S b) : w'.ownsRow B e sz v n xs := by
  refine ⟨h.1, ?_⟩
  rcases h.2 with hn | ⟨g, cap, cur, rfl, hb, hg, rest⟩
  · exact .inl hn
  · refine .inr ⟨g, cap, cur, rfl, hb, ?_, rest⟩
    rw [ht.block g (Array.getElem?_eq_some_iff.1 hg).1 (hS g rfl)]
    exact hg
theorem owns_base {w : World} {B B' e sz n : Nat} {v : Value} {xs : List Value} (h : w.ownsRow B e sz v n xs) (hB : B' ≤ B) : w.ownsRow B' e sz v n xs := by
  refine ⟨h.1, ?_⟩
  rcases h.2 with hn | ⟨g, cap, cur, rfl, hb, rest⟩
  · exact .inl hn
  · exact .inr ⟨g, cap, cur, rfl, Nat.le_trans hB hb, rest⟩
/-- A literal of hashes is a row of one's own. -/
theorem wpl_hashes_own {ops : Array Oper} {rest : List Oper} {o : Oper} {a : Act} {w : World} {Q : Exit → Act → World → Prop} (hw : Region.wanted o (yielded ops a.tmps) = true) (n : Nat) (parts : Array (Nat × Operand)) (ho : o.op = .buildSlice 36 n parts) (l : List (List UInt8)) (hn : l.length = n)
    (hp : (parts.map fun (i, x) => (i, a.eval x)).toList = (l.map hv).zipIdx.map fun x => (x.2, x.1)) (hl : ∀ h ∈ l, h.length = 32) (h0 : 0 < n) (h1 : n ≤ 524288)
    (hk : ∀ w2, OwnHs w2 w.heap.size (.slice (some ⟨w.heap.size, 0, none⟩) n n) l → Below w.heap.size w w2 → w.heap.size < w2.heap.size → wpList Try.prog ops Q rest (a.put o.dst (.slice (some ⟨w.heap.size, 0, none⟩) n n)) w2) : wpList Try.prog ops Q (o :: rest) a w := by
  subst hn
  obtain ⟨ie, z, h2, h3, h4⟩ := hashIe
  refine BigFrame.wpList_want hw fun _ hK => ?_
  have hl' : ∀ x ∈ l.map bvs, x.length = 32 := fun x hx => by obtain ⟨h, hh, rfl⟩ := List.mem_map.1 hx; rw [bvs_length]; exact hl h hh
  have hr := run_dense (P := Try.prog) w 36 23 32 (l.map hv) _ hp ie Try.underlying36 h2 h3 z h4 (by intro v hv; obtain ⟨x, hx, rfl⟩ := List.mem_map.1 hv; show (bvs x).toArray.size = 32; rw [List.size_toArray, bvs_length, hl x hx]) (by rw [List.length_map]; omega) (by rw [List.length_map]; omega)
  have ef : (l.map hv).flatMap (fun v => v.cells.toList) = hcs l := by
    have := agg_flat (l.map bvs)
    rw [List.flatMap_map] at this
    rw [List.flatMap_map]
    exact this
  rw [ef, List.length_map] at hr
  unfold Oper.wp execOp
  simp only [ho, Sem.run_bind, hr, Result.andThen_ok]
  refine hK _ _ (hk _ ?_ (below1 _ _) (by simp))
  have hs : (hcs l).toArray.size = l.length * 32 := by rw [List.size_toArray, hcs_length l hl]
  have := World.ownsRow_lit (base := w.heap.size) (e := 23) (size := 32) w (hcs l).toArray l.length (Nat.le_refl _) (by unfold maxLen; omega) hs
  simpa [OwnHs] using this
/-- A cell of one's own. -/
def One (w : World) (b : Nat) (t : TypeId) (v : Value) : Prop := Arr w b t [v]
section
variable {w w' : World} {b : Nat} {t : TypeId} {v : Value}
theorem One.cell (h : One w b t v) : w.cell? ⟨b, 0, none⟩ = some v := by have := Arr.cell h (i := 0) (by simp); simpa using this
theorem One.thaw (h : One w b t v) : w.frozen? ⟨b, 0, none⟩ = false := Arr.thaw h 0
theorem One.lt (h : One w b t v) : b < w.heap.size := Arr.lt h
theorem One.later (h : One w b t v) (hb : Below w.heap.size w w') : One w' b t v := Arr.later h hb
theorem One.touch {S : Nat → Prop} (h : One w b t v) (ht : Touch S w w') (hS : ¬ S b) : One w' b t v := Arr.touch h ht hS
theorem One.set (h : One w b t v) (u : Value) : One (w.setCell ⟨b, 0, none⟩ u) b t u := Arr.set h 0 u
theorem One.new (w : World) (t : TypeId) (v : Value) : One (w.alloc (.cells #[v] t)) w.heap.size t v := Arr.new w [v] t
end

/-! ### append to a row of one's own, elements of any size -/
structure ElemOf (P : Program) (t e : TypeId) (sz by' : Nat) : Prop where
  ht : P.underlying t = some (.slice e)
  pos : 0 < sz
  info : ∃ i z, P.info? e = some i ∧ i.zero = some z ∧ i.size = sz ∧ i.bytes = by' ∧ z.cells.size = sz
theorem owns_shape {w : World} {B e sz n : Nat} {v : Value} {xs : List Value} (h : w.ownsRow B e sz v n xs) : ∃ a c, v = .slice a n c := by
  rcases h.2 with ⟨rfl, rfl⟩ | ⟨g, cap, cur, rfl, _⟩
  · exact ⟨_, _, rfl⟩
  · exact ⟨_, _, rfl⟩
theorem touch_grown {w w' : World} {v : Value} (h : w.grownBy w' v.ownBlock) : Touch (fun b => v.ownBlock = some b) w w' := ⟨h.os, h.tape, h.output, h.size, fun k hk hn => h.block k hk (fun e => hn e.symm)⟩
theorem run_append_any {P : Program} (w : World) {t e sz by' : Nat} (E : ElemOf P t e sz by') (ty B : Nat) (v : Value) (n : Nat) (xs : List Value) (hown : w.ownsRow B e sz v n xs) (a : Addr) (m c : Nat) (news : List Value) (hl : news.length = m * sz)
    (hnews : ∀ j u, news[j]? = some u → w.cell? (a.add j) = some u) (h1 : ∀ u ∈ news, u.oneCell' = true) (h63 : n + m ≤ maxLen) (hbytes : (n + m) * by' ≤ 140737488355328) (hbase : B ≤ w.heap.size) :
    ∃ a' c' w', (Builtin.append_ #[t, t] ty #[v, .slice (some a) m c]).run P w = .ok (.slice a' (n + m) c') w' ∧ w'.ownsRow B e sz (.slice a' (n + m) c') (n + m) (xs ++ news) ∧ Touch (fun b => v.ownBlock = some b) w w' ∧
      ((Value.slice a' (n + m) c').ownBlock = v.ownBlock ∨ (Value.slice a' (n + m) c').ownBlock = some w.heap.size) := by
  obtain ⟨ht, pos, i, z, hi, hz, hs, hb, hzs⟩ := E
  obtain ⟨v', w', h2, h3, h4, _, h5⟩ := run_append_own_at (P := P) w B t ty e i z sz by' ht hi hz hs hb hzs pos v n xs hown a m c news hl hnews h1 h63 hbytes hbase
  obtain ⟨a', c', rfl⟩ := owns_shape h3
  exact ⟨a', c', w', h2, h3, touch_grown h4, h5⟩
theorem wpl_append_any {P : Program} {ops : Array Oper} {rest : List Oper} {o : Oper} {a : Act} {w : World} {Q : Exit → Act → World → Prop} (hw : Region.wanted o (yielded ops a.tmps) = true) (s x : Operand) {t e sz by' : Nat} (E : ElemOf P t e sz by')
    (ho : o.op = .call { callee := .builtin .append, args := #[s, x], argTypes := #[t, t] }) {B : Nat} {v : Value} {n : Nat} {xs : List Value} (hs : a.eval s = v) (hown : w.ownsRow B e sz v n xs) {ad : Addr} {m c : Nat} {news : List Value} (hx : a.eval x = .slice (some ad) m c) (hl : news.length = m * sz)
    (hnews : ∀ j u, news[j]? = some u → w.cell? (ad.add j) = some u) (h1 : ∀ u ∈ news, u.oneCell' = true) (h63 : n + m ≤ maxLen) (hbytes : (n + m) * by' ≤ 140737488355328) (hbase : B ≤ w.heap.size)
    (hk : ∀ a' c' w', w'.ownsRow B e sz (.slice a' (n + m) c') (n + m) (xs ++ news) → Touch (fun b => v.ownBlock = some b) w w' → ((Value.slice a' (n + m) c').ownBlock = v.ownBlock ∨ (Value.slice a' (n + m) c').ownBlock = some w.heap.size) →
      wpList P ops Q rest (a.put o.dst (.slice a' (n + m) c')) w') : wpList P ops Q (o :: rest) a w := by
  refine BigFrame.wpList_want hw fun _ hK => ?_
  obtain ⟨a', c', w', hr, h2, h3, h4⟩ := run_append_any (P := P) w E o.type B v n xs hown ad m c news hl hnews h1 h63 hbytes hbase
  unfold Oper.wp
  simp [execOp, ho, resolve, invoke, builtin, hs, hx, hr, Result.andThen]
  exact hK _ _ (hk a' c' w' h2 h3 h4)
/-- One hash more. -/
theorem hashElem : ElemOf Try.prog 36 23 32 32 := by
  obtain ⟨i, z, h1, h2, h3, h4, h5⟩ := hashIe2
  exact ⟨Try.underlying36, by decide, i, z, h1, h4, h2, h3, h5⟩
theorem wpl_append_hash {ops : Array Oper} {rest : List Oper} {o : Oper} {a : Act} {w : World} {Q : Exit → Act → World → Prop} (hw : Region.wanted o (yielded ops a.tmps) = true) (s x : Operand)
    (ho : o.op = .call { callee := .builtin .append, args := #[s, x], argTypes := #[36, 36] }) {B : Nat} {v : Value} {l : List H32} {h : H32} (hs : a.eval s = v) (hown : OwnHs w B v l) {b k c : Nat} (hx : a.eval x = .slice (some ⟨b, k, none⟩) 1 c)
    (hxs : Hs w (.slice (some ⟨b, k, none⟩) 1 c) [h]) (n : Nat) (hn : l.length = n) (hm : l.length ≤ 1000000) (hB : B ≤ w.heap.size)
    (hk : ∀ a' c' w', OwnHs w' B (.slice a' (n + 1) c') (l ++ [h]) → Touch (fun b => v.ownBlock = some b) w w' → ((Value.slice a' (n + 1) c').ownBlock = v.ownBlock ∨ (Value.slice a' (n + 1) c').ownBlock = some w.heap.size) →
      wpList Try.prog ops Q rest (a.put o.dst (.slice a' (n + 1) c')) w') : wpList Try.prog ops Q (o :: rest) a w := by
  subst hn
  have h32 : h.length = 32 := hxs.2 h (by simp)
  refine wpl_append_any hw s x hashElem ho hs hown hx (news := bvs h) (by rw [bvs_length, h32]) (fun j u hu => hxs.cellsOf j u (by rw [hcs_one]; exact hu)) (fun u hu => List.all_eq_true.1 (bvs_one _) u hu) (by unfold maxLen; omega) (by omega) hB (fun a' c' w' h1 h2 h3 => hk a' c' w' ?_ h2 h3)
  unfold OwnHs
  rw [List.length_append, hcs_append, hcs_one]
  exact h1
end Go.Proofs.Ytikphhhkikdhaaa
