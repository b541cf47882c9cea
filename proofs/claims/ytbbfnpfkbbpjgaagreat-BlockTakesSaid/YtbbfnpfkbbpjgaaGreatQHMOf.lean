/- Several texts of this proof in one: Mix, Hash, Owns, Put, Of, Float. -/
import Derived.Test.YtbbfnpfkbbpjgaaGreatQHMBase
import Derived.OrdersHeld
import Derived.BigFrame
import Derived.Deep.AppendLies
import Derived.Maps.AppendAt
import Derived.Laws.BitsAll
/- A region that draws its order, walked by a schedule: operations that only look (in every world of a class they yield one value and leave the world alone) are pulled ahead; between them operations that may do anything come up alone, and leave a world of the class. -/
namespace Go.Proofs.YtbbfnpfkbbpjgaaGreat
open Go.RowKit
set_option linter.unusedVariables false
set_option linter.unusedSimpArgs false
set_option maxRecDepth 100000
set_option maxHeartbeats 4000000
section
variable {P : Program} {ops : Array Oper} {md : Region.Mode} {C : World → Prop} {Q : Exit → Act → World → Prop}
/-- Operations that hand back a value, and are no call. -/
def plainOp (o : Oper) : Bool :=
 match o.op with
 | .move _ | .assign _ | .pick .. | .load .. | .binOp .. | .unOp .. | .convert .. | .slice .. | .fieldAddr .. | .field .. | .indexAddr .. | .index .. | .extract .. | .build .. | .makeFunc .. => true
 | .call { callee := .builtin .len, .. } => true
 | _ => false
theorem j8j {s : Sem Value} {w w' : World} {n : Next} (h : (do let x ← s; pure (.value x) : Sem Next).run P w = .ok n w') : ∃ v, n = .value v := by
 rw [Sem.run_bind] at h
 cases hs : s.run P w with
 | ok v w1 =>
  rw [hs, Result.andThen_ok, Sem.run_pure] at h
  injection h with h1 h2
  exact ⟨v, h1.symm⟩
 | halt x w1 =>
  rw [hs] at h
  cases h
theorem j7a {o : Oper} (hp : plainOp o = true) {ρ : Operand → Value} {w w' : World} {n : Next} (h : (execOp ρ o).run P w = .ok n w') : ∃ v, n = .value v := by
 obtain ⟨dst, op, type, pos, after, guard⟩ := o
 unfold plainOp at hp
 cases op <;> simp only [Bool.false_eq_true] at hp <;> try (exact j8j h)
 case move x => simp only [execOp, Sem.run_pure] at h; injection h with h1 _; exact ⟨_, h1.symm⟩
 case assign x => simp only [execOp, Sem.run_pure] at h; injection h with h1 _; exact ⟨_, h1.symm⟩
 case pick c x y =>
  simp only [execOp, Sem.run_bind] at h
  cases hs : (asBool (ρ c)).run P w with
  | ok v w1 =>
   rw [hs, Result.andThen_ok] at h
   first
    | (rw [Sem.run_pure] at h; injection h with h1 _; exact ⟨_, h1.symm⟩)
    
  | halt x w1 =>
   rw [hs] at h
   cases h
 case call c =>
  obtain ⟨cal, xs, ats⟩ := c
  cases cal
  case builtin b => cases b <;> first | exact j8j (s := Builtin.len_ ats type (xs.map ρ)) h | cases hp
  all_goals cases hp
theorem j1e {o : Oper} {a : Act} {K : Act → Prop} (hp : plainOp o = true)
  (h : if Region.wanted o (yielded ops a.tmps) then o.quiet P a C K else K (a.put o.dst undef)) : ∃ v, YieldsIf P ops C o v a ∧ K (a.put o.dst v) := by
 by_cases hw : Region.wanted o (yielded ops a.tmps) = true
 ·rw [if_pos hw] at h
  obtain ⟨v, h1, h2⟩ := h
  refine ⟨v, .inl ⟨hw, fun w hcw => ?_⟩, h2⟩
  have h3 := h1 w hcw
  unfold Oper.quietAt at h3
  generalize hr : (execOp a.eval o).run P w = r at *
  cases r with
  | ok n w' =>
   obtain ⟨u, rfl⟩ := j7a hp hr
   simp only [Oper.quietUpon] at h3
   rw [h3.1, h3.2]
  | halt x w' => simp only [Oper.quietUpon] at h3
 ·rw [if_neg hw] at h
  exact ⟨undef, .inr ⟨by simpa using hw, rfl⟩, h⟩
/-- Q, but nothing at a panic. -/
def calmQ (Q : Exit → Act → World → Prop) : Exit → Act → World → Prop
 | .panic _, _, _ => False
 | e, a, w => Q e a w
def pickOps (l : List Oper) : List Nat → List Oper
 | [] => []
 | i :: r => (match l[i]? with | some o => [o] | none => []) ++ pickOps l r
def quietB (md : Region.Mode) (ops : Array Oper) : List Nat → Array Bool → Option (Array Bool)
 | [], L => some L
 | i :: q, L => if ((ops[i]?).map plainOp).getD false && (Region.ready md ops L).contains i && Region.free md ops L i then quietB md ops q (L.setIfInBounds i true) else none
end
/-- A world that is as w0 was below block number B. -/
structure From (B : Nat) (w0 : World) where
 w : World
 ok : Below B w0 w
instance from_nonempty (B : Nat) (w : World) : Nonempty (From B w) := ⟨⟨w, Below.refl _ _⟩⟩
theorem From.cell {B : Nat} {w0 : World} {a : Addr} {v : Value} (h : w0.cell? a = some v) (hB : a.block < B) (s : From B w0) : s.w.cell? a = some v := (s.ok.cell hB).trans h
/-- A contract's world, met in the midst of a region. -/
theorem mixed {B : Nat} {W a b : World} (hB : B ≤ W.heap.size) (h : Below B W a) (k : Below a.heap.size a b) : Below B W b := h.trans (k.mono (Nat.le_trans hB h.size))
end Go.Proofs.YtbbfnpfkbbpjgaaGreat
namespace Go.Proofs.YtbbfnpfkbbpjgaaGreat
open Go.RowKit Go.Lib
set_option linter.unusedVariables false
set_option linter.unusedSimpArgs false
set_option maxRecDepth 100000
set_option maxHeartbeats 4000000
/-- Block b holds the hash l. -/
def HashAt (w : World) (b : Nat) (l : List UInt8) : Prop := l.length = 32 ∧ Arr w b 34 (bvs l)
section
variable {w w' : World} {b : Nat} {l : List UInt8}
theorem HashAt.lt (h : HashAt w b l) : b < w.heap.size := Arr.lt h.2
theorem HashAt.below (h : HashAt w b l) {B : Nat} (hb : Below B w w') (hB : b < B) : HashAt w' b l := ⟨h.1, Arr.below h.2 hb hB⟩
theorem HashAt.later (h : HashAt w b l) (hb : Below w.heap.size w w') : HashAt w' b l := h.below hb h.lt
theorem HashAt.alloc (h : HashAt w b l) (o : Obj) : HashAt (w.alloc o) b l := h.later ((Below.refl _ _).alloc (Nat.le_refl _) _)
theorem HashAt.new (w : World) (l : List UInt8) (hl : l.length = 32) : HashAt (w.alloc (.cells (bvs l).toArray 34)) w.heap.size l := ⟨hl, Arr.new _ _ _⟩
theorem HashAt.new2 (w : World) (o : Obj) (l : List UInt8) (hl : l.length = 32) : HashAt ((w.alloc o).alloc (.cells (bvs l).toArray 34)) (w.heap.size + 1) l := ⟨hl, Arr.new2 _ _ _ _⟩
theorem HashAt.row (h : HashAt w b l) (l' : List UInt8) (hl : l'.length = 32) : HashAt (w.setRow b (bvs l').toArray) b l' := ⟨hl, Arr.row h.2 _⟩
theorem HashAt.row_other (h : HashAt w b l) (g : Nat) (a : Array Value) (hne : b ≠ g) : HashAt (w.setRow g a) b l := ⟨h.1, Arr.row_other h.2 g a hne⟩
theorem HashAt.zero (w : World) : HashAt (w.alloc (.cells (bvs zero32).toArray 34)) w.heap.size zero32 := HashAt.new w zero32 rfl
end
theorem hashInfo : (Tryz.prog.info? 34).map (·.size) = some 32 := by kernel_rfl
theorem hashInfoOf (l : List UInt8) (h : l.length = 32) : (Tryz.prog.info? 34).map (·.size) = some (bvs l).toArray.size := by
 rw [show (bvs l).toArray.size = 32 by simp [bvs, h]]; exact hashInfo
theorem hashBuilt : Tryz.prog.built 34 [] = some (bvs zero32).toArray := by kernel_rfl
/-- A variable that was made and filled at once. -/
theorem j6f (w : World) (l : List UInt8) (hl : l.length = 32) : HashAt ((w.alloc (.cells (bvs zero32).toArray 34)).setRow w.heap.size (bvs l).toArray) w.heap.size l ∧
  Below w.heap.size w ((w.alloc (.cells (bvs zero32).toArray 34)).setRow w.heap.size (bvs l).toArray) :=
 ⟨(HashAt.zero w).row l hl, q0p (below1 w _) (Nat.le_refl _) _⟩
section
variable {ops : Array Oper} {rest : List Oper} {o : Oper} {a : Act} {w : World} {Q : Exit → Act → World → Prop}
theorem q1a (hw : Region.wanted o (yielded ops a.tmps) = true) (x : Operand) (ho : o.op = .load 34 x) {g : Nat} {l : List UInt8} (hx : a.eval x = .pointer (some ⟨g, 0, none⟩)) (h : HashAt w g l)
  (hk : wpList Tryz.prog ops Q rest (a.put o.dst (hv l)) w) : wpList Tryz.prog ops Q (o :: rest) a w :=
 BigFrame.wpList_want hw fun _ hK => wp_load_row 34 x ho g hx 34 (bvs l).toArray (0, 0) _ h.2 Tryz.underlying34 rfl (hashInfoOf l h.1) (hK _ _ hk)
theorem q0y (hgd : o.guard = none) (x y : Operand) (ho : o.op = .store 34 x y) {g : Nat} {l0 l : List UInt8} (hx : a.eval x = .pointer (some ⟨g, 0, none⟩)) (hy : a.eval y = hv l) (hl : l.length = 32) (h : HashAt w g l0)
  (hk : wpList Tryz.prog ops Q rest (a.put o.dst undef) (w.setRow g (bvs l).toArray)) : wpList Tryz.prog ops Q (o :: rest) a w :=
 wpList_store_row hgd 34 x y ho g (bvs l).toArray hx hy 34 _ h.2 (hashInfoOf l hl) (by simp [bvs, hl, h.1]) (by simpa using q1f l) hk
theorem x0b (hw : Region.wanted o (yielded ops a.tmps) = true) (x y : Operand) (ho : o.op = .binOp .eql 34 x y 34) {l g : List UInt8} (hx : a.eval x = hv l) (hy : a.eval y = hv g) (hl : l.length = 32) (hg : g.length = 32)
  (hk : wpList Tryz.prog ops Q rest (a.put o.dst (.bool (decide (l = g)))) w) : wpList Tryz.prog ops Q (o :: rest) a w :=
 BigFrame.wpList_want hw fun _ hK => by
  unfold Oper.wp execOp
  simp only [ho, hx, hy, hv, Sem.run_bind]
  rw [run_eqGuard_agg w .eql 34 x y _ _ Tryz.eqGuardType34]
  simp only [Result.andThen_ok]
  rw [z2q l g hl hg]
  exact hK _ _ hk
theorem j4g {P : Program} (hw : Region.wanted o (yielded ops a.tmps) = true) (t : TypeId) (parts : Array (Nat × Operand)) (ho : o.op = .build t parts) (cs : Array Value) (hc : P.built t (parts.map fun (i, x) => (i, a.eval x)).toList = some cs)
  (hk : wpList P ops Q rest (a.put o.dst (.agg cs)) w) : wpList P ops Q (o :: rest) a w :=
 BigFrame.wpList_want hw fun _ hK => by
  unfold Oper.wp execOp
  simp only [ho, Sem.run_bind, run_build w t _ cs hc, Result.andThen_ok]
  exact hK _ _ hk
theorem q2n (hw : Region.wanted o (yielded ops a.tmps) = true) (ho : o.op = .build 34 #[])
  (hk : wpList Tryz.prog ops Q rest (a.put o.dst (hv zero32)) w) : wpList Tryz.prog ops Q (o :: rest) a w :=
 j4g hw 34 #[] ho (bvs zero32).toArray (by rw [Array.map_empty]; exact hashBuilt) hk
/-- A function whose one result is a hash. -/
theorem q2v {fn : Func} {p : Tmp} (hr : fn.results = #[.cell p 34]) (tmps : Array Value) (w : World) {g : Nat} {l : List UInt8} (hp : tmps.getD p undef = .pointer (some ⟨g, 0, none⟩)) (h : HashAt w g l) :
  (results fn tmps).run Tryz.prog w = .ok (hv l) w :=
 results_cell_row hr tmps w g 34 (bvs l).toArray (0, 0) _ hp h.2 Tryz.underlying34 rfl (hashInfoOf l h.1)
/-- A function whose results are a hash and a value. -/
theorem j1w {fn : Func} {p u : Tmp} (hr : fn.results = #[.cell p 34, .tmp u]) (tmps : Array Value) (w : World) {g : Nat} {l : List UInt8} (v : Value) (hp : tmps.getD p undef = .pointer (some ⟨g, 0, none⟩)) (hv' : tmps.getD u undef = v) (h : HashAt w g l) :
  (results fn tmps).run Tryz.prog w = .ok (.tuple #[hv l, v]) w :=
 q5d hr tmps w g 34 (bvs l).toArray (0, 0) _ v hp hv' h.2 Tryz.underlying34 rfl (hashInfoOf l h.1)
end
/-! ### In a region that draws its order -/
section
variable {o : Oper} {a : Act} {K : Act → Prop} {w0 : World}
theorem q3a (x : Operand) (ho : o.op = .load 34 x) {g : Nat} {l : List UInt8} (hx : a.eval x = .pointer (some ⟨g, 0, none⟩)) (h : HashAt w0 g l) (hk : K (a.put o.dst (hv l))) :
  o.quiet Tryz.prog a (fun w' => ∃ s : Since w0, w' = s.w) K :=
 j4s 34 x ho g hx 34 (bvs l) _ h.2 Tryz.underlying34 rfl (hashInfoOf l h.1) hk
theorem q6h {P : Program} {C : World → Prop} (t : TypeId) (parts : Array (Nat × Operand)) (ho : o.op = .build t parts) (cs : Array Value) (hc : P.built t (parts.map fun (i, x) => (i, a.eval x)).toList = some cs)
  (hk : K (a.put o.dst (.agg cs))) : o.quiet P a C K := by
 refine q2z _ (fun w _ => ?_) hk
 unfold execOp
 simp only [ho, Sem.run_bind, run_build w t _ cs hc, Result.andThen_ok]
 rfl
end
/-- A mark that hits none of n cells. -/
def Unhit (fz : Nat × Nat) (n : Nat) : Prop := ∀ j, j < n → ¬ (fz.1 ≤ j ∧ j < fz.2)
theorem j5h (n : Nat) : Unhit (0, 0) n := fun j _ => by simp
/-- The slice value v, of n elements of size cells each, owns the cells xs, in a block from base on. -/
def Owns (w : World) (base : Nat) (e : TypeId) (size : Nat) (v : Value) (n : Nat) (xs : List Value) : Prop :=
  xs.length = n * size ∧
  ((v = .slice none 0 0 ∧ n = 0) ∨
   ∃ g cap cur fz, v = .slice (some ⟨g, 0, none⟩) n cap ∧ base ≤ g ∧ w.heap[g]? = some (.cells cur e fz) ∧ Unhit fz cur.size ∧ n ≤ cap ∧ cap ≤ maxLen ∧ cur.size = cap * size ∧ cur.toList.take (n * size) = xs)
section
variable {w w' : World} {base : Nat} {e : TypeId} {size : Nat} {v : Value} {n : Nat} {xs : List Value}
theorem Owns.of_row (h : w.ownsRow base e size v n xs) : Owns w base e size v n xs := by
 refine ⟨h.1, ?_⟩
 rcases h.2 with h2 | ⟨g, cap, cur, e1, hg, hh, r⟩
 ·exact .inl h2
 ·exact .inr ⟨g, cap, cur, (0, 0), e1, hg, hh, j5h _, r⟩
theorem Owns.nil (w : World) (base : Nat) (e : TypeId) (size : Nat) : Owns w base e size (.slice none 0 0) 0 [] := .of_row (World.ownsRow_nil _ _ _ _)
theorem Owns.len (h : Owns w base e size v n xs) : xs.length = n * size := h.1
theorem Owns.lt (h : Owns w base e size v n xs) : ∀ k, v.ownBlock = some k → base ≤ k ∧ k < w.heap.size := by
 intro k hk
 rcases h.2 with ⟨rfl, _⟩ | ⟨g, cap, cur, fz, rfl, hb, hg, _⟩
 ·simp [Value.ownBlock] at hk
 ·simp only [Value.ownBlock, Option.some.injEq] at hk
  subst hk
  exact ⟨hb, (Array.getElem?_eq_some_iff.1 hg).1⟩
/-- The row stays where its block stays. -/
theorem Owns.kept (h : Owns w base e size v n xs) (hk : ∀ g, v.ownBlock = some g → w'.heap[g]? = w.heap[g]?) : Owns w' base e size v n xs := by
 refine ⟨h.1, ?_⟩
 rcases h.2 with h2 | ⟨g, cap, cur, fz, rfl, hg, hh, r⟩
 ·exact .inl h2
 ·exact .inr ⟨g, cap, cur, fz, rfl, hg, (hk g rfl).trans hh, r⟩
theorem Owns.later (h : Owns w base e size v n xs) (hb : Below w.heap.size w w') : Owns w' base e size v n xs := h.kept fun g hg => hb.block g (h.lt g hg).2
theorem Owns.alloc (h : Owns w base e size v n xs) (o : Obj) : Owns (w.alloc o) base e size v n xs := h.later ((Below.refl _ _).alloc (Nat.le_refl _) _)
theorem Owns.grown (h : Owns w base e size v n xs) {row : Option Nat} (hg : w.grownBy w' row) (hne : v.ownBlock = none ∨ v.ownBlock ≠ row) : Owns w' base e size v n xs :=
 h.kept fun g hgg => hg.block g (h.lt g hgg).2 (by rw [hgg] at hne; exact hne.elim (fun h => by cases h) id)
theorem Owns.setCell (h : Owns w base e size v n xs) (a : Addr) (u : Value) (hne : v.ownBlock ≠ some a.block) : Owns (w.setCell a u) base e size v n xs :=
 h.kept fun g hg => Below.heap_setCell _ _ _ _ (fun he => hne (by rw [hg, he]))
theorem Owns.setRow (h : Owns w base e size v n xs) (b : Nat) (c : Array Value) (hne : v.ownBlock ≠ some b) : Owns (w.setRow b c) base e size v n xs :=
 h.kept fun g hg => setRow_other w b g c (fun he => hne (by rw [hg, he]))
/-- A slice that is not empty has an address. -/
theorem Owns.at_ (h : Owns w base e size v n xs) (hn : 0 < n) : ∃ g cap, v = .slice (some ⟨g, 0, none⟩) n cap ∧ g < w.heap.size ∧ base ≤ g ∧ n ≤ cap := by
 rcases h.2 with ⟨_, h2⟩ | ⟨g, cap, cur, fz, e1, hg, hh, _, hc, _⟩
 ·omega
 ·exact ⟨g, cap, e1, (Array.getElem?_eq_some_iff.1 hh).1, hg, hc⟩
theorem Owns.cell {g cap : Nat} (h : Owns w base e size (.slice (some ⟨g, 0, none⟩) n cap) n xs) (j : Nat) (hj : j < n * size) : w.cell? ⟨g, j, none⟩ = some (xs.getD j undef) := by
 rcases h.2 with ⟨h2, _⟩ | ⟨g', cap', cur, fz, e1, hg, hh, _, _, _, hs, ht⟩
 ·cases h2
 ·simp only [Value.slice.injEq, Option.some.injEq, Addr.mk.injEq, and_true, true_and] at e1
  obtain ⟨rfl, rfl⟩ := e1
  rw [cell_of_row w g j cur e fz hh, ← ht, List.getD_eq_getElem?_getD, List.getElem?_take, if_pos hj]
  have hx : j < cur.size := by
   have := congrArg List.length ht
   rw [h.1, List.length_take, Array.length_toList] at this
   omega
  simp [hx]
theorem Owns.cells (h : Owns w base e size v n xs) {g : Nat} (hg : v.ownBlock = some g) : ∀ j u, xs[j]? = some u → w.cell? ((⟨g, 0, none⟩ : Addr).add j) = some u := by
 intro j u hu
 rcases h.2 with ⟨rfl, _⟩ | ⟨g', cap, cur, fz, rfl, _, hgg, _, _, _, _, htake⟩
 ·simp [Value.ownBlock] at hg
 ·simp only [Value.ownBlock, Option.some.injEq] at hg
  subst hg
  have hadd : (⟨g', 0, none⟩ : Addr).add j = ⟨g', j, none⟩ := by unfold Addr.add; split <;> simp_all
  rw [hadd, cell_of_row w g' j cur e fz hgg]
  rw [← htake, List.getElem?_take] at hu
  split at hu
  ·simpa using hu
  ·cases hu
end
/-- What is known of a slice's type, closed. -/
structure Elem (P : Program) (t e : TypeId) (size bytes : Nat) : Prop where
 ht : P.underlying t = some (.slice e)
 inf : ∃ i z, P.info? e = some i ∧ i.zero = some z ∧ i.size = size ∧ i.bytes = bytes ∧ z.cells.size = size
 pos : 0 < size
 posb : 0 < bytes
theorem Elem.mk' {P : Program} {t e : TypeId} {size bytes : Nat} {z : Value} (ht : P.underlying t = some (.slice e)) (hi : (P.info? e).map (fun i => (i.zero, i.size, i.bytes)) = some (some z, size, bytes)) (hz : z.cells.size = size) (pos : 0 < size) (posb : 0 < bytes) : Elem P t e size bytes := by
 obtain ⟨i, h1, h2, h3, h4⟩ := info_parts hi
 exact ⟨ht, ⟨i, z, h1, h2, h3, h4, hz⟩, pos, posb⟩
theorem j3p (P : Program) (g o : Nat) (t : TypeId) (fz : Nat × Nat) : ∀ (vs : List Value) (i : Nat) (cur : Array Value) (w : World), w.heap[g]? = some (.cells cur t fz) → Unhit fz cur.size → o + i + vs.length ≤ cur.size → (∀ v ∈ vs, v.oneCell' = true) →
  (storeCells ⟨g, o, none⟩ vs i).run P w = .ok () (w.setRow g (cur.toList.take (o + i) ++ vs ++ cur.toList.drop (o + i + vs.length)).toArray)
 | [], i, cur, w, hg, _, _, _ => by
  simp only [storeCells, List.append_nil, List.length_nil, Nat.add_zero, List.take_append_drop, Array.toArray_toList]
  rw [setRow_self w g cur t fz hg]
  rfl
 | v :: rest, i, cur, w, hg, hfz, hl, h1 => by
  have hi : o + i < cur.size := by simp at hl; omega
  have hadd : (⟨g, o, none⟩ : Addr).add i = ⟨g, o + i, none⟩ := by unfold Addr.add; split <;> simp_all
  have hcell : w.cell? ⟨g, o + i, none⟩ = some cur[o + i] := by simp [World.cell?, hg, hi]
  have hfro : w.frozen? ⟨g, o + i, none⟩ = false := by
   have h := hfz (o + i) hi
   obtain ⟨lo, hi'⟩ := fz
   simp only [World.frozen?, hg, Bool.and_eq_false_iff, decide_eq_false_iff_not]
   simp only at h
   omega
  have hst : (store ((⟨g, o, none⟩ : Addr).add i) v).run P w = .ok () (w.setRow g (cur.setIfInBounds (o + i) v)) := by
   rw [hadd, run_store P w _ v _ (h1 v (by simp)), hcell]
   simp [hfro, setCell_eq_setRow w g (o + i) cur t fz v hg]
  have ih := j3p P g o t fz rest (i + 1) (cur.setIfInBounds (o + i) v) (w.setRow g (cur.setIfInBounds (o + i) v)) (setRow_heap w g cur _ t _ hg) (by simpa using hfz) (by simp at hl ⊢; omega) (fun x hx => h1 x (by simp [hx]))
  simp only [storeCells, Sem.run_bind, hst, Result.andThen_ok, ih, setRow_setRow]
  congr 3
  have e := list_seg_step cur.toList (o + i) v rest (by simp at hl ⊢; omega)
  simpa [Array.toList_setIfInBounds, Nat.add_assoc] using e
section
variable {P : Program} {w : World}
theorem j2p {t e : TypeId} {size bytes : Nat} (E : Elem P t e size bytes) (base : Nat) (ty : TypeId) (v : Value) (n : Nat) (xs : List Value) (hown : Owns w base e size v n xs)
    (a : Addr) (m c : Nat) (news : List Value) (hl : news.length = m * size) (hnews : ∀ j u, news[j]? = some u → w.cell? (a.add j) = some u) (h1 : ∀ u ∈ news, u.oneCell' = true)
    (hbytes : (n + m) * bytes ≤ 140737488355328) (hbase : base ≤ w.heap.size) :
    ∃ v' w', (Builtin.append_ #[t, t] ty #[v, .slice (some a) m c]).run P w = .ok v' w' ∧ Owns w' base e size v' (n + m) (xs ++ news) ∧ w.grownBy w' v.ownBlock ∧ (v'.ownBlock = v.ownBlock ∨ v'.ownBlock = some w.heap.size) := by
  obtain ⟨ht, ⟨i, z, hi, hz, hsize, hby, hzs⟩, pos, posb⟩ := E
  have h63 : n + m ≤ maxLen := by have := Nat.le_mul_of_pos_right (n + m) posb; unfold maxLen; omega
  have hsmall : n + m ≤ 9223372036854775807 := by simp only [maxLen] at h63; omega
  have hlen : (xs ++ news).length = (n + m) * size := by rw [List.length_append, hown.1, hl, Nat.add_mul]
  rcases hown.2 with ⟨rfl, rfl⟩ | ⟨g, cap, cur, fz, rfl, hbg, hg, hfz, hnc, hcm, hcs, htake⟩
  · obtain ⟨v', w', r1, r2, r3, _, r5⟩ := run_append_own_at (P := P) w base t ty e i z size bytes ht hi hz hsize hby hzs pos (.slice none 0 0) 0 xs ⟨hown.1, .inl ⟨rfl, rfl⟩⟩ a m c news hl hnews h1 h63 hbytes hbase
    exact ⟨v', w', r1, .of_row r2, r3, r5⟩
  · subst hsize
    subst hby
    by_cases hroom : n + m ≤ cap
    · have hfit : n * i.size + news.length ≤ cur.size := by rw [hl, hcs, ← Nat.add_mul]; exact Nat.mul_le_mul_right _ hroom
      have hr : (Builtin.append_ #[t, t] ty #[.slice (some ⟨g, 0, none⟩) n cap, .slice (some a) m c]).run P w =
          .ok (.slice (some ⟨g, 0, none⟩) (n + m) cap) (w.setRow g (cur.toList.take (n * i.size) ++ news ++ cur.toList.drop (n * i.size + news.length)).toArray) := by
        have hf := run_firstCells_some (P := P) w i.size m a m c news hl hnews
        have hst := j3p P g (n * i.size) e fz news 0 cur w hg hfz (by simpa using hfit) h1
        simp only [Nat.add_zero] at hst
        simp [Builtin.append_, run_underlying ht, sizeOf, typeInfo, hi, Builtin.lenOf, hroom, hf, Addr.add_lit, hst]
      have hsz : (cur.toList.take (n * i.size) ++ news ++ cur.toList.drop (n * i.size + news.length)).toArray.size = cur.size := by
        simp only [List.size_toArray, List.length_append, List.length_take, List.length_drop, Array.length_toList]
        omega
      refine ⟨_, _, hr, ⟨hlen, .inr ⟨g, cap, _, fz, rfl, hbg, setRow_heap w g cur _ e _ hg, by rw [hsz]; exact hfz, hroom, hcm, by rw [hsz]; exact hcs, ?_⟩⟩, ⟨rfl, rfl, rfl, by simp, fun k _ hk => setRow_other w g k _ (fun e => hk (by simp [Value.ownBlock, e]))⟩, .inl rfl⟩
      rw [htake, ← hlen]
      exact List.take_left
    · have holds : ∀ j u, xs[j]? = some u → w.cell? ((⟨g, 0, none⟩ : Addr).add j) = some u := hown.cells (g := g) rfl
      have hr := run_append_grow (P := P) w t ty e i z ht hi hz ⟨g, 0, none⟩ n cap xs hown.1 holds a m c news hl hnews (by omega) (by omega) (growslice_fits (by omega) hbytes)
      have hge := grownCap_ge w (n + m) cap e
      have hcm2 : grownCap w (n + m) cap e ≤ maxLen := grownCap_le_maxLen w (n + m) cap e h63
      refine ⟨_, _, hr, ⟨hlen, .inr ⟨w.heap.size, _, _, (0, 0), rfl, hbase, heap_alloc_new w.drew _, j5h _, hge, hcm2, ?_, ?_⟩⟩, ⟨rfl, rfl, rfl, by simp, fun k hk _ => Below.heap_alloc w.drew _ k hk⟩, .inr rfl⟩
      · simp only [Array.size_append, List.size_toArray, size_zeroCells, hzs, hown.1, hl, ← Nat.add_mul]
        congr 1
        omega
      · simp only [Array.toList_append, List.append_assoc]
        rw [← List.append_assoc, ← hlen]
        exact List.take_left
/-- append(s, x..) onto a row that the call owns. -/
theorem q8l {t e : TypeId} {size bytes : Nat} (E : Elem P t e size bytes) {ops : Array Oper} {rest : List Oper} {o : Oper} {a : Act} {Q : Exit → Act → World → Prop} (hw : Region.wanted o (yielded ops a.tmps) = true) (s x : Operand)
  (ho : o.op = .call { callee := .builtin .append, args := #[s, x], argTypes := #[t, t] }) (base : Nat) {v : Value} {n : Nat} {xs : List Value} (hs : a.eval s = v) (hown : Owns w base e size v n xs)
  (ad : Addr) (m c : Nat) (news : List Value) (hx : a.eval x = .slice (some ad) m c) (hl : news.length = m * size) (hnews : ∀ j u, news[j]? = some u → w.cell? (ad.add j) = some u) (h1 : ∀ u ∈ news, u.oneCell' = true)
  (hbytes : (n + m) * bytes ≤ 140737488355328) (hbase : base ≤ w.heap.size)
  (h : ∀ v' w', Owns w' base e size v' (n + m) (xs ++ news) → Below base w w' → w.grownBy w' v.ownBlock → (v'.ownBlock = v.ownBlock ∨ v'.ownBlock = some w.heap.size) → wpList P ops Q rest (a.put o.dst v') w') : wpList P ops Q (o :: rest) a w :=
 BigFrame.wpList_want hw fun _ hK => by
  obtain ⟨v', w', hr, h2, h3, h4⟩ := j2p E base o.type v n xs hown ad m c news hl hnews h1 hbytes hbase
  unfold Oper.wp execOp
  simp only [ho, resolve, invoke, builtin, Sem.run_bind, Sem.run_pure, Result.andThen_ok, List.map_toArray, List.map_cons, List.map_nil, hs, hx, hr]
  exact hK _ _ (h v' w' h2 ((Below.refl base w).grown h3 hbase (fun k hk => (hown.lt k hk).1)) h3 h4)
theorem x1v (w : World) (cs : Array Value) (t : TypeId) : ∀ j u, cs.toList[j]? = some u → (w.alloc (.cells cs t)).cell? ((⟨w.heap.size, 0, none⟩ : Addr).add j) = some u :=
 World.news_of_block (heap_alloc_new w _)
/-! ### []byte(s) -/
theorem j6g (s : ByteArray) (cap : Nat) (h : s.size ≤ cap) : (bytesRow s cap).size = cap := by
 unfold bytesRow
 rw [Array.size_append, Array.size_map, Array.size_replicate]
 have : s.data.size = s.size := rfl
 omega
theorem j6u (s : ByteArray) (cap : Nat) : (bytesRow s cap).toList.take s.size = bvs s.data.toList := by
 unfold bytesRow bvs
 have : s.data.size = s.size := rfl
 simp only [Array.toList_append, Array.toList_map]
 rw [List.take_append_of_le_length (by simp [this]), List.take_of_length_le (by simp [this])]
/-- The world in which []byte(s) has been made, and what it is. -/
theorem x2a (w : World) (s : ByteArray) (src dst e : TypeId) (hs : P.underlying src = some .string) (hd : P.underlying dst = some (.slice e)) (he : P.underlying e = some (.int .u8)) (hm : s.size ≤ 140737488355328) (base : Nat) (hbase : base ≤ w.heap.size) :
  ∃ v w', (convert src dst (.string s)).run P w = .ok v w' ∧ Owns w' base e 1 v s.size (bvs s.data.toList) ∧ Below w.heap.size w w' ∧ ∃ cap, v = .slice (some ⟨w.heap.size, 0, none⟩) s.size cap ∧ s.size ≤ cap ∧ w'.heap.size = w.heap.size + 1 := by
 have hge := grownCap_ge w s.size 0 e
 have hle := grownCap_le_maxLen w s.size 0 e (by unfold maxLen; omega)
 refine ⟨_, _, run_bytes_of_string w src dst e s hs hd he, ⟨by simp [bvs], .inr ⟨w.heap.size, _, _, _, rfl, hbase, heap_alloc_new w.drew _, ?_, hge, hle, ?_, ?_⟩⟩, ?_, ⟨_, rfl, hge, by simp⟩⟩
 ·intro j hj; simp only; omega
 ·rw [j6g _ _ hge, Nat.mul_one]
 ·rw [Nat.mul_one]; exact j6u _ _
 ·exact ((Below.refl _ w).drew).alloc (Nat.le_refl _) _
theorem j7w {ops : Array Oper} {rest : List Oper} {o : Oper} {a : Act} {Q : Exit → Act → World → Prop} (hw : Region.wanted o (yielded ops a.tmps) = true) (src dst e : TypeId) (x : Operand) (ho : o.op = .convert src dst x)
  (hs : P.underlying src = some .string) (hd : P.underlying dst = some (.slice e)) (he : P.underlying e = some (.int .u8)) {s : ByteArray} (hx : a.eval x = .string s) (hm : s.size ≤ 140737488355328) (base : Nat) (hbase : base ≤ w.heap.size)
  (h : ∀ cap w', Owns w' base e 1 (.slice (some ⟨w.heap.size, 0, none⟩) s.size cap) s.size (bvs s.data.toList) → Below w.heap.size w w' → s.size ≤ cap → w'.heap.size = w.heap.size + 1 → wpList P ops Q rest (a.put o.dst (.slice (some ⟨w.heap.size, 0, none⟩) s.size cap)) w') : wpList P ops Q (o :: rest) a w :=
 BigFrame.wpList_want hw fun _ hK => by
  obtain ⟨v, w', hr, h1, h2, cap, rfl, h3, h4⟩ := x2a (P := P) w s src dst e hs hd he hm base hbase
  unfold Oper.wp execOp
  simp only [ho, hx, Sem.run_bind, hr, Result.andThen_ok, Sem.run_pure]
  exact hK _ _ (h cap w' h1 h2 h3 h4)
end
/-- A number in groups of seven bits. -/
def putF : Nat → Nat → List UInt8
 | 0, _ => []
 | f + 1, n => if n < 128 then [UInt8.ofNat n] else UInt8.ofNat (n % 128 + 128) :: putF f (n / 128)
def putL (n : Nat) : List UInt8 := putF 10 n
theorem j3b (f n : Nat) : (putF f n).length ≤ f := by
 induction f generalizing n with
 | zero => simp [putF]
 | succ f ih =>
  simp only [putF]
  split
  ·simp
  ·simp only [List.length_cons]; have := ih (n / 128); omega
def putText (s : List UInt8) : List UInt8 := putL s.length ++ s
/-- The bytes that are laid, then noughts. -/
def bpad (l : List UInt8) (n : Nat) : List UInt8 := l ++ List.replicate (n - l.length) 0
theorem j4d (l : List UInt8) (n : Nat) (h : l.length ≤ n) : (bpad l n).length = n := by simp [bpad]; omega
theorem j3q (l : List UInt8) (n : Nat) (h : l.length < n) (x : UInt8) : (bpad l n).set l.length x = bpad (l ++ [x]) n := by
 unfold bpad
 rw [List.set_append_right _ _ (Nat.le_refl _), Nat.sub_self]
 obtain ⟨m, hm⟩ : ∃ m, n - l.length = m + 1 := ⟨n - l.length - 1, by omega⟩
 rw [hm, List.replicate_succ, List.set_cons_zero, List.append_assoc]
 simp only [List.length_append, List.length_cons, List.length_nil, List.singleton_append]
 congr 3
 omega
theorem Byts.head_text {P : Program} {w : World} {b : Nat} {t : TypeId} {l more : List UInt8} (h : Byts w b t (l ++ more)) (src dst e : TypeId) (n cap : Nat) (hn : l.length = n) (hs : P.underlying src = some (.slice e)) (he : P.underlying e = some (.int .u8)) (hd : P.underlying dst = some .string) :
  (convert src dst (.slice (some ⟨b, 0, none⟩) n cap)).run P w = .ok (.string ⟨l.toArray⟩) w := by
 subst hn
 refine run_convert_bytes_back w src dst e ⟨b, 0, none⟩ cap l hs he hd (fun j hj => ?_)
 have hadd : (⟨b, 0, none⟩ : Addr).add j = ⟨b, j, none⟩ := by unfold Addr.add; split <;> simp_all
 rw [hadd, h.cell (by simp; omega)]
 simp [List.getElem?_append_left hj, hj]
theorem or128 (n : Nat) : bits .or .u8 ((n : Int) % 256) 128 = ((n % 128 + 128 : Nat) : Int) := by
 have e : (n : Int) % 256 = ((n % 256 : Nat) : Int) := by omega
 rw [e, show (128 : Int) = ((128 : Nat) : Int) by rfl, u8_or_nat _ 128 (by omega) (by omega)]
 congr 1
 have : ∀ m : Fin 256, m.1 ||| 128 = m.1 % 128 + 128 := by decide +kernel
 have h := this ⟨n % 256, by omega⟩
 simp only at h
 rw [h]
 omega
theorem j9h (n0 : Nat) (w : World) (hn : n0 < 18446744073709551616) :
    Calls Tryz.prog 76 #[.int .u64 n0] w fun e w' => e = .returned (.string ⟨(putL n0).toArray⟩) ∧ Below w.heap.size w w' := by
  obtain ⟨R, hR⟩ : ∃ R, R = putL n0 := ⟨_, rfl⟩
  rw [← hR]
  have HR := hide hR
  clear hR
  have HN := hide hn
  clear hn
  go_enter Tryz.func76, Tryz.ntmps76
  go_wp2_with fail
  have r0 : Byts (w.alloc (.cells (bvs (bpad [] 10)).toArray 184)) w.heap.size 184 (bpad [] 10) := Arr.new w _ _
  have hb := below1 w (.cells (bvs (bpad [] 10)).toArray 184)
  show Code.wp _ _ _ _ (w.alloc (.cells (bvs (bpad [] 10)).toArray 184))
  generalize w.alloc (.cells (bvs (bpad [] 10)).toArray 184) = W at *
  go_loopw [0, 4] (fun m i wr => ∃ (n k : Nat) (pre : List UInt8), m = .int .u64 n ∧ i = .int .i64 k ∧ k ≤ 9 ∧ n < 2 ^ (64 - 7 * k) ∧ pre.length = k ∧ R = pre ++ putF (10 - k) n ∧ Byts wr w.heap.size 184 (bpad pre 10) ∧ Below w.heap.size w wr) (fun m _ _ => (RowKit.intOf m).toNat)
  case atStart => exact ⟨n0, 0, [], rfl, rfl, by omega, by have := HN.out; omega, rfl, HR.out, r0, hb⟩
  case round =>
    obtain ⟨n, k, pre, rfl, rfl, hk, hnk, hpl, hpre, q0, qb⟩ := hrel
    have HNK := hide hnk
    have HPL := hide hpl
    have HPRE := hide hpre
    clear hnk hpl hpre
    have t0 := Arr.thaw q0 k
    have c0 := q0.cell (i := k) (by rw [j4d _ _ (by rw [HPL.out]; omega)]; omega)
    by_cases hge : 128 ≤ n
    · have hk9 : k < 9 := by
        rcases Nat.lt_or_ge k 9 with h | h
        · exact h
        · have : k = 9 := by omega
          subst this
          have := HNK.out
          simp at this
          omega
      have HN2 : Hid (n / 128 < 2 ^ (64 - 7 * (k + 1))) := by
        unfold Hid
        have h := HNK.out
        rw [show 64 - 7 * k = (64 - 7 * (k + 1)) + 7 by omega, Nat.pow_add] at h
        exact Nat.div_lt_of_lt_mul (by rw [Nat.mul_comm]; exact h)
      have HP2 : Hid (R = (pre ++ [UInt8.ofNat (n % 128 + 128)]) ++ putF (10 - (k + 1)) (n / 128)) := by
        unfold Hid
        rw [HPRE.out, show 10 - k = (10 - (k + 1)) + 1 by omega]
        simp only [putF]
        rw [if_neg (by omega)]
        simp
      have d1 := Byts.set q0 k (UInt8.ofNat (n % 128 + 128))
      have en := j3q pre 10 (by rw [HPL.out]; omega) (UInt8.ofNat (n % 128 + 128))
      rw [HPL.out] at en
      have e8 : ((UInt8.ofNat (n % 128 + 128)).toNat : Int) = ((n % 128 + 128 : Nat) : Int) := by rw [UInt8.toNat_ofNat']; omega
      rw [en, e8] at d1
      have o1 := or128 n
      generalize n % 128 + 128 = y at *
      have d2 := qb.setCell (p := ⟨w.heap.size, k, none⟩) (Nat.le_refl _) (.int .u8 (y : Int))
      have i0 : (k : Int) < 10 := by omega
      have i1 : (128 : Int) ≤ (n : Int) := by omega
      have HD : Hid (n / 128 < n) := by unfold Hid; omega
      clear en e8 q0 qb
      go_wp2_with fail
      go_roundw
      case rel => exact ⟨n / 128, k + 1, pre ++ [UInt8.ofNat y], by simp, by simp, by omega, HN2.out, by simp [HPL.out], HP2.out, d1, d2⟩
      case measure => simp [RowKit.intOf]; omega
    · have hlt : n < 128 := by omega
      have HP2 : Hid (R = pre ++ [UInt8.ofNat n]) := by
        unfold Hid
        rw [HPRE.out, show 10 - k = (9 - k) + 1 by omega]
        simp only [putF]
        rw [if_pos hlt]
      have d1 := Byts.set q0 k (UInt8.ofNat n)
      have en := j3q pre 10 (by rw [HPL.out]; omega) (UInt8.ofNat n)
      rw [HPL.out] at en
      have e8 : ((UInt8.ofNat n).toNat : Int) = (n : Int) := by rw [UInt8.toNat_ofNat']; omega
      rw [en, e8] at d1
      have m1 : (n : Int) % 256 = (n : Int) := by omega
      have i0 : (k : Int) < 10 := by omega
      have i1 : (n : Int) < 128 := by omega
      have ht := Byts.head_text (P := Tryz.prog) d1 93 9 5 (k + 1) 10 (by simp [HPL.out]) Tryz.underlying93 Tryz.underlying5 Tryz.underlying9
      have d2 := qb.setCell (p := ⟨w.heap.size, k, none⟩) (Nat.le_refl _) (.int .u8 (n : Int))
      have i5 : (k : Int) + 1 ≤ 10 := by omega
      have i6 : 0 ≤ (k : Int) + 1 := by omega
      clear en e8 q0 qb d1
      go_wp2_with fail
      go_ret
      exact ⟨by rw [HP2.out]; rfl, d2⟩
theorem q0g (n : Nat) : (putL n).length ≤ 10 := j3b 10 n
theorem z2r (m : Int) (n : Nat) (w : World) (h : m = (n : Nat)) (hn : n < 18446744073709551616) : Calls Tryz.prog 76 #[.int .u64 m] w fun e w' => e = .returned (.string ⟨(putL n).toArray⟩) ∧ Below w.heap.size w w' := h ▸ j9h n w hn
theorem q9h (s : ByteArray) (w : World) (hs : s.size ≤ 1099511627776) :
  Calls Tryz.prog 77 #[.string s] w fun e w' => e = .returned (.string ⟨(putText s.data.toList).toArray⟩) ∧ Below w.heap.size w w' := by
 have hl := q0g s.size
 have c1 : ¬ 9223372036854775807 < (⟨(putL s.size).toArray⟩ : ByteArray).size + s.size := by
  have : (⟨(putL s.size).toArray⟩ : ByteArray).size = (putL s.size).length := rfl
  omega
 have HE : Hid ((⟨(putL s.size).toArray⟩ : ByteArray) ++ s = ⟨(putText s.data.toList).toArray⟩) := by
  unfold Hid putText
  apply ByteArray.ext
  have : s.data.toList.length = s.size := by simp
  rw [this]
  simp
 have HC := hide (fun w => z2r (s.size : Int) s.size w rfl (by omega))
 clear hl
 generalize (⟨(putL s.size).toArray⟩ : ByteArray) = pl at *
 generalize (⟨(putText s.data.toList).toArray⟩ : ByteArray) = R at *
 replace c1 := hide c1
 go_enter Tryz.func77, Tryz.ntmps77
 go_wp2_with fail
 refine (HC.out _).mono ?_
 rintro _ w1 ⟨rfl, hb1⟩
 have c2 := c1.out
 have he := HE.out
 go_wp2_with fail
 go_ret
 exact ⟨rfl, hb1⟩
/-- A value that is a slice of texts. -/
def Strs (w : World) (v : Value) (ps : List ByteArray) : Prop :=
 ∃ a cap, v = .slice a ps.length cap ∧ ∀ i, i < ps.length → ∃ g off, a = some ⟨g, off, none⟩ ∧ g < w.heap.size ∧ w.cell? ⟨g, off + i, none⟩ = some (.string (ps.getD i ByteArray.empty))
def tellL (ps : List ByteArray) : List UInt8 := ps.flatMap fun s => putText s.data.toList
def ofL (tag : ByteArray) (ps : List ByteArray) : List UInt8 := sha (putText tag.data.toList ++ tellL ps)
theorem q7x (s : ByteArray) : s.size ≤ (putText s.data.toList).length := by
 have : s.data.toList.length = s.size := by simp
 simp only [putText, List.length_append]
 omega
theorem j5m (ps : List ByteArray) (s : ByteArray) (h : s ∈ ps) : s.size ≤ (tellL ps).length := by
 induction ps with
 | nil => cases h
 | cons a ps ih =>
  simp only [tellL, List.flatMap_cons, List.length_append]
  rcases List.mem_cons.1 h with rfl | h
  ·have := q7x s; omega
  ·have := ih h
   simp only [tellL] at this
   omega
/-- A builder is as it was in every later world. -/
theorem q5b {T e : TypeId} {B b : Nat} {bs : List Value} {w w' : World} (h : Lib.IsBuilder T e B b bs w) (hb : Below w.heap.size w w') : Lib.IsBuilder T e B b bs w' := by
 have key : ∀ p, Lib.BuilderAt T e B b p bs w → Lib.BuilderAt T e B b p bs w' := by
  rintro p ⟨hB, v, hbk, hown, hne⟩
  have hlt : b < w.heap.size := (Array.getElem?_eq_some_iff.1 hbk).1
  refine ⟨hB, v, by rw [hb.block b hlt]; exact hbk, ?_, hne⟩
  obtain ⟨hl, h⟩ := hown
  refine ⟨hl, ?_⟩
  rcases h with h | ⟨g, cap, cur, hv, hg, hgk, r⟩
  ·exact Or.inl h
  ·have hglt : g < w.heap.size := (Array.getElem?_eq_some_iff.1 hgk).1
   exact Or.inr ⟨g, cap, cur, hv, hg, by rw [hb.block g hglt]; exact hgk, r⟩
 rcases h with h | h
 ·exact Or.inl (key _ h)
 ·exact Or.inr (key _ h)
theorem z1i (tag : ByteArray) (ps : List ByteArray) (v : Value) (w : World) (hv0 : Strs w v ps) (hn : ps.length < 4611686018427387904) (hs : (putText tag.data.toList ++ tellL ps).length ≤ 1099511627776) :
  Calls Tryz.prog 61 #[.string tag, v] w fun e w' => e = .returned (hv (ofL tag ps)) ∧ Below w.heap.size w w' := by
 obtain ⟨R, hR⟩ : ∃ R, R = ofL tag ps := ⟨_, rfl⟩
 rw [← hR]
 have HR := hide hR
 clear hR
 have HS := hide hs
 clear hs
 have hst : ∀ i, i < ps.length → (ps.getD i ByteArray.empty).size ≤ 1099511627776 := by
  intro i hi
  have h := HS.out
  have hm : ps.getD i ByteArray.empty ∈ ps := by rw [List.getD_eq_getElem?_getD, List.getElem?_eq_getElem hi]; exact List.getElem_mem hi
  have := j5m ps _ hm
  rw [List.length_append] at h
  omega
 have htg : tag.size ≤ 1099511627776 := by
  have h := HS.out
  have h2 := q7x tag
  rw [List.length_append] at h
  omega
 have HST := hide hst
 clear hst
 obtain ⟨a, cap, rfl, hcell⟩ := hv0
 have HCELL := hide hcell
 clear hcell
 have q0 := hide (Arr.alloc (Arr.new w (bvs zero32) 34) (.cells #[.pointer none, .slice none 0 0] 113))
 have hb := hide (below2 w (.cells (bvs zero32).toArray 34) (.cells #[.pointer none, .slice none 0 0] 113))
 have hbu : Hid (Lib.IsBuilder 113 5 (w.heap.size + 1) (w.heap.size + 1) (Lib.byteCells []) ((w.alloc (.cells (bvs zero32).toArray 34)).alloc (.cells #[.pointer none, .slice none 0 0] 113))) := by
  refine Or.inl ⟨by omega, .slice none 0 0, ?_, World.ownsRow_nil _ _ _ _, by simp [Value.ownBlock]⟩
  exact Arr.new2 w (.cells (bvs zero32).toArray 34) [.pointer none, .slice none 0 0] 113
 go_enter Tryz.func61, Tryz.ntmps61
 go_wp2_with fail
 show Calls _ _ _ ((w.alloc (.cells (bvs zero32).toArray 34)).alloc (.cells #[.pointer none, .slice none 0 0] 113)) _
 have hW : w.heap.size + 2 = ((w.alloc (.cells (bvs zero32).toArray 34)).alloc (.cells #[.pointer none, .slice none 0 0] 113)).heap.size := by simp
 replace hW := hide hW
 generalize (w.alloc (.cells (bvs zero32).toArray 34)).alloc (.cells #[.pointer none, .slice none 0 0] 113) = W at *
 refine (q9h tag _ htg).mono ?_
 rintro _ w1 ⟨rfl, hb1⟩
 have hle1 := hb1.size
 have hwl := hW.out
 have b1 := q5b hbu.out hb1
 go_wp2_with fail
 have HTL : Hid ((putText tag.data.toList).length ≤ 1099511627776) := by have h := HS.out; rw [List.length_append] at h; unfold Hid; omega
 refine (writeString _ _ _ _ _ b1 (by have := HTL.out; rw [Lib.byteCells_length]; show 0 + (putText tag.data.toList).length ≤ _; omega) (by omega)).mono ?_
 rintro _ w2 ⟨rfl, b2, hb2⟩
 have HK : Below (w.heap.size + 1) W w2 := (hb1.mono (by omega)).trans hb2
 have q2 : Arr w2 w.heap.size 34 (bvs zero32) := Arr.below q0.out HK (by omega)
 have hw2 : Below w.heap.size w w2 := hb.out.trans (HK.mono (by omega))
 have b3 : Lib.IsBuilder 113 5 (w.heap.size + 1) (w.heap.size + 1) (Lib.byteCells (putText tag.data.toList ++ tellL (ps.take 0))) w2 := by
  refine Or.inr ?_
  have e : Lib.byteCells (putText tag.data.toList ++ tellL (ps.take 0)) = Lib.byteCells [] ++ Lib.strCells ⟨(putText tag.data.toList).toArray⟩ := by simp [Lib.byteCells, Lib.strCells, tellL]
  rw [e]; exact b2
 have hws : w.heap.size + 1 ≤ w2.heap.size := by have := HK.size; omega
 clear b1 b2 hb1 hb2 hle1 hwl HK
 go_wp2_with fail
 go_loopw [13] (fun i wr => ∃ k : Nat, k ≤ ps.length ∧ i = .int .i64 k ∧ Lib.IsBuilder 113 5 (w.heap.size + 1) (w.heap.size + 1) (Lib.byteCells (putText tag.data.toList ++ tellL (ps.take k))) wr ∧ Arr wr w.heap.size 34 (bvs zero32) ∧ w.heap.size + 1 ≤ wr.heap.size ∧ Below w.heap.size w wr) (fun i _ => ps.length - (RowKit.intOf i).toNat)
 case atStart => exact ⟨0, by omega, rfl, b3, q2, hws, hw2⟩
 case round =>
  obtain ⟨k, hk, rfl, qb, qo, qs, qw⟩ := hrel
  by_cases hlt : k < ps.length
  ·obtain ⟨g, off, rfl, hg, hc⟩ := HCELL.out k hlt
   have c1 : wr.cell? ⟨g, off + k, none⟩ = some (.string (ps.getD k ByteArray.empty)) := (qw.cell (p := ⟨g, off + k, none⟩) hg).trans hc
   have hz := HST.out k hlt
   have HT : Hid (tellL (ps.take (k + 1)) = tellL (ps.take k) ++ putText (ps.getD k ByteArray.empty).data.toList) := by
    unfold Hid tellL
    rw [List.take_succ_eq_append_getElem hlt, List.flatMap_append]
    simp [hlt]
   have HL : Hid ((putText tag.data.toList ++ tellL (ps.take k)).length + (putText (ps.getD k ByteArray.empty).data.toList).length ≤ 1099511627776) := by
    have h1 := HS.out
    have h2 : tellL ps = tellL (ps.take (k + 1)) ++ tellL (ps.drop (k + 1)) := by unfold tellL; rw [← List.flatMap_append, List.take_append_drop]
    rw [h2, HT.out] at h1
    simp only [List.length_append] at h1 ⊢
    unfold Hid
    omega
   generalize ps.getD k ByteArray.empty = pk at *
   clear hc
   go_wp2_with fail
   refine (q9h pk _ hz).mono ?_
   rintro _ w3 ⟨rfl, hb3⟩
   have e1 := hb3.size
   have b4 := q5b qb hb3
   have q4 := Arr.later qo hb3
   have w4 := qw.trans (hb3.mono qw.size)
   clear c1 qb qo qw
   go_wp2_with fail
   refine (writeString _ _ _ _ _ b4 (by have := HL.out; rw [Lib.byteCells_length]; show _ + (putText pk.data.toList).length ≤ _; omega) (by omega)).mono ?_
   rintro _ w5 ⟨rfl, b5, hb5⟩
   have q5 := Arr.below q4 hb5 (by omega)
   have w6 := w4.trans (hb5.mono (by omega))
   have e2 := hb5.size
   have b6 : Lib.IsBuilder 113 5 (w.heap.size + 1) (w.heap.size + 1) (Lib.byteCells (putText tag.data.toList ++ tellL (ps.take (k + 1)))) w5 := by
    refine Or.inr ?_
    rw [HT.out]
    have e : Lib.byteCells (putText tag.data.toList ++ (tellL (ps.take k) ++ putText pk.data.toList)) = Lib.byteCells (putText tag.data.toList ++ tellL (ps.take k)) ++ Lib.strCells ⟨(putText pk.data.toList).toArray⟩ := by simp [Lib.byteCells, Lib.strCells]
    rw [e]; exact b5
   have e3 : w.heap.size + 1 ≤ w5.heap.size := by omega
   clear b4 b5 q4 w4 hb3 hb5 e1 e2
   go_wp2_with fail
   go_roundw
   case rel => exact ⟨k + 1, by omega, by simp, b6, q5, e3, w6⟩
   case measure => simp [RowKit.intOf]; omega
  ·have hkn : k = ps.length := by omega
   subst hkn
   rw [List.take_length] at qb
   obtain ⟨all, hall⟩ : ∃ all, all = putText tag.data.toList ++ tellL ps := ⟨_, rfl⟩
   rw [← hall] at qb HS
   have HRA : Hid (R = sha all) := by rw [HR.out, hall]; rfl
   clear hall
   go_wp2_with fail
   refine (Tryz.Builder_String_any _ _ _ _ qb qs).mono ?_
   rintro _ w7 ⟨rfl, hb7⟩
   have q7 := Arr.below qo hb7 (by omega)
   have w8 := qw.trans (hb7.mono (by omega))
   clear qb qo qw
   go_wp2_with fail
   refine (z1q _ _ (by show all.length ≤ _; exact HS.out)).mono ?_
   rintro _ w9 ⟨rfl, hb9⟩
   have q9 := hide (Arr.later q7 hb9)
   have w10 := w8.trans (hb9.mono w8.size)
   have e : sha ((⟨all.toArray⟩ : ByteArray).data.toList) = R := HRA.out.symm
   have hlR : Hid (R.length = 32) := by rw [HRA.out]; exact j0p _
   rw [e]
   clear e
   have y1 := hide (Arr.row q9.out (bvs R))
   have y2 := hide (q0p w10 (Nat.le_refl w.heap.size) (bvs R).toArray)
   have y5 : Hid ((Tryz.prog.info? 34).map (·.size) = some (bvs R).toArray.size) := by rw [show (bvs R).toArray.size = 32 by simp [bvs, hlR.out]]; unfold Hid; kernel_rfl
   have y6 : Hid ((bvs zero32).toArray.size = (bvs R).toArray.size) := by unfold Hid; simp [bvs, hlR.out, zero32]
   have y7 := hide (show (bvs R).toArray.all (·.oneCell') = true by simpa using q1f R)
   clear q7 w8 hb9 w10
   go_wp2_with (refine wpList_store_row rfl 34 (.tmp 4) (.tmp 22) rfl w.heap.size (bvs R).toArray rfl rfl 34 _ q9.out y5.out y6.out y7.out ?_)
   exact bodyPost_ret (v := .agg (bvs R).toArray) (results_cell_row rfl _ _ w.heap.size 34 _ (0, 0) _ rfl y1.out Tryz.underlying34 rfl y5.out) rfl ⟨rfl, y2.out⟩
end Go.Proofs.YtbbfnpfkbbpjgaaGreat
namespace Go.Proofs.YtbbfnpfkbbpjgaaGreat
open Go.RowKit
set_option linter.unusedVariables false
set_option linter.unusedSimpArgs false
set_option maxRecDepth 100000
set_option maxHeartbeats 4000000
section
variable {P : Program} {ops : Array Oper} {md : Region.Mode} {C : World → Prop} {Q : Exit → Act → World → Prop}
/-- One operation in one world: the value v, the world as it was; or a call that hands back v and only makes new memory. -/
def flUpon (P : Program) (w : World) (v : Value) : Result Next → Prop
 | .ok (.value u) w' => w' = w ∧ u = v
 | .ok (.enter f args) w' => w' = w ∧ Calls P f args w (fun e w'' => e = .returned v ∧ Below w.heap.size w w'')
 | _ => False
def YieldsFl (P : Program) (ops : Array Oper) (C : World → Prop) (o : Oper) (v : Value) (a : Act) : Prop :=
 (Region.wanted o (yielded ops a.tmps) = true ∧ ∀ w, C w → flUpon P w v ((execOp a.eval o).run P w)) ∨
 (Region.wanted o (yielded ops a.tmps) = false ∧ v = undef)
theorem YieldsFl.of_same {o : Oper} {v : Value} {a a' : Act} (hy : YieldsFl P ops C o v a) (he : execOp a'.eval o = execOp a.eval o)
  (hw : Region.wanted o (yielded ops a'.tmps) = Region.wanted o (yielded ops a.tmps)) : YieldsFl P ops C o v a' := by
 unfold YieldsFl at *
 rw [he, hw]
 exact hy
theorem YieldsFl.wpOp {i : Nat} {o : Oper} {v : Value} {a : Act} (hi : ops[i]? = some o) (hy : YieldsFl P ops C o v a) {K : Act → World → Prop} {w : World} (hC : C w)
  (h : ∀ w', Below w.heap.size w w' → K (a.put o.dst v) w') : wpOp P ops Q i K a w := by
 unfold Go.wpOp
 simp only [hi]
 rcases hy with ⟨hw, hv⟩ | ⟨hw, rfl⟩
 ·simp only [hw, if_true]
  refine .inl ?_
  have h1 := hv w hC
  unfold Oper.wp
  generalize (execOp a.eval o).run P w = r at *
  cases r with
  | ok n w' =>
   cases n <;> simp only [flUpon] at h1 <;> simp only [Oper.upon]
   case value u => obtain ⟨rfl, rfl⟩ := h1; exact h _ (Below.refl _ _)
   case enter f args =>
    obtain ⟨rfl, hc⟩ := h1
    exact hc.mono fun e w'' ⟨he, hb⟩ => by subst he; exact h _ hb
  | halt x w' => simp only [flUpon] at h1
 ·simp only [hw, Bool.false_eq_true, if_false]; exact h _ (Below.refl _ _)
theorem x2x {j : Nat} {oi oj : Oper} {v : Value} (hj : ops[j]? = some oj) (hap : oi.apart ops oj = true)
  (hsi : ∀ cs b, oi.op ≠ .select cs b) (hsj : ∀ cs b, oj.op ≠ .select cs b)
  (hQ : ∀ c a w, Q (.panic c) (a.put oi.dst v) w → Q (.panic c) a w) {K : Act → World → Prop} {a : Act} {w : World}
  (hy : YieldsFl P ops C oi v a) (h : wpOp P ops Q j K (a.put oi.dst v) w) :
  wpOp P ops Q j (fun a' w' => YieldsFl P ops C oi v a' ∧ K (a'.put oi.dst v) w') a w := by
 obtain ⟨h1, h2, h3⟩ := Oper.apart_spec hap
 have keep : ∀ (a : Act), YieldsFl P ops C oi v a → ∀ u, YieldsFl P ops C oi v (a.put oj.dst u) := fun a hy u =>
  hy.of_same (execOp_put oi hsi a oj.dst u h3) (wanted_put oi a oj.dst u h3)
 have keepD : ∀ d, YieldsFl P ops C oi v { a with defers := d :: a.defers } := fun d => hy.of_same rfl rfl
 unfold wpOp at *
 simp only [hj] at *
 rw [wanted_put oj a oi.dst v h1] at h
 split
 ·rename_i hw
  simp only [hw, if_true] at h
  rcases h with h | ⟨hasks, hlets⟩
  case inr => exact .inr ⟨by unfold Oper.asks at *; rw [execOp_put oj hsj a oi.dst v h1] at hasks; exact hasks, hlets⟩
  refine .inl ?_
  unfold Oper.wp at *
  rw [execOp_put oj hsj a oi.dst v h1] at h
  generalize (execOp a.eval oj).run P w = r at *
  cases r with
  | ok n w' =>
   cases n <;> simp only [Oper.upon] at h ⊢
   case value u => exact ⟨keep a hy u, by rw [← Act.put_comm a v u h2]; exact h⟩
   case skip => exact ⟨keep a hy _, by rw [← Act.put_comm a v undef h2]; exact h⟩
   case defer d =>
    refine ⟨keep _ (keepD d) _, ?_⟩
    rw [← Act.put_comm _ v undef h2, ← Act.put_defers]
    exact h
   case enter f args =>
    refine Calls.mono h fun e w'' he => ?_
    cases e with
    | returned u => exact ⟨keep a hy u, by rw [← Act.put_comm a v u h2]; exact he⟩
    | panicked c => exact hQ _ _ _ he
    | outgrown => exact he
   case row row args => exact Rows.mono h fun u w'' he => ⟨keep a hy u, by rw [← Act.put_comm a v u h2]; exact he⟩
  | halt x w' =>
   cases x <;> simp only [Oper.upon] at h ⊢
   case panic u => exact hQ _ _ _ h
 ·rename_i hw
  simp only [hw] at h
  exact ⟨keep a hy _, by rw [← Act.put_comm a v undef h2]; exact h⟩
/-! ### The schedule: each step: operations that look, then a call that may come up anywhere (true), or one that comes up alone (false) -/
/-- One call that may come up anywhere. -/
def Floats (P : Program) (ops : Array Oper) (C : World → Prop) (o : Oper) (a : Act) (K : Act → Prop) : Prop := ∃ v, YieldsFl P ops C o v a ∧ K (a.put o.dst v)
/-- The function has a body of its own. -/
def bodied (P : Program) (f : FuncId) : Bool := match P.funcs[f]? with
 | some fn => !(fn.name == "runtime.NumGoroutine") && fn.body.isSome
 | none => false
theorem x3k {f : FuncId} (h : bodied P f = true) (args : Array Value) (w : World) : (callFunc f args).run P w = .ok (.enter f args) w := by
 unfold bodied at h
 split at h
 ·rename_i fn hf
  simp only [Bool.and_eq_true, Bool.not_eq_true', beq_eq_false_iff_ne, ne_eq] at h
  obtain ⟨h1, h2⟩ := h
  cases hb : fn.body with
  | none => rw [hb] at h2; cases h2
  | some c => simp [callFunc, hf, h1, hb]
 ·cases h
/-- A call of a named function, that may come up anywhere. -/
theorem q7p {o : Oper} {a : Act} {K : Act → Prop} (hw : Region.wanted o (yielded ops a.tmps) = true) {f : FuncId} {xs : Array Operand} {ats : Array TypeId} (ho : o.op = .call { callee := .value (.func f), args := xs, argTypes := ats }) (hf : bodied P f = true) {args : Array Value}
  (hargs : xs.map a.eval = args) {v : Value} (h : ∀ w, C w → Calls P f args w fun e w'' => e = .returned v ∧ Below w.heap.size w w'') (hk : K (a.put o.dst v)) : Floats P ops C o a K := by
 refine ⟨v, .inl ⟨hw, fun w hC => ?_⟩, hk⟩
 obtain ⟨dst, op, type, pos, after, guard⟩ := o
 simp only at ho
 subst ho
 rw [execOp_call_go, hargs]
 have e : (#[] ++ args ++ #[] : Array Value) = args := by simp
 first | rw [e]
 have := h w hC
 rw [x3k hf]
 exact ⟨rfl, this⟩
end
/-- A world of which K holds. -/
structure Kept (K : World → Prop) where
 w : World
 ok : K w
theorem kept {K : World → Prop} {w : World} (h : K w) : ∃ s : Kept K, w = s.w := ⟨⟨w, h⟩, rfl⟩
end Go.Proofs.YtbbfnpfkbbpjgaaGreat
