/- Origins in memory. -/
import Derived.Test.YtbbfnpfkbbpjgaaOBSlEl
import Derived.Test.YtbbfnpfkbbpjgaaOBMOf
import Derived.Test.YtbbfnpfkbbpjgaaOBTakeW
import Derived.Test.YtbbfnpfkbbpjgaaOBMCells
import Derived.Test.YtbbfnpfkbbpjgaaOBHdAt
namespace Go.Proofs.Ytbbfnpfkbbpjgaa
open Go.RowKit Go.Lib
set_option linter.unusedVariables false
set_option linter.unusedSimpArgs false

def origCs (ns : List Nat) (nc : List UInt8) (v1 v2 v3 : Value) : List Value := numCs ns ++ (bvs nc ++ [v1, v2, v3])
def origV (ns : List Nat) (nc : List UInt8) (v1 v2 v3 : Value) : Value := .agg (origCs ns nc v1 v2 v3).toArray
/-- An origin's numbers, in their order. -/
def origNs (o : Orig) : List Nat := o.k :: o.epoch :: o.period :: o.rateA :: o.rateB :: (o.params ++ [o.reserves, o.treasury])
theorem origNs_length {o : Orig} (h : o.Ok) : (origNs o).length = 15 := by
  unfold origNs
  simp only [List.length_cons, List.length_append, h.plen, List.length_nil]
theorem origNs_u64 {o : Orig} (h : o.Ok) : ∀ x ∈ origNs o, U64 x := by
  intro x hx
  unfold origNs at hx
  simp only [List.mem_cons, List.mem_append, List.not_mem_nil, or_false] at hx
  rcases hx with rfl | rfl | rfl | rfl | rfl | hx | rfl | rfl
  · exact h.k
  · exact h.epoch
  · exact h.period
  · exact h.rateA
  · exact h.rateB
  · exact h.params x hx
  · exact h.reserves
  · exact h.treasury
theorem numCs_length (L : List Nat) : (numCs L).length = L.length := List.length_map ..
theorem numCs_one (L : List Nat) : ∀ v ∈ numCs L, v.oneCell' = true := by
  intro v hv
  unfold numCs at hv
  obtain ⟨x, _, rfl⟩ := List.mem_map.1 hv
  rfl
theorem origCs_length {ns : List Nat} {nc : List UInt8} {v1 v2 v3 : Value} (h : ns.length = 15) (h2 : nc.length = 32) : (origCs ns nc v1 v2 v3).length = 50 := by
  unfold origCs
  simp only [List.length_append, numCs_length, bvs_length, h, h2, List.length_cons, List.length_nil]
theorem origCs_one {ns : List Nat} {nc : List UInt8} {v1 v2 v3 : Value} (o1 : v1.oneCell' = true) (o2 : v2.oneCell' = true) (o3 : v3.oneCell' = true) : ∀ v ∈ origCs ns nc v1 v2 v3, v.oneCell' = true := by
  intro v hv
  unfold origCs at hv
  simp only [List.mem_append, List.mem_cons, List.not_mem_nil, or_false] at hv
  rcases hv with hv | hv | rfl | rfl | rfl
  · exact numCs_one _ v hv
  · exact List.all_eq_true.1 (bvs_one nc) v hv
  · exact o1
  · exact o2
  · exact o3
/-- v is the origin o. -/
def OrigIs (w : World) (v : Value) (o : Orig) : Prop := ∃ v1 v2 v3, v = origV (origNs o) o.nonce v1 v2 v3 ∧ Sl w v1 65 (o.coins.map outCs) ∧ Sl w v2 67 (o.seats.map seatCs) ∧ Sl w v3 64 (o.trusts.map trustCs) ∧ o.Ok
theorem OrigIs.later {w w' : World} {v : Value} {o : Orig} (h : OrigIs w v o) (hb : Below w.heap.size w w') : OrigIs w' v o := by
  obtain ⟨v1, v2, v3, h0, h1, h2, h3, h6⟩ := h
  exact ⟨v1, v2, v3, h0, h1.later hb, h2.later hb, h3.later hb, h6⟩
theorem OrigIs.ok {w : World} {v : Value} {o : Orig} (h : OrigIs w v o) : o.Ok := by obtain ⟨_, _, _, _, _, _, _, ok⟩ := h; exact ok
theorem origSize : (Try.prog.info? 32).map (·.size) = some 50 := by kernel_rfl
/-- A variable that holds an origin. -/
structure OAt (w : World) (g : Nat) (ns : List Nat) (nc : List UInt8) (v1 v2 v3 : Value) : Prop where
  len : ns.length = 15
  nl : nc.length = 32
  o1 : v1.oneCell' = true
  o2 : v2.oneCell' = true
  o3 : v3.oneCell' = true
  arr : Arr w g 32 (origCs ns nc v1 v2 v3)
section
variable {w w' : World} {g : Nat} {ns : List Nat} {nc : List UInt8} {v1 v2 v3 : Value}
theorem OAt.lt (h : OAt w g ns nc v1 v2 v3) : g < w.heap.size := Arr.lt h.arr
theorem OAt.later (h : OAt w g ns nc v1 v2 v3) (hb : Below w.heap.size w w') : OAt w' g ns nc v1 v2 v3 := ⟨h.len, h.nl, h.o1, h.o2, h.o3, h.arr.later hb⟩
theorem OAt.touch {S : Nat → Prop} (h : OAt w g ns nc v1 v2 v3) (ht : Touch S w w') (hS : ¬ S g) : OAt w' g ns nc v1 v2 v3 := ⟨h.len, h.nl, h.o1, h.o2, h.o3, h.arr.touch ht hS⟩
theorem OAt.tt {g' : Nat} (h : OAt w g ns nc v1 v2 v3) (ht : Touch (fun y => y = g') w w') (hS : ¬ g = g' := by omega) : OAt w' g ns nc v1 v2 v3 := h.touch ht hS
theorem OAt.keep {k : Nat} (h : OAt w k ns nc v1 v2 v3) (hk : KeepT g w w') (hn : k ≠ g) : OAt w' k ns nc v1 v2 v3 := ⟨h.len, h.nl, h.o1, h.o2, h.o3, hk k _ _ hn (by decide) h.arr⟩
theorem OAt.cells (h : OAt w g ns nc v1 v2 v3) : Cells w g 0 (origCs ns nc v1 v2 v3) := Cells.arr h.arr
theorem OAt.nums (h : OAt w g ns nc v1 v2 v3) : Cells w g 0 (numCs ns) := Cells.left h.cells
theorem OAt.num (h : OAt w g ns nc v1 v2 v3) {i x : Nat} (hx : ns[i]? = some x) : w.cell? ⟨g, i, none⟩ = some (.int .u64 (x : Int)) := by
  have := h.nums i (.int .u64 (x : Int)) (by unfold numCs; rw [List.getElem?_map, hx]; rfl)
  rwa [Nat.zero_add] at this
theorem OAt.rest (h : OAt w g ns nc v1 v2 v3) : Cells w g 15 (bvs nc ++ [v1, v2, v3]) := by
  have := Cells.right (n := 15) h.cells (by rw [numCs_length, h.len])
  rwa [Nat.zero_add] at this
theorem OAt.nonce (h : OAt w g ns nc v1 v2 v3) : Cells w g 15 (bvs nc) := Cells.left h.rest
theorem OAt.tl (h : OAt w g ns nc v1 v2 v3) : Cells w g 47 [v1, v2, v3] := Cells.right (n := 32) h.rest (by rw [bvs_length, h.nl])
theorem OAt.s1 (h : OAt w g ns nc v1 v2 v3) : w.cell? ⟨g, 47, none⟩ = some v1 := h.tl.one
theorem OAt.s2 (h : OAt w g ns nc v1 v2 v3) : w.cell? ⟨g, 48, none⟩ = some v2 := h.tl.tail.one
theorem OAt.s3 (h : OAt w g ns nc v1 v2 v3) : w.cell? ⟨g, 49, none⟩ = some v3 := h.tl.tail.tail.one
end
theorem origZ {ns : List Nat} {nc : List UInt8} {v1 v2 v3 : Value} (h : ns.length = 15) (h2 : nc.length = 32) : (Try.prog.info? 32).map (·.size) = some (origCs ns nc v1 v2 v3).length := by rw [origCs_length h h2]; exact origSize
def ns0 : List Nat := [0, 0, 0, 0, 0, 0, 0, 0, 0, 0, 0, 0, 0, 0, 0]
theorem origZero : (Try.prog.info? 32).bind (·.zero) = some (origV ns0 zero32 nilS nilS nilS) := by kernel_rfl
theorem origBuilt0 : Try.prog.built 32 [] = some (origCs ns0 zero32 nilS nilS nilS).toArray := by kernel_rfl
section
variable {ops : Array Oper} {rest : List Oper} {o : Oper} {a : Act} {w w0 : World} {Q : Exit → Act → World → Prop} {K : Act → Prop} {ns ms : List Nat} {nc mc : List UInt8} {v1 v2 v3 u1 u2 u3 : Value}
theorem wpl_box_orig (hw : Region.wanted o (yielded ops a.tmps) = true) (x : Operand) (ho : o.op = .box 32 x) (hx : a.eval x = origV ns nc v1 v2 v3) (hl : ns.length = 15) (hn : nc.length = 32) (o1 : v1.oneCell' = true) (o2 : v2.oneCell' = true) (o3 : v3.oneCell' = true)
    (hk : ∀ w2 g, w.heap.size ≤ g → OAt w2 g ns nc v1 v2 v3 → Below w.heap.size w w2 → wpList Try.prog ops Q rest (a.put o.dst (.pointer (some ⟨g, 0, none⟩))) w2) : wpList Try.prog ops Q (o :: rest) a w :=
  wpl_box hw 32 x ho hx (cs := origCs ns nc v1 v2 v3) (by simp [origV, Value.cells]) (fun w2 g hg h hb => hk w2 g hg ⟨hl, hn, o1, o2, o3, h⟩ hb)
theorem wpl_ld_orig (hw : Region.wanted o (yielded ops a.tmps) = true) (x : Operand) (ho : o.op = .load 32 x) {g : Nat} (hx : a.eval x = .pointer (some ⟨g, 0, none⟩)) (h : OAt w g ns nc v1 v2 v3)
    (hk : wpList Try.prog ops Q rest (a.put o.dst (origV ns nc v1 v2 v3)) w) : wpList Try.prog ops Q (o :: rest) a w :=
  wpl_load_cells hw 32 x ho hx h.cells _ Try.underlying32 rfl (origZ h.len h.nl) hk
theorem since_ld_orig (x : Operand) (ho : o.op = .load 32 x) {g : Nat} (hx : a.eval x = .pointer (some ⟨g, 0, none⟩)) (h : OAt w0 g ns nc v1 v2 v3) (hk : K (a.put o.dst (origV ns nc v1 v2 v3))) :
    o.quiet Try.prog a (fun w' => ∃ s : Since w0, w' = s.w) K := since_load_cells 32 x ho hx h.cells _ Try.underlying32 rfl (origZ h.len h.nl) hk
theorem wpl_mk_orig (hw : Region.wanted o (yielded ops a.tmps) = true) (ho : o.op = .alloc 32)
    (hk : ∀ w2 g, w.heap.size ≤ g → OAt w2 g ns0 zero32 nilS nilS nilS → Below w.heap.size w w2 → wpList Try.prog ops Q rest (a.put o.dst (.pointer (some ⟨g, 0, none⟩))) w2) : wpList Try.prog ops Q (o :: rest) a w :=
  wpl_mk hw 32 ho origZero (cs := origCs ns0 zero32 nilS nilS nilS) (by simp [origV, Value.cells]) (fun w2 g hg h hb => hk w2 g hg ⟨rfl, rfl, rfl, rfl, rfl, h⟩ hb)
theorem wpl_set_orig (hgd : o.guard = none) (x y : Operand) (ho : o.op = .store 32 x y) {g : Nat} (hx : a.eval x = .pointer (some ⟨g, 0, none⟩)) (hy : a.eval y = origV ns nc v1 v2 v3) (hl : ns.length = 15) (hn : nc.length = 32) (o1 : v1.oneCell' = true) (o2 : v2.oneCell' = true) (o3 : v3.oneCell' = true) (h : OAt w g ms mc u1 u2 u3)
    (hk : ∀ w2, OAt w2 g ns nc v1 v2 v3 → Touch (fun b => b = g) w w2 → wpList Try.prog ops Q rest (a.put o.dst undef) w2) : wpList Try.prog ops Q (o :: rest) a w :=
  wpl_fill hgd 32 x y ho hx hy h.arr (origZ hl hn) (by rw [origCs_length hl hn, origCs_length h.len h.nl]) (origCs_one o1 o2 o3) (fun w2 ha ht => hk w2 ⟨hl, hn, o1, o2, o3, ha⟩ ht)
/-- A number stored. -/
theorem wpl_set_onum (hgd : o.guard = none) (x y : Operand) (ho : o.op = .store 23 x y) {g i n : Nat} (hx : a.eval x = .pointer (some ⟨g, i, none⟩)) (hy : a.eval y = .int .u64 n) (hi : i < 15) (h : OAt w g ns nc v1 v2 v3)
    (hk : ∀ w2, OAt w2 g (ns.set i n) nc v1 v2 v3 → Touch (fun b => b = g) w w2 → wpList Try.prog ops Q rest (a.put o.dst undef) w2) : wpList Try.prog ops Q (o :: rest) a w :=
  wpl_set_one hgd 23 x y ho hx hy h.arr (by rw [origCs_length h.len h.nl]; omega) u64Sz rfl rfl (fun w2 ha ht => hk w2 ⟨by rw [List.length_set]; exact h.len, h.nl, h.o1, h.o2, h.o3, by
    have e : (origCs ns nc v1 v2 v3).set i (.int .u64 (n : Int)) = origCs (ns.set i n) nc v1 v2 v3 := by
      unfold origCs numCs
      rw [List.set_append, if_pos (by rw [List.length_map, h.len]; exact hi), List.map_set]
    rw [e] at ha
    exact ha⟩ ht)
theorem wpl_set_ononce (hgd : o.guard = none) (x y : Operand) (ho : o.op = .store 27 x y) {g : Nat} {l : List UInt8} (hx : a.eval x = .pointer (some ⟨g, 15, none⟩)) (hy : a.eval y = hv l) (hl : l.length = 32) (h : OAt w g ns nc v1 v2 v3)
    (hk : ∀ w2, OAt w2 g ns l v1 v2 v3 → Touch (fun b => b = g) w w2 → wpList Try.prog ops Q rest (a.put o.dst undef) w2) : wpList Try.prog ops Q (o :: rest) a w :=
  wpl_put_at hgd 27 x y ho hx hy h.arr (by rw [bvs_length, hl]; exact hashSz32) (by rw [origCs_length h.len h.nl, bvs_length, hl]; omega) (fun v hv => List.all_eq_true.1 (bvs_one l) v hv) (origCs ns l v1 v2 v3) (by
    rw [put_mid (A := numCs ns) (X := bvs nc) (B := [v1, v2, v3]) (by simp [origCs]) (by rw [numCs_length, h.len]) (by rw [bvs_length, bvs_length, hl, h.nl])]
    simp [origCs]) (fun w2 ha ht => hk w2 ⟨h.len, hl, h.o1, h.o2, h.o3, ha⟩ ht)
theorem oset1 {ty : TypeId} (hi : (Try.prog.info? ty).map (·.size) = some 1) (hgd : o.guard = none) (x y : Operand) (ho : o.op = .store ty x y) {g n : Nat} {v : Value} (hx : a.eval x = .pointer (some ⟨g, n, none⟩)) (hy : a.eval y = v) (h : OAt w g ns nc v1 v2 v3) (hn : n < 50) (hc : v.cells = #[v]) (hv : v.oneCell' = true)
    (hk : ∀ w2, Arr w2 g 32 ((origCs ns nc v1 v2 v3).set n v) → Touch (fun b => b = g) w w2 → wpList Try.prog ops Q rest (a.put o.dst undef) w2) : wpList Try.prog ops Q (o :: rest) a w :=
  wpl_set_one hgd ty x y ho hx hy h.arr (by rw [origCs_length h.len h.nl]; exact hn) hi hc hv hk
theorem slSzSeat : (Try.prog.info? 29).map (·.size) = some 1 := by kernel_rfl
theorem slSzTrust : (Try.prog.info? 30).map (·.size) = some 1 := by kernel_rfl
theorem slSzOut : (Try.prog.info? 28).map (·.size) = some 1 := by kernel_rfl
theorem wpl_set_ocoins (hgd : o.guard = none) (x y : Operand) (ho : o.op = .store 28 x y) {g : Nat} {v : Value} (hx : a.eval x = .pointer (some ⟨g, 47, none⟩)) (hy : a.eval y = v) (hc : v.cells = #[v]) (hv : v.oneCell' = true) (h : OAt w g ns nc v1 v2 v3)
    (hk : ∀ w2, OAt w2 g ns nc v v2 v3 → Touch (fun b => b = g) w w2 → wpList Try.prog ops Q rest (a.put o.dst undef) w2) : wpList Try.prog ops Q (o :: rest) a w :=
  oset1 slSzOut hgd x y ho hx hy h (by decide) hc hv (fun w2 ha ht => hk w2 ⟨h.len, h.nl, hv, h.o2, h.o3, by
    have e : (origCs ns nc v1 v2 v3).set 47 v = origCs ns nc v v2 v3 := by
      rw [set_mid (A := numCs ns ++ bvs nc) (u := v1) (B := [v2, v3]) (by simp [origCs]) (by rw [List.length_append, numCs_length, bvs_length, h.len, h.nl])]
      simp [origCs]
    rw [e] at ha
    exact ha⟩ ht)
theorem wpl_set_oseats (hgd : o.guard = none) (x y : Operand) (ho : o.op = .store 29 x y) {g : Nat} {v : Value} (hx : a.eval x = .pointer (some ⟨g, 48, none⟩)) (hy : a.eval y = v) (hc : v.cells = #[v]) (hv : v.oneCell' = true) (h : OAt w g ns nc v1 v2 v3)
    (hk : ∀ w2, OAt w2 g ns nc v1 v v3 → Touch (fun b => b = g) w w2 → wpList Try.prog ops Q rest (a.put o.dst undef) w2) : wpList Try.prog ops Q (o :: rest) a w :=
  oset1 slSzSeat hgd x y ho hx hy h (by decide) hc hv (fun w2 ha ht => hk w2 ⟨h.len, h.nl, h.o1, hv, h.o3, by
    have e : (origCs ns nc v1 v2 v3).set 48 v = origCs ns nc v1 v v3 := by
      rw [set_mid (A := numCs ns ++ (bvs nc ++ [v1])) (u := v2) (B := [v3]) (by simp [origCs]) (by simp only [List.length_append, numCs_length, bvs_length, h.len, h.nl, List.length_cons, List.length_nil])]
      simp [origCs]
    rw [e] at ha
    exact ha⟩ ht)
theorem wpl_set_otrusts (hgd : o.guard = none) (x y : Operand) (ho : o.op = .store 30 x y) {g : Nat} {v : Value} (hx : a.eval x = .pointer (some ⟨g, 49, none⟩)) (hy : a.eval y = v) (hc : v.cells = #[v]) (hv : v.oneCell' = true) (h : OAt w g ns nc v1 v2 v3)
    (hk : ∀ w2, OAt w2 g ns nc v1 v2 v → Touch (fun b => b = g) w w2 → wpList Try.prog ops Q rest (a.put o.dst undef) w2) : wpList Try.prog ops Q (o :: rest) a w :=
  oset1 slSzTrust hgd x y ho hx hy h (by decide) hc hv (fun w2 ha ht => hk w2 ⟨h.len, h.nl, h.o1, h.o2, hv, by
    have e : (origCs ns nc v1 v2 v3).set 49 v = origCs ns nc v1 v2 v := by
      rw [set_mid (A := numCs ns ++ (bvs nc ++ [v1, v2])) (u := v3) (B := []) (by simp [origCs]) (by simp only [List.length_append, numCs_length, bvs_length, h.len, h.nl, List.length_cons, List.length_nil])]
      simp [origCs]
    rw [e] at ha
    exact ha⟩ ht)
end
theorem ret_orig {fn : Func} {q : Tmp} (hr : fn.results = #[.cell q 32]) (tmps : Array Value) (w : World) {g : Nat} {ns : List Nat} {nc : List UInt8} {v1 v2 v3 : Value} (hp : tmps.getD q undef = .pointer (some ⟨g, 0, none⟩)) (h : OAt w g ns nc v1 v2 v3) :
    (results fn tmps).run Try.prog w = .ok (origV ns nc v1 v2 v3) w :=
  results_cell_row hr tmps w g 32 (origCs ns nc v1 v2 v3).toArray (0, 0) _ hp h.arr Try.underlying32 rfl (by rw [List.size_toArray]; exact origZ h.len h.nl)
theorem ret_orig_tmp {fn : Func} {q u : Tmp} (hr : fn.results = #[.cell q 32, .tmp u]) (tmps : Array Value) (w : World) {g : Nat} {ns : List Nat} {nc : List UInt8} {v1 v2 v3 : Value} (v : Value) (hp : tmps.getD q undef = .pointer (some ⟨g, 0, none⟩)) (hu : tmps.getD u undef = v) (h : OAt w g ns nc v1 v2 v3) :
    (results fn tmps).run Try.prog w = .ok (.tuple #[origV ns nc v1 v2 v3, v]) w :=
  results_row_tmp hr tmps w g 32 (origCs ns nc v1 v2 v3).toArray (0, 0) _ v hp hu h.arr Try.underlying32 rfl (by rw [List.size_toArray]; exact origZ h.len h.nl)
theorem seatElem : ElemOf Try.prog 29 93 67 88 := elOf Try.underlying29 (by decide) (by kernel_rfl)
theorem trustElem : ElemOf Try.prog 30 97 64 64 := elOf Try.underlying30 (by decide) (by kernel_rfl)
/-- An origin whose parts are one's own, from B on. -/
def OrigOwn (w : World) (B : Nat) (v : Value) (o : Orig) : Prop := ∃ v1 v2 v3, v = origV (origNs o) o.nonce v1 v2 v3 ∧ OwnR w B 48 65 v1 (o.coins.map outCs) [] ∧ OwnR w B 93 67 v2 (o.seats.map seatCs) [] ∧ OwnR w B 97 64 v3 (o.trusts.map trustCs) [] ∧ o.Ok
theorem OrigOwn.is {w : World} {B : Nat} {v : Value} {o : Orig} (h : OrigOwn w B v o) : OrigIs w v o := by
  obtain ⟨v1, v2, v3, h0, h1, h2, h3, h6⟩ := h
  exact ⟨v1, v2, v3, h0, h1.sl, h2.sl, h3.sl, h6⟩
theorem OrigOwn.later {w w' : World} {B : Nat} {v : Value} {o : Orig} (h : OrigOwn w B v o) (hb : Below w.heap.size w w') : OrigOwn w' B v o := by
  obtain ⟨v1, v2, v3, h0, h1, h2, h3, h6⟩ := h
  exact ⟨v1, v2, v3, h0, h1.later hb, h2.later hb, h3.later hb, h6⟩
theorem OrigOwn.tt {w w' : World} {B g : Nat} {v : Value} {o : Orig} (h : OrigOwn w B v o) (ht : Touch (fun b => b = g) w w') (hg : g < B) : OrigOwn w' B v o := by
  obtain ⟨v1, v2, v3, h0, h1, h2, h3, h6⟩ := h
  exact ⟨v1, v2, v3, h0, h1.tg ht hg, h2.tg ht hg, h3.tg ht hg, h6⟩
theorem OrigOwn.base {w : World} {B B' : Nat} {v : Value} {o : Orig} (h : OrigOwn w B v o) (hB : B' ≤ B) : OrigOwn w B' v o := by
  obtain ⟨v1, v2, v3, h0, h1, h2, h3, h6⟩ := h
  exact ⟨v1, v2, v3, h0, h1.base hB, h2.base hB, h3.base hB, h6⟩
theorem OrigOwn.nil (w : World) (B : Nat) : OrigOwn w B (origV ns0 zero32 nilS nilS nilS) orig0 := ⟨nilS, nilS, nilS, rfl, OwnR.nil _ _ _ _, OwnR.nil _ _ _ _, OwnR.nil _ _ _ _, orig0_ok⟩
theorem origIs_mk {w : World} {o : Orig} {v1 v2 v3 : Value} (h1 : Sl w v1 65 (o.coins.map outCs)) (h2 : Sl w v2 67 (o.seats.map seatCs)) (h3 : Sl w v3 64 (o.trusts.map trustCs)) (ok : o.Ok) : OrigIs w (origV (origNs o) o.nonce v1 v2 v3) o := ⟨v1, v2, v3, rfl, h1, h2, h3, ok⟩
end Go.Proofs.Ytbbfnpfkbbpjgaa

/- A hash, byte by byte. -/
namespace Go.Proofs.Ytbbfnpfkbbpjgaa
open Go.RowKit Go.Lib
set_option linter.unusedVariables false
set_option linter.unusedSimpArgs false

theorem cons_of9 {n : Nat} {l : List UInt8} (h : l.length = n + 1) : ∃ x t, l = x :: t ∧ t.length = n := by
  cases l with
  | nil => cases h
  | cons x t => exact ⟨x, t, rfl, by simpa using h⟩
theorem hash_bytes {l : List UInt8} (h : l.length = 32) : ∃ x0 x1 x2 x3 x4 x5 x6 x7 x8 x9 x10 x11 x12 x13 x14 x15 x16 x17 x18 x19 x20 x21 x22 x23 x24 x25 x26 x27 x28 x29 x30 x31 : UInt8, l = [x0, x1, x2, x3, x4, x5, x6, x7, x8, x9, x10, x11, x12, x13, x14, x15, x16, x17, x18, x19, x20, x21, x22, x23, x24, x25, x26, x27, x28, x29, x30, x31] := by
  obtain ⟨x0, t0, rfl, h0⟩ := cons_of9 h
  obtain ⟨x1, t1, rfl, h1⟩ := cons_of9 h0
  obtain ⟨x2, t2, rfl, h2⟩ := cons_of9 h1
  obtain ⟨x3, t3, rfl, h3⟩ := cons_of9 h2
  obtain ⟨x4, t4, rfl, h4⟩ := cons_of9 h3
  obtain ⟨x5, t5, rfl, h5⟩ := cons_of9 h4
  obtain ⟨x6, t6, rfl, h6⟩ := cons_of9 h5
  obtain ⟨x7, t7, rfl, h7⟩ := cons_of9 h6
  obtain ⟨x8, t8, rfl, h8⟩ := cons_of9 h7
  obtain ⟨x9, t9, rfl, h9⟩ := cons_of9 h8
  obtain ⟨x10, t10, rfl, h10⟩ := cons_of9 h9
  obtain ⟨x11, t11, rfl, h11⟩ := cons_of9 h10
  obtain ⟨x12, t12, rfl, h12⟩ := cons_of9 h11
  obtain ⟨x13, t13, rfl, h13⟩ := cons_of9 h12
  obtain ⟨x14, t14, rfl, h14⟩ := cons_of9 h13
  obtain ⟨x15, t15, rfl, h15⟩ := cons_of9 h14
  obtain ⟨x16, t16, rfl, h16⟩ := cons_of9 h15
  obtain ⟨x17, t17, rfl, h17⟩ := cons_of9 h16
  obtain ⟨x18, t18, rfl, h18⟩ := cons_of9 h17
  obtain ⟨x19, t19, rfl, h19⟩ := cons_of9 h18
  obtain ⟨x20, t20, rfl, h20⟩ := cons_of9 h19
  obtain ⟨x21, t21, rfl, h21⟩ := cons_of9 h20
  obtain ⟨x22, t22, rfl, h22⟩ := cons_of9 h21
  obtain ⟨x23, t23, rfl, h23⟩ := cons_of9 h22
  obtain ⟨x24, t24, rfl, h24⟩ := cons_of9 h23
  obtain ⟨x25, t25, rfl, h25⟩ := cons_of9 h24
  obtain ⟨x26, t26, rfl, h26⟩ := cons_of9 h25
  obtain ⟨x27, t27, rfl, h27⟩ := cons_of9 h26
  obtain ⟨x28, t28, rfl, h28⟩ := cons_of9 h27
  obtain ⟨x29, t29, rfl, h29⟩ := cons_of9 h28
  obtain ⟨x30, t30, rfl, h30⟩ := cons_of9 h29
  obtain ⟨x31, t31, rfl, h31⟩ := cons_of9 h30
  obtain rfl := List.eq_nil_of_length_eq_zero h31
  exact ⟨x0, x1, x2, x3, x4, x5, x6, x7, x8, x9, x10, x11, x12, x13, x14, x15, x16, x17, x18, x19, x20, x21, x22, x23, x24, x25, x26, x27, x28, x29, x30, x31, rfl⟩
end Go.Proofs.Ytbbfnpfkbbpjgaa

/- deed.Take: the closure that takes a thing that is handed on. -/
namespace Go.Proofs.Ytbbfnpfkbbpjgaa
open Go.RowKit Go.Lib
set_option linter.unusedVariables false
set_option linter.unusedSimpArgs false

theorem outBuilt (l m : List UInt8) (n : Nat) (h : l.length = 32) (k : m.length = 32) : Try.prog.built 48 [(0, hv l), (1, hv m), (2, .int .u64 n)] = some (outCs ⟨l, m, n⟩).toArray := by
  obtain ⟨x0, x1, x2, x3, x4, x5, x6, x7, x8, x9, x10, x11, x12, x13, x14, x15, x16, x17, x18, x19, x20, x21, x22, x23, x24, x25, x26, x27, x28, x29, x30, x31, rfl⟩ := hash_bytes h
  obtain ⟨y0, y1, y2, y3, y4, y5, y6, y7, y8, y9, y10, y11, y12, y13, y14, y15, y16, y17, y18, y19, y20, y21, y22, y23, y24, y25, y26, y27, y28, y29, y30, y31, rfl⟩ := hash_bytes k
  kernel_rfl
end Go.Proofs.Ytbbfnpfkbbpjgaa
