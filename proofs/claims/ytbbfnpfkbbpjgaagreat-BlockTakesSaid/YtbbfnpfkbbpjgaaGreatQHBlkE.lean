/- Two heads compared. -/
import Derived.Test.YtbbfnpfkbbpjgaaGreatQHDeed5
import Derived.Test.YtbbfnpfkbbpjgaaGreatQHTakeL
import Derived.Test.YtbbfnpfkbbpjgaaGreatQHRowE
import Derived.Test.YtbbfnpfkbbpjgaaGreatQHHdAt
namespace Go.Proofs.YtbbfnpfkbbpjgaaGreat
open Go.RowKit Go.Lib
set_option linter.unusedVariables false
set_option linter.unusedSimpArgs false
set_option maxRecDepth 100000
set_option maxHeartbeats 4000000
theorem x6u (d : Nat) (r q : Rt) (h : r.Ok) (k : q.Ok) (w : World) : (Op.equalIn (d + 3) 47 (rtV r) (rtV q)).run Tryz.prog w = .ok (samRt r q) w := by
 unfold rtV
 rw [run_equalIn_struct w (d + 2) 47 _ _ (by kernel_rfl) (by kernel_rfl)]
 have hb : (bvs r.hot).length = 32 := by rw [q0c, h.hot]
 have kb : (bvs q.hot).length = 32 := by rw [q0c, k.hot]
 have e32 : (rtCs r).toArray[32]? = some (.int .u64 r.counter) := by unfold rtCs; simp [List.getElem?_append, hb]
 have e33 : (rtCs r).toArray[33]? = some (.int .u64 r.start) := by unfold rtCs; simp [List.getElem?_append, hb]
 have e34 : (rtCs r).toArray[34]? = some (.string r.sig) := by unfold rtCs; simp [List.getElem?_append, hb]
 have e0 : ((rtCs r).drop 0).take 32 = bvs r.hot := by unfold rtCs; rw [List.drop_zero, take_left hb]
 have g32 : (rtCs q).toArray[32]? = some (.int .u64 q.counter) := by unfold rtCs; simp [List.getElem?_append, kb]
 have g33 : (rtCs q).toArray[33]? = some (.int .u64 q.start) := by unfold rtCs; simp [List.getElem?_append, kb]
 have g34 : (rtCs q).toArray[34]? = some (.string q.sig) := by unfold rtCs; simp [List.getElem?_append, kb]
 have g0 : ((rtCs q).drop 0).take 32 = bvs q.hot := by unfold rtCs; rw [List.drop_zero, take_left kb]
 unfold Program.fieldsOf
 rw [Tryz.underlying47]
 unfold samRt
 refine q1n (by decide) (q1o e0 w) (q1o g0 w) (q2g d r.hot q.hot h.hot k.hot w) ?_
 refine q1n (by decide) (run_part_plain w q1l e32) (run_part_plain w q1l g32) (by rw [run_equalIn_int w (d + 1) 24 .u64 .u64 _ _ Tryz.underlying24, q3n]) ?_
 refine q1n (by decide) (run_part_plain w q1l e33) (run_part_plain w q1l g33) (by rw [run_equalIn_int w (d + 1) 24 .u64 .u64 _ _ Tryz.underlying24, q3n]) ?_
 exact q5j (by decide) (run_part_plain w q7a e34) (run_part_plain w q7a g34) (by rw [run_equalIn_string w (d + 1) 9 _ _ Tryz.underlying9, x0s])
theorem j7t (d : Nat) (x y : Hd) (h : x.Ok) (k : y.Ok) (w : World) : (Op.equalIn (d + 4) 49 (hdV x) (hdV y)).run Tryz.prog w = .ok (samHd x y) w := by
 unfold hdV
 rw [run_equalIn_struct w (d + 3) 49 _ _ (by kernel_rfl) (by kernel_rfl)]
 have e0 : (hdCs x).toArray[0]? = some (.int .u64 x.slot) := q5o (l := (hdCs x).tail) rfl
 have e1 : (hdCs x).toArray[1]? = some (.int .u64 x.number) := q5o (l := (hdCs x).tail.tail) rfl
 have e2 : ((hdCs x).drop 2).take 32 = bvs x.prev := by rw [j6t, take_left (by rw [q0c, h.prev])]
 have e34 : ((hdCs x).drop 34).take 32 = bvs x.pool := by rw [j3s h, take_left (by rw [q0c, h.pool])]
 have e66 : ((hdCs x).drop 66).take 32 = bvs x.body := by rw [j3w h, take_left (by rw [q0c, h.body])]
 have e98 := q5o (q7y h)
 have e99 : (hdCs x).toArray[99]? = some (.int .u64 x.many) := q5o (l := rtCs x.right ++ [.string x.sig]) (by rw [show 99 = 98 + 1 by rfl, ← List.drop_drop, q7y h]; rfl)
 have e100 : ((hdCs x).drop 100).take 35 = rtCs x.right := by rw [j1m h, take_left (q1j h.right)]
 have e135 := q5o (j5i h)
 have g0 : (hdCs y).toArray[0]? = some (.int .u64 y.slot) := q5o (l := (hdCs y).tail) rfl
 have g1 : (hdCs y).toArray[1]? = some (.int .u64 y.number) := q5o (l := (hdCs y).tail.tail) rfl
 have g2 : ((hdCs y).drop 2).take 32 = bvs y.prev := by rw [j6t, take_left (by rw [q0c, k.prev])]
 have g34 : ((hdCs y).drop 34).take 32 = bvs y.pool := by rw [j3s k, take_left (by rw [q0c, k.pool])]
 have g66 : ((hdCs y).drop 66).take 32 = bvs y.body := by rw [j3w k, take_left (by rw [q0c, k.body])]
 have g98 := q5o (q7y k)
 have g99 : (hdCs y).toArray[99]? = some (.int .u64 y.many) := q5o (l := rtCs y.right ++ [.string y.sig]) (by rw [show 99 = 98 + 1 by rfl, ← List.drop_drop, q7y k]; rfl)
 have g100 : ((hdCs y).drop 100).take 35 = rtCs y.right := by rw [j1m k, take_left (q1j k.right)]
 have g135 := q5o (j5i k)
 have U : ∀ n m : Nat, (Op.equalIn (d + 3) 24 (.int .u64 (n : Int)) (.int .u64 (m : Int))).run Tryz.prog w = .ok (decide (n = m)) w := fun n m => by rw [run_equalIn_int w (d + 2) 24 .u64 .u64 _ _ Tryz.underlying24, q3n]
 unfold Program.fieldsOf
 rw [Tryz.underlying49]
 unfold samHd
 refine q1n (by decide) (run_part_plain w q1l e0) (run_part_plain w q1l g0) (U _ _) ?_
 refine q1n (by decide) (run_part_plain w q1l e1) (run_part_plain w q1l g1) (U _ _) ?_
 refine q1n (by decide) (q1o e2 w) (q1o g2 w) (q2g (d + 1) x.prev y.prev h.prev k.prev w) ?_
 refine q1n (by decide) (q1o e34 w) (q1o g34 w) (q2g (d + 1) x.pool y.pool h.pool k.pool w) ?_
 refine q1n (by decide) (q1o e66 w) (q1o g66 w) (q2g (d + 1) x.body y.body h.body k.body w) ?_
 refine q1n (by decide) (run_part_plain w q1l e98) (run_part_plain w q1l g98) (U _ _) ?_
 refine q1n (by decide) (run_part_plain w q1l e99) (run_part_plain w q1l g99) (U _ _) ?_
 refine q1n (by decide) (x4z e100 w) (x4z g100 w) (x6u d x.right y.right h.right k.right w) ?_
 exact q5j (by decide) (run_part_plain w q7a e135) (run_part_plain w q7a g135) (by rw [run_equalIn_string w (d + 2) 9 _ _ Tryz.underlying9, x0s])
section
variable {ops : Array Oper} {rest : List Oper} {o : Oper} {a : Act} {w : World} {Q : Exit → Act → World → Prop} {K : Act → Prop}
theorem j8o (hw : Region.wanted o (yielded ops a.tmps) = true) (p q : Operand) (ho : o.op = .binOp .eql 49 p q 49) {x y : Hd} (hx : a.eval p = hdV x) (hy : a.eval q = hdV y) (kx : x.Ok) (ky : y.Ok) (hk : wpList Tryz.prog ops Q rest (a.put o.dst (.bool (samHd x y))) w) : wpList Tryz.prog ops Q (o :: rest) a w :=
 q3l hw _ (x0h 49 p q ho hx hy (by kernel_rfl) (fun w => j7t 9996 x y kx ky w) w) hk
theorem j4i (hw : Region.wanted o (yielded ops a.tmps) = true) (p q : Operand) (ho : o.op = .binOp .neq 49 p q 49) {x y : Hd} (hx : a.eval p = hdV x) (hy : a.eval q = hdV y) (kx : x.Ok) (ky : y.Ok) (hk : wpList Tryz.prog ops Q rest (a.put o.dst (.bool (!(samHd x y)))) w) : wpList Tryz.prog ops Q (o :: rest) a w :=
 q3l hw _ (j0q 49 p q ho hx hy (by kernel_rfl) (fun w => j7t 9996 x y kx ky w) w) hk
end
theorem u64Size : (Tryz.prog.info? 24).map (·.size) = some 1 := by kernel_rfl
theorem hashSz : (Tryz.prog.info? 34).map (·.size) = some 32 := by kernel_rfl
theorem rtSet32 {r : Rt} (h : r.Ok) (n : Nat) : (rtCs r).set 32 (.int .u64 n) = rtCs { r with counter := n } := by
 have e : (bvs r.hot).length = 32 := by rw [q0c, h.hot]
 unfold rtCs
 simp [List.set_append, e]
theorem rtSet33 {r : Rt} (h : r.Ok) (n : Nat) : (rtCs r).set 33 (.int .u64 n) = rtCs { r with start := n } := by
 have e : (bvs r.hot).length = 32 := by rw [q0c, h.hot]
 unfold rtCs
 simp [List.set_append, e]
section
variable {ops : Array Oper} {rest : List Oper} {o : Oper} {a : Act} {w w0 : World} {Q : Exit → Act → World → Prop}
theorem hdSet0 {d : Hd} (h : d.Ok) (n : Nat) : (hdCs d).set 0 (.int .u64 n) = hdCs { d with slot := n } := by
 have e1 : (bvs d.prev).length = 32 := by rw [q0c, h.prev]
 have e2 : (bvs d.pool).length = 32 := by rw [q0c, h.pool]
 have e3 : (bvs d.body).length = 32 := by rw [q0c, h.body]
 have e4 := q1j h.right
 unfold hdCs
 simp [List.set_append, e1, e2, e3, e4]
theorem j4e (hgd : o.guard = none) (x y : Operand) (ho : o.op = .store 24 x y) {g : Nat} {d : Hd} {n : Nat} (hx : a.eval x = .pointer (some ⟨g, 0, none⟩)) (hy : a.eval y = .int .u64 n) (hn : n < 18446744073709551616) (h : HdAt w g d)
  (hk : ∀ w2, HdAt w2 g { d with slot := n } → Touch (fun b => b = g) w w2 → wpList Tryz.prog ops Q rest (a.put o.dst undef) w2) : wpList Tryz.prog ops Q (o :: rest) a w :=
 q0i hgd 24 x y ho hx hy h.arr (by rw [q0t h.ok]; omega) u64Size rfl rfl (fun w2 ha ht => hk w2 ⟨⟨hn, h.ok.number, h.ok.prev, h.ok.pool, h.ok.body, h.ok.size, h.ok.many, h.ok.right⟩, by rw [hdSet0 h.ok] at ha; exact ha⟩ ht)
theorem hdSet1 {d : Hd} (h : d.Ok) (n : Nat) : (hdCs d).set 1 (.int .u64 n) = hdCs { d with number := n } := by
 have e1 : (bvs d.prev).length = 32 := by rw [q0c, h.prev]
 have e2 : (bvs d.pool).length = 32 := by rw [q0c, h.pool]
 have e3 : (bvs d.body).length = 32 := by rw [q0c, h.body]
 have e4 := q1j h.right
 unfold hdCs
 simp [List.set_append, e1, e2, e3, e4]
theorem j1c (hgd : o.guard = none) (x y : Operand) (ho : o.op = .store 24 x y) {g : Nat} {d : Hd} {n : Nat} (hx : a.eval x = .pointer (some ⟨g, 1, none⟩)) (hy : a.eval y = .int .u64 n) (hn : n < 18446744073709551616) (h : HdAt w g d)
  (hk : ∀ w2, HdAt w2 g { d with number := n } → Touch (fun b => b = g) w w2 → wpList Tryz.prog ops Q rest (a.put o.dst undef) w2) : wpList Tryz.prog ops Q (o :: rest) a w :=
 q0i hgd 24 x y ho hx hy h.arr (by rw [q0t h.ok]; omega) u64Size rfl rfl (fun w2 ha ht => hk w2 ⟨⟨h.ok.slot, hn, h.ok.prev, h.ok.pool, h.ok.body, h.ok.size, h.ok.many, h.ok.right⟩, by rw [hdSet1 h.ok] at ha; exact ha⟩ ht)
theorem hdSet98 {d : Hd} (h : d.Ok) (n : Nat) : (hdCs d).set 98 (.int .u64 n) = hdCs { d with size := n } := by
 have e1 : (bvs d.prev).length = 32 := by rw [q0c, h.prev]
 have e2 : (bvs d.pool).length = 32 := by rw [q0c, h.pool]
 have e3 : (bvs d.body).length = 32 := by rw [q0c, h.body]
 have e4 := q1j h.right
 unfold hdCs
 simp [List.set_append, e1, e2, e3, e4]
theorem j3a (hgd : o.guard = none) (x y : Operand) (ho : o.op = .store 24 x y) {g : Nat} {d : Hd} {n : Nat} (hx : a.eval x = .pointer (some ⟨g, 98, none⟩)) (hy : a.eval y = .int .u64 n) (hn : n < 18446744073709551616) (h : HdAt w g d)
  (hk : ∀ w2, HdAt w2 g { d with size := n } → Touch (fun b => b = g) w w2 → wpList Tryz.prog ops Q rest (a.put o.dst undef) w2) : wpList Tryz.prog ops Q (o :: rest) a w :=
 q0i hgd 24 x y ho hx hy h.arr (by rw [q0t h.ok]; omega) u64Size rfl rfl (fun w2 ha ht => hk w2 ⟨⟨h.ok.slot, h.ok.number, h.ok.prev, h.ok.pool, h.ok.body, hn, h.ok.many, h.ok.right⟩, by rw [hdSet98 h.ok] at ha; exact ha⟩ ht)
theorem hdSet99 {d : Hd} (h : d.Ok) (n : Nat) : (hdCs d).set 99 (.int .u64 n) = hdCs { d with many := n } := by
 have e1 : (bvs d.prev).length = 32 := by rw [q0c, h.prev]
 have e2 : (bvs d.pool).length = 32 := by rw [q0c, h.pool]
 have e3 : (bvs d.body).length = 32 := by rw [q0c, h.body]
 have e4 := q1j h.right
 unfold hdCs
 simp [List.set_append, e1, e2, e3, e4]
theorem j2n (hgd : o.guard = none) (x y : Operand) (ho : o.op = .store 24 x y) {g : Nat} {d : Hd} {n : Nat} (hx : a.eval x = .pointer (some ⟨g, 99, none⟩)) (hy : a.eval y = .int .u64 n) (hn : n < 18446744073709551616) (h : HdAt w g d)
  (hk : ∀ w2, HdAt w2 g { d with many := n } → Touch (fun b => b = g) w w2 → wpList Tryz.prog ops Q rest (a.put o.dst undef) w2) : wpList Tryz.prog ops Q (o :: rest) a w :=
 q0i hgd 24 x y ho hx hy h.arr (by rw [q0t h.ok]; omega) u64Size rfl rfl (fun w2 ha ht => hk w2 ⟨⟨h.ok.slot, h.ok.number, h.ok.prev, h.ok.pool, h.ok.body, h.ok.size, hn, h.ok.right⟩, by rw [hdSet99 h.ok] at ha; exact ha⟩ ht)
theorem hdSet132 {d : Hd} (h : d.Ok) (n : Nat) : (hdCs d).set 132 (.int .u64 n) = hdCs { d with right := { d.right with counter := n } } := by
 have e1 : (bvs d.prev).length = 32 := by rw [q0c, h.prev]
 have e2 : (bvs d.pool).length = 32 := by rw [q0c, h.pool]
 have e3 : (bvs d.body).length = 32 := by rw [q0c, h.body]
 have e4 := q1j h.right
 have e5 := rtSet32 h.right n
 unfold hdCs
 simp [List.set_append, e1, e2, e3, e4, e5]
theorem q9o (hgd : o.guard = none) (x y : Operand) (ho : o.op = .store 24 x y) {g : Nat} {d : Hd} {n : Nat} (hx : a.eval x = .pointer (some ⟨g, 132, none⟩)) (hy : a.eval y = .int .u64 n) (hn : n < 18446744073709551616) (h : HdAt w g d)
  (hk : ∀ w2, HdAt w2 g { d with right := { d.right with counter := n } } → Touch (fun b => b = g) w w2 → wpList Tryz.prog ops Q rest (a.put o.dst undef) w2) : wpList Tryz.prog ops Q (o :: rest) a w :=
 q0i hgd 24 x y ho hx hy h.arr (by rw [q0t h.ok]; omega) u64Size rfl rfl (fun w2 ha ht => hk w2 ⟨⟨h.ok.slot, h.ok.number, h.ok.prev, h.ok.pool, h.ok.body, h.ok.size, h.ok.many, ⟨h.ok.right.hot, hn, h.ok.right.start⟩⟩, by rw [hdSet132 h.ok] at ha; exact ha⟩ ht)
theorem hdSet133 {d : Hd} (h : d.Ok) (n : Nat) : (hdCs d).set 133 (.int .u64 n) = hdCs { d with right := { d.right with start := n } } := by
 have e1 : (bvs d.prev).length = 32 := by rw [q0c, h.prev]
 have e2 : (bvs d.pool).length = 32 := by rw [q0c, h.pool]
 have e3 : (bvs d.body).length = 32 := by rw [q0c, h.body]
 have e4 := q1j h.right
 have e5 := rtSet33 h.right n
 unfold hdCs
 simp [List.set_append, e1, e2, e3, e4, e5]
theorem j2b (hgd : o.guard = none) (x y : Operand) (ho : o.op = .store 24 x y) {g : Nat} {d : Hd} {n : Nat} (hx : a.eval x = .pointer (some ⟨g, 133, none⟩)) (hy : a.eval y = .int .u64 n) (hn : n < 18446744073709551616) (h : HdAt w g d)
  (hk : ∀ w2, HdAt w2 g { d with right := { d.right with start := n } } → Touch (fun b => b = g) w w2 → wpList Tryz.prog ops Q rest (a.put o.dst undef) w2) : wpList Tryz.prog ops Q (o :: rest) a w :=
 q0i hgd 24 x y ho hx hy h.arr (by rw [q0t h.ok]; omega) u64Size rfl rfl (fun w2 ha ht => hk w2 ⟨⟨h.ok.slot, h.ok.number, h.ok.prev, h.ok.pool, h.ok.body, h.ok.size, h.ok.many, ⟨h.ok.right.hot, h.ok.right.counter, hn⟩⟩, by rw [hdSet133 h.ok] at ha; exact ha⟩ ht)
theorem hdSet134 {d : Hd} (h : d.Ok) (s : ByteArray) : (hdCs d).set 134 (.string s) = hdCs { d with right := { d.right with sig := s } } := by
 have e1 : (bvs d.prev).length = 32 := by rw [q0c, h.prev]
 have e2 : (bvs d.pool).length = 32 := by rw [q0c, h.pool]
 have e3 : (bvs d.body).length = 32 := by rw [q0c, h.body]
 have e4 := q1j h.right
 have e5 := rtSigSet h.right s
 unfold hdCs
 simp [List.set_append, e1, e2, e3, e4, e5]
theorem j4c (hgd : o.guard = none) (x y : Operand) (ho : o.op = .store 9 x y) {g : Nat} {d : Hd} {s : ByteArray} (hx : a.eval x = .pointer (some ⟨g, 134, none⟩)) (hy : a.eval y = .string s) (h : HdAt w g d)
  (hk : ∀ w2, HdAt w2 g { d with right := { d.right with sig := s } } → Touch (fun b => b = g) w w2 → wpList Tryz.prog ops Q rest (a.put o.dst undef) w2) : wpList Tryz.prog ops Q (o :: rest) a w :=
 q0i hgd 9 x y ho hx hy h.arr (by rw [q0t h.ok]; omega) strSize rfl rfl (fun w2 ha ht => hk w2 ⟨⟨h.ok.slot, h.ok.number, h.ok.prev, h.ok.pool, h.ok.body, h.ok.size, h.ok.many, ⟨h.ok.right.hot, h.ok.right.counter, h.ok.right.start⟩⟩, by rw [hdSet134 h.ok] at ha; exact ha⟩ ht)
theorem hdPut2 {d : Hd} {l : List UInt8} (h : d.Ok) (hl : l.length = 32) : (hdCs d).take 2 ++ bvs l ++ (hdCs d).drop (2 + (bvs l).length) = hdCs { d with prev := l } := by
 obtain ⟨n, m, p, q, b, s, k, ⟨hh, c, t, g⟩, sg⟩ := d
 have e0 : (bvs l).length = 32 := by rw [q0c, hl]
 have e1 : (bvs p).length = 32 := by rw [q0c]; exact h.prev
 have e2 : (bvs q).length = 32 := by rw [q0c]; exact h.pool
 have e3 : (bvs b).length = 32 := by rw [q0c]; exact h.body
 have e4 : (bvs hh).length = 32 := by rw [q0c]; exact h.right.hot
 rw [e0]
 unfold hdCs rtCs
 simp only
 generalize bvs l = L at *
 generalize bvs p = P at *
 generalize bvs q = Q at *
 generalize bvs b = B at *
 generalize bvs hh = H at *
 have z : ∀ (X Y : List Value), X.length = 32 → (X ++ Y).take 32 = X ∧ (X ++ Y).drop 32 = Y := fun X Y hX => ⟨List.take_left' hX, List.drop_left' hX⟩
 have z2 : ∀ (k : Nat) (X Y : List Value), X.length = 32 → (X ++ Y).take (32 + k) = X ++ Y.take k ∧ (X ++ Y).drop (32 + k) = Y.drop k := fun k X Y hX => ⟨by rw [← hX, List.take_length_add_append], by rw [← hX, List.drop_length_add_append]⟩
 show Value.int .u64 n :: .int .u64 m :: ((P ++ _).take 0 ++ L ++ (P ++ _).drop 32) = _
 rw [(z P _ e1).2, List.take_zero, List.nil_append]
theorem j2y (hgd : o.guard = none) (x y : Operand) (ho : o.op = .store 34 x y) {g : Nat} {d : Hd} {l : List UInt8} (hx : a.eval x = .pointer (some ⟨g, 2, none⟩)) (hy : a.eval y = hv l) (hl : l.length = 32) (h : HdAt w g d)
  (hk : ∀ w2, HdAt w2 g { d with prev := l } → Touch (fun b => b = g) w w2 → wpList Tryz.prog ops Q rest (a.put o.dst undef) w2) : wpList Tryz.prog ops Q (o :: rest) a w :=
 q2r hgd 34 x y ho hx hy h.arr (by rw [q0c, hl]; exact hashSz) (by rw [q0t h.ok, q0c, hl]; omega) (fun v hv => List.all_eq_true.1 (q1f l) v hv) _ (hdPut2 h.ok hl) (fun w2 ha ht => hk w2 ⟨⟨h.ok.slot, h.ok.number, hl, h.ok.pool, h.ok.body, h.ok.size, h.ok.many, h.ok.right⟩, ha⟩ ht)
theorem hdPut34 {d : Hd} {l : List UInt8} (h : d.Ok) (hl : l.length = 32) : (hdCs d).take 34 ++ bvs l ++ (hdCs d).drop (34 + (bvs l).length) = hdCs { d with pool := l } := by
 obtain ⟨n, m, p, q, b, s, k, ⟨hh, c, t, g⟩, sg⟩ := d
 have e0 : (bvs l).length = 32 := by rw [q0c, hl]
 have e1 : (bvs p).length = 32 := by rw [q0c]; exact h.prev
 have e2 : (bvs q).length = 32 := by rw [q0c]; exact h.pool
 have e3 : (bvs b).length = 32 := by rw [q0c]; exact h.body
 have e4 : (bvs hh).length = 32 := by rw [q0c]; exact h.right.hot
 rw [e0]
 unfold hdCs rtCs
 simp only
 generalize bvs l = L at *
 generalize bvs p = P at *
 generalize bvs q = Q at *
 generalize bvs b = B at *
 generalize bvs hh = H at *
 have z : ∀ (X Y : List Value), X.length = 32 → (X ++ Y).take 32 = X ∧ (X ++ Y).drop 32 = Y := fun X Y hX => ⟨List.take_left' hX, List.drop_left' hX⟩
 have z2 : ∀ (k : Nat) (X Y : List Value), X.length = 32 → (X ++ Y).take (32 + k) = X ++ Y.take k ∧ (X ++ Y).drop (32 + k) = Y.drop k := fun k X Y hX => ⟨by rw [← hX, List.take_length_add_append], by rw [← hX, List.drop_length_add_append]⟩
 show Value.int .u64 n :: .int .u64 m :: ((P ++ _).take (32 + 0) ++ L ++ (P ++ _).drop (32 + 32)) = _
 rw [(z2 0 P _ e1).1, (z2 32 P _ e1).2, (z Q _ e2).2, List.take_zero, List.append_nil, List.append_assoc]
theorem j2u (hgd : o.guard = none) (x y : Operand) (ho : o.op = .store 34 x y) {g : Nat} {d : Hd} {l : List UInt8} (hx : a.eval x = .pointer (some ⟨g, 34, none⟩)) (hy : a.eval y = hv l) (hl : l.length = 32) (h : HdAt w g d)
  (hk : ∀ w2, HdAt w2 g { d with pool := l } → Touch (fun b => b = g) w w2 → wpList Tryz.prog ops Q rest (a.put o.dst undef) w2) : wpList Tryz.prog ops Q (o :: rest) a w :=
 q2r hgd 34 x y ho hx hy h.arr (by rw [q0c, hl]; exact hashSz) (by rw [q0t h.ok, q0c, hl]; omega) (fun v hv => List.all_eq_true.1 (q1f l) v hv) _ (hdPut34 h.ok hl) (fun w2 ha ht => hk w2 ⟨⟨h.ok.slot, h.ok.number, h.ok.prev, hl, h.ok.body, h.ok.size, h.ok.many, h.ok.right⟩, ha⟩ ht)
theorem hdPut66 {d : Hd} {l : List UInt8} (h : d.Ok) (hl : l.length = 32) : (hdCs d).take 66 ++ bvs l ++ (hdCs d).drop (66 + (bvs l).length) = hdCs { d with body := l } := by
 obtain ⟨n, m, p, q, b, s, k, ⟨hh, c, t, g⟩, sg⟩ := d
 have e0 : (bvs l).length = 32 := by rw [q0c, hl]
 have e1 : (bvs p).length = 32 := by rw [q0c]; exact h.prev
 have e2 : (bvs q).length = 32 := by rw [q0c]; exact h.pool
 have e3 : (bvs b).length = 32 := by rw [q0c]; exact h.body
 have e4 : (bvs hh).length = 32 := by rw [q0c]; exact h.right.hot
 rw [e0]
 unfold hdCs rtCs
 simp only
 generalize bvs l = L at *
 generalize bvs p = P at *
 generalize bvs q = Q at *
 generalize bvs b = B at *
 generalize bvs hh = H at *
 have z : ∀ (X Y : List Value), X.length = 32 → (X ++ Y).take 32 = X ∧ (X ++ Y).drop 32 = Y := fun X Y hX => ⟨List.take_left' hX, List.drop_left' hX⟩
 have z2 : ∀ (k : Nat) (X Y : List Value), X.length = 32 → (X ++ Y).take (32 + k) = X ++ Y.take k ∧ (X ++ Y).drop (32 + k) = Y.drop k := fun k X Y hX => ⟨by rw [← hX, List.take_length_add_append], by rw [← hX, List.drop_length_add_append]⟩
 show Value.int .u64 n :: .int .u64 m :: ((P ++ _).take (32 + 32) ++ L ++ (P ++ _).drop (32 + 64)) = _
 rw [(z2 32 P _ e1).1, (z2 64 P _ e1).2, (z Q _ e2).1, show 64 = 32 + 32 from rfl, (z2 32 Q _ e2).2, (z B _ e3).2]
 simp only [List.append_assoc]
theorem j2z (hgd : o.guard = none) (x y : Operand) (ho : o.op = .store 34 x y) {g : Nat} {d : Hd} {l : List UInt8} (hx : a.eval x = .pointer (some ⟨g, 66, none⟩)) (hy : a.eval y = hv l) (hl : l.length = 32) (h : HdAt w g d)
  (hk : ∀ w2, HdAt w2 g { d with body := l } → Touch (fun b => b = g) w w2 → wpList Tryz.prog ops Q rest (a.put o.dst undef) w2) : wpList Tryz.prog ops Q (o :: rest) a w :=
 q2r hgd 34 x y ho hx hy h.arr (by rw [q0c, hl]; exact hashSz) (by rw [q0t h.ok, q0c, hl]; omega) (fun v hv => List.all_eq_true.1 (q1f l) v hv) _ (hdPut66 h.ok hl) (fun w2 ha ht => hk w2 ⟨⟨h.ok.slot, h.ok.number, h.ok.prev, h.ok.pool, hl, h.ok.size, h.ok.many, h.ok.right⟩, ha⟩ ht)
theorem hdPut100 {d : Hd} {l : List UInt8} (h : d.Ok) (hl : l.length = 32) : (hdCs d).take 100 ++ bvs l ++ (hdCs d).drop (100 + (bvs l).length) = hdCs { d with right := { d.right with hot := l } } := by
 obtain ⟨n, m, p, q, b, s, k, ⟨hh, c, t, g⟩, sg⟩ := d
 have e0 : (bvs l).length = 32 := by rw [q0c, hl]
 have e1 : (bvs p).length = 32 := by rw [q0c]; exact h.prev
 have e2 : (bvs q).length = 32 := by rw [q0c]; exact h.pool
 have e3 : (bvs b).length = 32 := by rw [q0c]; exact h.body
 have e4 : (bvs hh).length = 32 := by rw [q0c]; exact h.right.hot
 rw [e0]
 unfold hdCs rtCs
 simp only
 generalize bvs l = L at *
 generalize bvs p = P at *
 generalize bvs q = Q at *
 generalize bvs b = B at *
 generalize bvs hh = H at *
 have z : ∀ (X Y : List Value), X.length = 32 → (X ++ Y).take 32 = X ∧ (X ++ Y).drop 32 = Y := fun X Y hX => ⟨List.take_left' hX, List.drop_left' hX⟩
 have z2 : ∀ (k : Nat) (X Y : List Value), X.length = 32 → (X ++ Y).take (32 + k) = X ++ Y.take k ∧ (X ++ Y).drop (32 + k) = Y.drop k := fun k X Y hX => ⟨by rw [← hX, List.take_length_add_append], by rw [← hX, List.drop_length_add_append]⟩
 show Value.int .u64 n :: .int .u64 m :: ((P ++ _).take (32 + 66) ++ L ++ (P ++ _).drop (32 + 98)) = _
 rw [(z2 66 P _ e1).1, (z2 98 P _ e1).2, show 66 = 32 + 34 from rfl, show 98 = 32 + 66 from rfl, (z2 34 Q _ e2).1, (z2 66 Q _ e2).2, show 34 = 32 + 2 from rfl, show 66 = 32 + 34 from rfl, (z2 2 B _ e3).1, (z2 34 B _ e3).2]
 simp only [List.append_assoc, List.take_succ_cons, List.take_zero, List.drop_succ_cons, List.cons_append, List.nil_append]
 rw [(z H _ e4).2]
theorem j4u (hgd : o.guard = none) (x y : Operand) (ho : o.op = .store 34 x y) {g : Nat} {d : Hd} {l : List UInt8} (hx : a.eval x = .pointer (some ⟨g, 100, none⟩)) (hy : a.eval y = hv l) (hl : l.length = 32) (h : HdAt w g d)
  (hk : ∀ w2, HdAt w2 g { d with right := { d.right with hot := l } } → Touch (fun b => b = g) w w2 → wpList Tryz.prog ops Q rest (a.put o.dst undef) w2) : wpList Tryz.prog ops Q (o :: rest) a w :=
 q2r hgd 34 x y ho hx hy h.arr (by rw [q0c, hl]; exact hashSz) (by rw [q0t h.ok, q0c, hl]; omega) (fun v hv => List.all_eq_true.1 (q1f l) v hv) _ (hdPut100 h.ok hl) (fun w2 ha ht => hk w2 ⟨⟨h.ok.slot, h.ok.number, h.ok.prev, h.ok.pool, h.ok.body, h.ok.size, h.ok.many, ⟨hl, h.ok.right.counter, h.ok.right.start⟩⟩, ha⟩ ht)
end
end Go.Proofs.YtbbfnpfkbbpjgaaGreat
