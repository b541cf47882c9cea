/- One field of a head in memory stored (printed by gen_hdset.py). -/
import Derived.Test.YtofjjpielkfloaaHdAt
namespace Go.Proofs.Ytofjjpielkfloaa
open Go.RowKit Go.Lib
set_option linter.unusedVariables false
set_option linter.unusedSimpArgs false

theorem u64Size : (Try.prog.info? 46).map (·.size) = some 1 := by kernel_rfl
theorem hashSz : (Try.prog.info? 23).map (·.size) = some 32 := by kernel_rfl
theorem rtSet32 {r : Rt} (h : r.Ok) (n : Nat) : (rtCs r).set 32 (.int .u64 n) = rtCs { r with counter := n } := by
  have e : (bvs r.hot).length = 32 := by rw [bvs_length, h.hot]
  unfold rtCs
  simp [List.set_append, e]
theorem rtSet33 {r : Rt} (h : r.Ok) (n : Nat) : (rtCs r).set 33 (.int .u64 n) = rtCs { r with start := n } := by
  have e : (bvs r.hot).length = 32 := by rw [bvs_length, h.hot]
  unfold rtCs
  simp [List.set_append, e]
section
variable {ops : Array Oper} {rest : List Oper} {o : Oper} {a : Act} {w w0 : World} {Q : Exit → Act → World → Prop}

theorem hdSet0 {d : Hd} (h : d.Ok) (n : Nat) : (hdCs d).set 0 (.int .u64 n) = hdCs { d with slot := n } := by
  have e1 : (bvs d.prev).length = 32 := by rw [bvs_length, h.prev]
  have e2 : (bvs d.pool).length = 32 := by rw [bvs_length, h.pool]
  have e3 : (bvs d.body).length = 32 := by rw [bvs_length, h.body]
  have e4 := rtCs_length h.right
  unfold hdCs
  simp [List.set_append, e1, e2, e3, e4]
theorem wpl_set_hd_slot (hgd : o.guard = none) (x y : Operand) (ho : o.op = .store 46 x y) {g : Nat} {d : Hd} {n : Nat} (hx : a.eval x = .pointer (some ⟨g, 0, none⟩)) (hy : a.eval y = .int .u64 n) (hn : n < 18446744073709551616) (h : HdAt w g d)
    (hk : ∀ w2, HdAt w2 g { d with slot := n } → Touch (fun b => b = g) w w2 → wpList Try.prog ops Q rest (a.put o.dst undef) w2) : wpList Try.prog ops Q (o :: rest) a w :=
  wpl_set_one hgd 46 x y ho hx hy h.arr (by rw [hdCs_length h.ok]; omega) u64Size rfl rfl (fun w2 ha ht => hk w2 ⟨⟨hn, h.ok.number, h.ok.prev, h.ok.pool, h.ok.body, h.ok.size, h.ok.many, h.ok.right⟩, by rw [hdSet0 h.ok] at ha; exact ha⟩ ht)
theorem hdSet1 {d : Hd} (h : d.Ok) (n : Nat) : (hdCs d).set 1 (.int .u64 n) = hdCs { d with number := n } := by
  have e1 : (bvs d.prev).length = 32 := by rw [bvs_length, h.prev]
  have e2 : (bvs d.pool).length = 32 := by rw [bvs_length, h.pool]
  have e3 : (bvs d.body).length = 32 := by rw [bvs_length, h.body]
  have e4 := rtCs_length h.right
  unfold hdCs
  simp [List.set_append, e1, e2, e3, e4]
theorem wpl_set_hd_number (hgd : o.guard = none) (x y : Operand) (ho : o.op = .store 46 x y) {g : Nat} {d : Hd} {n : Nat} (hx : a.eval x = .pointer (some ⟨g, 1, none⟩)) (hy : a.eval y = .int .u64 n) (hn : n < 18446744073709551616) (h : HdAt w g d)
    (hk : ∀ w2, HdAt w2 g { d with number := n } → Touch (fun b => b = g) w w2 → wpList Try.prog ops Q rest (a.put o.dst undef) w2) : wpList Try.prog ops Q (o :: rest) a w :=
  wpl_set_one hgd 46 x y ho hx hy h.arr (by rw [hdCs_length h.ok]; omega) u64Size rfl rfl (fun w2 ha ht => hk w2 ⟨⟨h.ok.slot, hn, h.ok.prev, h.ok.pool, h.ok.body, h.ok.size, h.ok.many, h.ok.right⟩, by rw [hdSet1 h.ok] at ha; exact ha⟩ ht)
theorem hdSet98 {d : Hd} (h : d.Ok) (n : Nat) : (hdCs d).set 98 (.int .u64 n) = hdCs { d with size := n } := by
  have e1 : (bvs d.prev).length = 32 := by rw [bvs_length, h.prev]
  have e2 : (bvs d.pool).length = 32 := by rw [bvs_length, h.pool]
  have e3 : (bvs d.body).length = 32 := by rw [bvs_length, h.body]
  have e4 := rtCs_length h.right
  unfold hdCs
  simp [List.set_append, e1, e2, e3, e4]
theorem wpl_set_hd_size (hgd : o.guard = none) (x y : Operand) (ho : o.op = .store 46 x y) {g : Nat} {d : Hd} {n : Nat} (hx : a.eval x = .pointer (some ⟨g, 98, none⟩)) (hy : a.eval y = .int .u64 n) (hn : n < 18446744073709551616) (h : HdAt w g d)
    (hk : ∀ w2, HdAt w2 g { d with size := n } → Touch (fun b => b = g) w w2 → wpList Try.prog ops Q rest (a.put o.dst undef) w2) : wpList Try.prog ops Q (o :: rest) a w :=
  wpl_set_one hgd 46 x y ho hx hy h.arr (by rw [hdCs_length h.ok]; omega) u64Size rfl rfl (fun w2 ha ht => hk w2 ⟨⟨h.ok.slot, h.ok.number, h.ok.prev, h.ok.pool, h.ok.body, hn, h.ok.many, h.ok.right⟩, by rw [hdSet98 h.ok] at ha; exact ha⟩ ht)
theorem hdSet99 {d : Hd} (h : d.Ok) (n : Nat) : (hdCs d).set 99 (.int .u64 n) = hdCs { d with many := n } := by
  have e1 : (bvs d.prev).length = 32 := by rw [bvs_length, h.prev]
  have e2 : (bvs d.pool).length = 32 := by rw [bvs_length, h.pool]
  have e3 : (bvs d.body).length = 32 := by rw [bvs_length, h.body]
  have e4 := rtCs_length h.right
  unfold hdCs
  simp [List.set_append, e1, e2, e3, e4]
theorem wpl_set_hd_many (hgd : o.guard = none) (x y : Operand) (ho : o.op = .store 46 x y) {g : Nat} {d : Hd} {n : Nat} (hx : a.eval x = .pointer (some ⟨g, 99, none⟩)) (hy : a.eval y = .int .u64 n) (hn : n < 18446744073709551616) (h : HdAt w g d)
    (hk : ∀ w2, HdAt w2 g { d with many := n } → Touch (fun b => b = g) w w2 → wpList Try.prog ops Q rest (a.put o.dst undef) w2) : wpList Try.prog ops Q (o :: rest) a w :=
  wpl_set_one hgd 46 x y ho hx hy h.arr (by rw [hdCs_length h.ok]; omega) u64Size rfl rfl (fun w2 ha ht => hk w2 ⟨⟨h.ok.slot, h.ok.number, h.ok.prev, h.ok.pool, h.ok.body, h.ok.size, hn, h.ok.right⟩, by rw [hdSet99 h.ok] at ha; exact ha⟩ ht)
theorem hdSet132 {d : Hd} (h : d.Ok) (n : Nat) : (hdCs d).set 132 (.int .u64 n) = hdCs { d with right := { d.right with counter := n } } := by
  have e1 : (bvs d.prev).length = 32 := by rw [bvs_length, h.prev]
  have e2 : (bvs d.pool).length = 32 := by rw [bvs_length, h.pool]
  have e3 : (bvs d.body).length = 32 := by rw [bvs_length, h.body]
  have e4 := rtCs_length h.right
  have e5 := rtSet32 h.right n
  unfold hdCs
  simp [List.set_append, e1, e2, e3, e4, e5]
theorem wpl_set_hd_counter (hgd : o.guard = none) (x y : Operand) (ho : o.op = .store 46 x y) {g : Nat} {d : Hd} {n : Nat} (hx : a.eval x = .pointer (some ⟨g, 132, none⟩)) (hy : a.eval y = .int .u64 n) (hn : n < 18446744073709551616) (h : HdAt w g d)
    (hk : ∀ w2, HdAt w2 g { d with right := { d.right with counter := n } } → Touch (fun b => b = g) w w2 → wpList Try.prog ops Q rest (a.put o.dst undef) w2) : wpList Try.prog ops Q (o :: rest) a w :=
  wpl_set_one hgd 46 x y ho hx hy h.arr (by rw [hdCs_length h.ok]; omega) u64Size rfl rfl (fun w2 ha ht => hk w2 ⟨⟨h.ok.slot, h.ok.number, h.ok.prev, h.ok.pool, h.ok.body, h.ok.size, h.ok.many, ⟨h.ok.right.hot, hn, h.ok.right.start⟩⟩, by rw [hdSet132 h.ok] at ha; exact ha⟩ ht)
theorem hdSet133 {d : Hd} (h : d.Ok) (n : Nat) : (hdCs d).set 133 (.int .u64 n) = hdCs { d with right := { d.right with start := n } } := by
  have e1 : (bvs d.prev).length = 32 := by rw [bvs_length, h.prev]
  have e2 : (bvs d.pool).length = 32 := by rw [bvs_length, h.pool]
  have e3 : (bvs d.body).length = 32 := by rw [bvs_length, h.body]
  have e4 := rtCs_length h.right
  have e5 := rtSet33 h.right n
  unfold hdCs
  simp [List.set_append, e1, e2, e3, e4, e5]
theorem wpl_set_hd_start (hgd : o.guard = none) (x y : Operand) (ho : o.op = .store 46 x y) {g : Nat} {d : Hd} {n : Nat} (hx : a.eval x = .pointer (some ⟨g, 133, none⟩)) (hy : a.eval y = .int .u64 n) (hn : n < 18446744073709551616) (h : HdAt w g d)
    (hk : ∀ w2, HdAt w2 g { d with right := { d.right with start := n } } → Touch (fun b => b = g) w w2 → wpList Try.prog ops Q rest (a.put o.dst undef) w2) : wpList Try.prog ops Q (o :: rest) a w :=
  wpl_set_one hgd 46 x y ho hx hy h.arr (by rw [hdCs_length h.ok]; omega) u64Size rfl rfl (fun w2 ha ht => hk w2 ⟨⟨h.ok.slot, h.ok.number, h.ok.prev, h.ok.pool, h.ok.body, h.ok.size, h.ok.many, ⟨h.ok.right.hot, h.ok.right.counter, hn⟩⟩, by rw [hdSet133 h.ok] at ha; exact ha⟩ ht)
theorem hdSet134 {d : Hd} (h : d.Ok) (s : ByteArray) : (hdCs d).set 134 (.string s) = hdCs { d with right := { d.right with sig := s } } := by
  have e1 : (bvs d.prev).length = 32 := by rw [bvs_length, h.prev]
  have e2 : (bvs d.pool).length = 32 := by rw [bvs_length, h.pool]
  have e3 : (bvs d.body).length = 32 := by rw [bvs_length, h.body]
  have e4 := rtCs_length h.right
  have e5 := rtSigSet h.right s
  unfold hdCs
  simp [List.set_append, e1, e2, e3, e4, e5]
theorem wpl_set_hd_rsig (hgd : o.guard = none) (x y : Operand) (ho : o.op = .store 9 x y) {g : Nat} {d : Hd} {s : ByteArray} (hx : a.eval x = .pointer (some ⟨g, 134, none⟩)) (hy : a.eval y = .string s) (h : HdAt w g d)
    (hk : ∀ w2, HdAt w2 g { d with right := { d.right with sig := s } } → Touch (fun b => b = g) w w2 → wpList Try.prog ops Q rest (a.put o.dst undef) w2) : wpList Try.prog ops Q (o :: rest) a w :=
  wpl_set_one hgd 9 x y ho hx hy h.arr (by rw [hdCs_length h.ok]; omega) strSize rfl rfl (fun w2 ha ht => hk w2 ⟨⟨h.ok.slot, h.ok.number, h.ok.prev, h.ok.pool, h.ok.body, h.ok.size, h.ok.many, ⟨h.ok.right.hot, h.ok.right.counter, h.ok.right.start⟩⟩, by rw [hdSet134 h.ok] at ha; exact ha⟩ ht)
theorem hdPut2 {d : Hd} {l : List UInt8} (h : d.Ok) (hl : l.length = 32) : (hdCs d).take 2 ++ bvs l ++ (hdCs d).drop (2 + (bvs l).length) = hdCs { d with prev := l } := by
  obtain ⟨n, m, p, q, b, s, k, ⟨hh, c, t, g⟩, sg⟩ := d
  have e0 : (bvs l).length = 32 := by rw [bvs_length, hl]
  have e1 : (bvs p).length = 32 := by rw [bvs_length]; exact h.prev
  have e2 : (bvs q).length = 32 := by rw [bvs_length]; exact h.pool
  have e3 : (bvs b).length = 32 := by rw [bvs_length]; exact h.body
  have e4 : (bvs hh).length = 32 := by rw [bvs_length]; exact h.right.hot
  rw [e0]
  unfold hdCs rtCs
  simp only
  generalize bvs l = L at *
  generalize bvs p = P at *
  generalize bvs q = Q at *
  generalize bvs b = B at *
  generalize bvs hh = H at *
  have z : ∀ (X Y : List Value), X.length = 32 → (X ++ Y).take 32 = X ∧ (X ++ Y).drop 32 = Y := fun X Y hX => ⟨List.take_left' hX, List.drop_left' hX⟩
  have z2 : ∀ (k : Nat) (X Y : List Value), X.length = 32 → (X ++ Y).take (32 + k) = X ++ Y.take k ∧ (X ++ Y).drop (32 + k) = Y.drop k := fun k X Y hX => ⟨by rw [← hX, List.take_length_add_append], by rw [← hX, List.drop_length_add_append]⟩
  show Value.int .u64 n :: .int .u64 m :: ((P ++ _).take 0 ++ L ++ (P ++ _).drop 32) = _
  rw [(z P _ e1).2, List.take_zero, List.nil_append]
theorem wpl_set_hd_prev (hgd : o.guard = none) (x y : Operand) (ho : o.op = .store 23 x y) {g : Nat} {d : Hd} {l : List UInt8} (hx : a.eval x = .pointer (some ⟨g, 2, none⟩)) (hy : a.eval y = hv l) (hl : l.length = 32) (h : HdAt w g d)
    (hk : ∀ w2, HdAt w2 g { d with prev := l } → Touch (fun b => b = g) w w2 → wpList Try.prog ops Q rest (a.put o.dst undef) w2) : wpList Try.prog ops Q (o :: rest) a w :=
  wpl_put_at hgd 23 x y ho hx hy h.arr (by rw [bvs_length, hl]; exact hashSz) (by rw [hdCs_length h.ok, bvs_length, hl]; omega) (fun v hv => List.all_eq_true.1 (bvs_one l) v hv) _ (hdPut2 h.ok hl) (fun w2 ha ht => hk w2 ⟨⟨h.ok.slot, h.ok.number, hl, h.ok.pool, h.ok.body, h.ok.size, h.ok.many, h.ok.right⟩, ha⟩ ht)
theorem hdPut34 {d : Hd} {l : List UInt8} (h : d.Ok) (hl : l.length = 32) : (hdCs d).take 34 ++ bvs l ++ (hdCs d).drop (34 + (bvs l).length) = hdCs { d with pool := l } := by
  obtain ⟨n, m, p, q, b, s, k, ⟨hh, c, t, g⟩, sg⟩ := d
  have e0 : (bvs l).length = 32 := by rw [bvs_length, hl]
  have e1 : (bvs p).length = 32 := by rw [bvs_length]; exact h.prev
  have e2 : (bvs q).length = 32 := by rw [bvs_length]; exact h.pool
  have e3 : (bvs b).length = 32 := by rw [bvs_length]; exact h.body
  have e4 : (bvs hh).length = 32 := by rw [bvs_length]; exact h.right.hot
  rw [e0]
  unfold hdCs rtCs
  simp only
  generalize bvs l = L at *
  generalize bvs p = P at *
  generalize bvs q = Q at *
  generalize bvs b = B at *
  generalize bvs hh = H at *
  have z : ∀ (X Y : List Value), X.length = 32 → (X ++ Y).take 32 = X ∧ (X ++ Y).drop 32 = Y := fun X Y hX => ⟨List.take_left' hX, List.drop_left' hX⟩
  have z2 : ∀ (k : Nat) (X Y : List Value), X.length = 32 → (X ++ Y).take (32 + k) = X ++ Y.take k ∧ (X ++ Y).drop (32 + k) = Y.drop k := fun k X Y hX => ⟨by rw [← hX, List.take_length_add_append], by rw [← hX, List.drop_length_add_append]⟩
  show Value.int .u64 n :: .int .u64 m :: ((P ++ _).take (32 + 0) ++ L ++ (P ++ _).drop (32 + 32)) = _
  rw [(z2 0 P _ e1).1, (z2 32 P _ e1).2, (z Q _ e2).2, List.take_zero, List.append_nil, List.append_assoc]
theorem wpl_set_hd_pool (hgd : o.guard = none) (x y : Operand) (ho : o.op = .store 23 x y) {g : Nat} {d : Hd} {l : List UInt8} (hx : a.eval x = .pointer (some ⟨g, 34, none⟩)) (hy : a.eval y = hv l) (hl : l.length = 32) (h : HdAt w g d)
    (hk : ∀ w2, HdAt w2 g { d with pool := l } → Touch (fun b => b = g) w w2 → wpList Try.prog ops Q rest (a.put o.dst undef) w2) : wpList Try.prog ops Q (o :: rest) a w :=
  wpl_put_at hgd 23 x y ho hx hy h.arr (by rw [bvs_length, hl]; exact hashSz) (by rw [hdCs_length h.ok, bvs_length, hl]; omega) (fun v hv => List.all_eq_true.1 (bvs_one l) v hv) _ (hdPut34 h.ok hl) (fun w2 ha ht => hk w2 ⟨⟨h.ok.slot, h.ok.number, h.ok.prev, hl, h.ok.body, h.ok.size, h.ok.many, h.ok.right⟩, ha⟩ ht)
theorem hdPut66 {d : Hd} {l : List UInt8} (h : d.Ok) (hl : l.length = 32) : (hdCs d).take 66 ++ bvs l ++ (hdCs d).drop (66 + (bvs l).length) = hdCs { d with body := l } := by
  obtain ⟨n, m, p, q, b, s, k, ⟨hh, c, t, g⟩, sg⟩ := d
  have e0 : (bvs l).length = 32 := by rw [bvs_length, hl]
  have e1 : (bvs p).length = 32 := by rw [bvs_length]; exact h.prev
  have e2 : (bvs q).length = 32 := by rw [bvs_length]; exact h.pool
  have e3 : (bvs b).length = 32 := by rw [bvs_length]; exact h.body
  have e4 : (bvs hh).length = 32 := by rw [bvs_length]; exact h.right.hot
  rw [e0]
  unfold hdCs rtCs
  simp only
  generalize bvs l = L at *
  generalize bvs p = P at *
  generalize bvs q = Q at *
  generalize bvs b = B at *
  generalize bvs hh = H at *
  have z : ∀ (X Y : List Value), X.length = 32 → (X ++ Y).take 32 = X ∧ (X ++ Y).drop 32 = Y := fun X Y hX => ⟨List.take_left' hX, List.drop_left' hX⟩
  have z2 : ∀ (k : Nat) (X Y : List Value), X.length = 32 → (X ++ Y).take (32 + k) = X ++ Y.take k ∧ (X ++ Y).drop (32 + k) = Y.drop k := fun k X Y hX => ⟨by rw [← hX, List.take_length_add_append], by rw [← hX, List.drop_length_add_append]⟩
  show Value.int .u64 n :: .int .u64 m :: ((P ++ _).take (32 + 32) ++ L ++ (P ++ _).drop (32 + 64)) = _
  rw [(z2 32 P _ e1).1, (z2 64 P _ e1).2, (z Q _ e2).1, show 64 = 32 + 32 from rfl, (z2 32 Q _ e2).2, (z B _ e3).2]
  simp only [List.append_assoc]
theorem wpl_set_hd_body (hgd : o.guard = none) (x y : Operand) (ho : o.op = .store 23 x y) {g : Nat} {d : Hd} {l : List UInt8} (hx : a.eval x = .pointer (some ⟨g, 66, none⟩)) (hy : a.eval y = hv l) (hl : l.length = 32) (h : HdAt w g d)
    (hk : ∀ w2, HdAt w2 g { d with body := l } → Touch (fun b => b = g) w w2 → wpList Try.prog ops Q rest (a.put o.dst undef) w2) : wpList Try.prog ops Q (o :: rest) a w :=
  wpl_put_at hgd 23 x y ho hx hy h.arr (by rw [bvs_length, hl]; exact hashSz) (by rw [hdCs_length h.ok, bvs_length, hl]; omega) (fun v hv => List.all_eq_true.1 (bvs_one l) v hv) _ (hdPut66 h.ok hl) (fun w2 ha ht => hk w2 ⟨⟨h.ok.slot, h.ok.number, h.ok.prev, h.ok.pool, hl, h.ok.size, h.ok.many, h.ok.right⟩, ha⟩ ht)
theorem hdPut100 {d : Hd} {l : List UInt8} (h : d.Ok) (hl : l.length = 32) : (hdCs d).take 100 ++ bvs l ++ (hdCs d).drop (100 + (bvs l).length) = hdCs { d with right := { d.right with hot := l } } := by
  obtain ⟨n, m, p, q, b, s, k, ⟨hh, c, t, g⟩, sg⟩ := d
  have e0 : (bvs l).length = 32 := by rw [bvs_length, hl]
  have e1 : (bvs p).length = 32 := by rw [bvs_length]; exact h.prev
  have e2 : (bvs q).length = 32 := by rw [bvs_length]; exact h.pool
  have e3 : (bvs b).length = 32 := by rw [bvs_length]; exact h.body
  have e4 : (bvs hh).length = 32 := by rw [bvs_length]; exact h.right.hot
  rw [e0]
  unfold hdCs rtCs
  simp only
  generalize bvs l = L at *
  generalize bvs p = P at *
  generalize bvs q = Q at *
  generalize bvs b = B at *
  generalize bvs hh = H at *
  have z : ∀ (X Y : List Value), X.length = 32 → (X ++ Y).take 32 = X ∧ (X ++ Y).drop 32 = Y := fun X Y hX => ⟨List.take_left' hX, List.drop_left' hX⟩
  have z2 : ∀ (k : Nat) (X Y : List Value), X.length = 32 → (X ++ Y).take (32 + k) = X ++ Y.take k ∧ (X ++ Y).drop (32 + k) = Y.drop k := fun k X Y hX => ⟨by rw [← hX, List.take_length_add_append], by rw [← hX, List.drop_length_add_append]⟩
  show Value.int .u64 n :: .int .u64 m :: ((P ++ _).take (32 + 66) ++ L ++ (P ++ _).drop (32 + 98)) = _
  rw [(z2 66 P _ e1).1, (z2 98 P _ e1).2, show 66 = 32 + 34 from rfl, show 98 = 32 + 66 from rfl, (z2 34 Q _ e2).1, (z2 66 Q _ e2).2, show 34 = 32 + 2 from rfl, show 66 = 32 + 34 from rfl, (z2 2 B _ e3).1, (z2 34 B _ e3).2]
  simp only [List.append_assoc, List.take_succ_cons, List.take_zero, List.drop_succ_cons, List.cons_append, List.nil_append]
  rw [(z H _ e4).2]
theorem wpl_set_hd_hot (hgd : o.guard = none) (x y : Operand) (ho : o.op = .store 23 x y) {g : Nat} {d : Hd} {l : List UInt8} (hx : a.eval x = .pointer (some ⟨g, 100, none⟩)) (hy : a.eval y = hv l) (hl : l.length = 32) (h : HdAt w g d)
    (hk : ∀ w2, HdAt w2 g { d with right := { d.right with hot := l } } → Touch (fun b => b = g) w w2 → wpList Try.prog ops Q rest (a.put o.dst undef) w2) : wpList Try.prog ops Q (o :: rest) a w :=
  wpl_put_at hgd 23 x y ho hx hy h.arr (by rw [bvs_length, hl]; exact hashSz) (by rw [hdCs_length h.ok, bvs_length, hl]; omega) (fun v hv => List.all_eq_true.1 (bvs_one l) v hv) _ (hdPut100 h.ok hl) (fun w2 ha ht => hk w2 ⟨⟨h.ok.slot, h.ok.number, h.ok.prev, h.ok.pool, h.ok.body, h.ok.size, h.ok.many, ⟨hl, h.ok.right.counter, h.ok.right.start⟩⟩, ha⟩ ht)
end
end Go.Proofs.Ytofjjpielkfloaa
