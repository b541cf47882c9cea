/- Deeds in memory: made, filled, handed back; deeds that are one's own. -/
import Derived.Test.YtbbfnpfkbbpjgaaGreatQPElWit
import Derived.Test.YtbbfnpfkbbpjgaaGreatQPDeedI
import Derived.Test.YtbbfnpfkbbpjgaaGreatQPMBase
namespace Go.Proofs.YtbbfnpfkbbpjgaaGreat
open Go.RowKit Go.Lib
set_option linter.unusedVariables false
set_option linter.unusedSimpArgs false

def nilS : Value := .slice none 0 0
theorem deedZero : (Tryz.prog.info? 29).bind (·.zero) = some (deedV nilS nilS nilS nilS nilS 0 0 0) := by kernel_rfl
theorem deedBuilt0 : Tryz.prog.built 29 [] = some (deedCs nilS nilS nilS nilS nilS 0 0 0).toArray := by kernel_rfl
section
variable {ops : Array Oper} {rest : List Oper} {o : Oper} {a : Act} {w w0 : World} {Q : Exit → Act → World → Prop} {K : Act → Prop} {v1 v2 v3 v4 v5 u1 u2 u3 u4 u5 : Value} {f s t i j k : Nat}
theorem wpl_mk_deed (hw : Region.wanted o (yielded ops a.tmps) = true) (ho : o.op = .alloc 29)
    (hk : ∀ w2 g, w.heap.size ≤ g → DAt w2 g nilS nilS nilS nilS nilS 0 0 0 → Below w.heap.size w w2 → wpList Tryz.prog ops Q rest (a.put o.dst (.pointer (some ⟨g, 0, none⟩))) w2) : wpList Tryz.prog ops Q (o :: rest) a w :=
  wpl_mk hw 29 ho deedZero (cs := deedCs nilS nilS nilS nilS nilS 0 0 0) (by simp [deedV, Value.cells]) (fun w2 g hg h hb => hk w2 g hg ⟨rfl, rfl, rfl, rfl, rfl, h⟩ hb)
theorem wpl_set_deed (hgd : o.guard = none) (x y : Operand) (ho : o.op = .store 29 x y) {g : Nat} (hx : a.eval x = .pointer (some ⟨g, 0, none⟩)) (hy : a.eval y = deedV v1 v2 v3 v4 v5 f s t) (o1 : v1.oneCell' = true) (o2 : v2.oneCell' = true) (o3 : v3.oneCell' = true) (o4 : v4.oneCell' = true) (o5 : v5.oneCell' = true) (h : DAt w g u1 u2 u3 u4 u5 i j k)
    (hk : ∀ w2, DAt w2 g v1 v2 v3 v4 v5 f s t → Touch (fun b => b = g) w w2 → wpList Tryz.prog ops Q rest (a.put o.dst undef) w2) : wpList Tryz.prog ops Q (o :: rest) a w :=
  wpl_fill hgd 29 x y ho hx hy h.arr deedSize rfl (by
    intro v hv
    simp only [deedCs, List.mem_cons, List.not_mem_nil, or_false] at hv
    rcases hv with rfl | rfl | rfl | rfl | rfl | rfl | rfl | rfl <;> first | assumption | rfl) (fun w2 ha ht => hk w2 ⟨o1, o2, o3, o4, o5, ha⟩ ht)
theorem set1 {ty : TypeId} (hi : (Tryz.prog.info? ty).map (·.size) = some 1) (hgd : o.guard = none) (x y : Operand) (ho : o.op = .store ty x y) {g n : Nat} {v : Value} (hx : a.eval x = .pointer (some ⟨g, n, none⟩)) (hy : a.eval y = v) (h : DAt w g v1 v2 v3 v4 v5 f s t) (hn : n < 8) (hc : v.cells = #[v]) (hv : v.oneCell' = true)
    (hk : ∀ w2, Arr w2 g 29 ((deedCs v1 v2 v3 v4 v5 f s t).set n v) → Touch (fun b => b = g) w w2 → wpList Tryz.prog ops Q rest (a.put o.dst undef) w2) : wpList Tryz.prog ops Q (o :: rest) a w :=
  wpl_set_one hgd ty x y ho hx hy h.arr hn hi hc hv hk
theorem slSz1 : (Tryz.prog.info? 22).map (·.size) = some 1 := by kernel_rfl
theorem slSz2 : (Tryz.prog.info? 23).map (·.size) = some 1 := by kernel_rfl
theorem slSz3 : (Tryz.prog.info? 25).map (·.size) = some 1 := by kernel_rfl
theorem slSz4 : (Tryz.prog.info? 26).map (·.size) = some 1 := by kernel_rfl
theorem slSz5 : (Tryz.prog.info? 27).map (·.size) = some 1 := by kernel_rfl
theorem wpl_set_dins (hgd : o.guard = none) (x y : Operand) (ho : o.op = .store 22 x y) {g : Nat} {v : Value} (hx : a.eval x = .pointer (some ⟨g, 0, none⟩)) (hy : a.eval y = v) (hc : v.cells = #[v]) (hv : v.oneCell' = true) (h : DAt w g v1 v2 v3 v4 v5 f s t)
    (hk : ∀ w2, DAt w2 g v v2 v3 v4 v5 f s t → Touch (fun b => b = g) w w2 → wpList Tryz.prog ops Q rest (a.put o.dst undef) w2) : wpList Tryz.prog ops Q (o :: rest) a w :=
  set1 slSz1 hgd x y ho hx hy h (by decide) hc hv (fun w2 ha ht => hk w2 ⟨hv, h.o2, h.o3, h.o4, h.o5, ha⟩ ht)
theorem wpl_set_douts (hgd : o.guard = none) (x y : Operand) (ho : o.op = .store 23 x y) {g : Nat} {v : Value} (hx : a.eval x = .pointer (some ⟨g, 1, none⟩)) (hy : a.eval y = v) (hc : v.cells = #[v]) (hv : v.oneCell' = true) (h : DAt w g v1 v2 v3 v4 v5 f s t)
    (hk : ∀ w2, DAt w2 g v1 v v3 v4 v5 f s t → Touch (fun b => b = g) w w2 → wpList Tryz.prog ops Q rest (a.put o.dst undef) w2) : wpList Tryz.prog ops Q (o :: rest) a w :=
  set1 slSz2 hgd x y ho hx hy h (by decide) hc hv (fun w2 ha ht => hk w2 ⟨h.o1, hv, h.o3, h.o4, h.o5, ha⟩ ht)
theorem wpl_set_dcerts (hgd : o.guard = none) (x y : Operand) (ho : o.op = .store 25 x y) {g : Nat} {v : Value} (hx : a.eval x = .pointer (some ⟨g, 5, none⟩)) (hy : a.eval y = v) (hc : v.cells = #[v]) (hv : v.oneCell' = true) (h : DAt w g v1 v2 v3 v4 v5 f s t)
    (hk : ∀ w2, DAt w2 g v1 v2 v v4 v5 f s t → Touch (fun b => b = g) w w2 → wpList Tryz.prog ops Q rest (a.put o.dst undef) w2) : wpList Tryz.prog ops Q (o :: rest) a w :=
  set1 slSz3 hgd x y ho hx hy h (by decide) hc hv (fun w2 ha ht => hk w2 ⟨h.o1, h.o2, hv, h.o4, h.o5, ha⟩ ht)
theorem wpl_set_dpays (hgd : o.guard = none) (x y : Operand) (ho : o.op = .store 26 x y) {g : Nat} {v : Value} (hx : a.eval x = .pointer (some ⟨g, 6, none⟩)) (hy : a.eval y = v) (hc : v.cells = #[v]) (hv : v.oneCell' = true) (h : DAt w g v1 v2 v3 v4 v5 f s t)
    (hk : ∀ w2, DAt w2 g v1 v2 v3 v v5 f s t → Touch (fun b => b = g) w w2 → wpList Tryz.prog ops Q rest (a.put o.dst undef) w2) : wpList Tryz.prog ops Q (o :: rest) a w :=
  set1 slSz4 hgd x y ho hx hy h (by decide) hc hv (fun w2 ha ht => hk w2 ⟨h.o1, h.o2, h.o3, hv, h.o5, ha⟩ ht)
theorem wpl_set_dwits (hgd : o.guard = none) (x y : Operand) (ho : o.op = .store 27 x y) {g : Nat} {v : Value} (hx : a.eval x = .pointer (some ⟨g, 7, none⟩)) (hy : a.eval y = v) (hc : v.cells = #[v]) (hv : v.oneCell' = true) (h : DAt w g v1 v2 v3 v4 v5 f s t)
    (hk : ∀ w2, DAt w2 g v1 v2 v3 v4 v f s t → Touch (fun b => b = g) w w2 → wpList Tryz.prog ops Q rest (a.put o.dst undef) w2) : wpList Tryz.prog ops Q (o :: rest) a w :=
  set1 slSz5 hgd x y ho hx hy h (by decide) hc hv (fun w2 ha ht => hk w2 ⟨h.o1, h.o2, h.o3, h.o4, hv, ha⟩ ht)
theorem wpl_set_dfee (hgd : o.guard = none) (x y : Operand) (ho : o.op = .store 24 x y) {g n : Nat} (hx : a.eval x = .pointer (some ⟨g, 2, none⟩)) (hy : a.eval y = .int .u64 n) (h : DAt w g v1 v2 v3 v4 v5 f s t)
    (hk : ∀ w2, DAt w2 g v1 v2 v3 v4 v5 n s t → Touch (fun b => b = g) w w2 → wpList Tryz.prog ops Q rest (a.put o.dst undef) w2) : wpList Tryz.prog ops Q (o :: rest) a w :=
  set1 u64Sz hgd x y ho hx hy h (by decide) rfl rfl (fun w2 ha ht => hk w2 ⟨h.o1, h.o2, h.o3, h.o4, h.o5, ha⟩ ht)
theorem wpl_set_dfrm (hgd : o.guard = none) (x y : Operand) (ho : o.op = .store 24 x y) {g n : Nat} (hx : a.eval x = .pointer (some ⟨g, 3, none⟩)) (hy : a.eval y = .int .u64 n) (h : DAt w g v1 v2 v3 v4 v5 f s t)
    (hk : ∀ w2, DAt w2 g v1 v2 v3 v4 v5 f n t → Touch (fun b => b = g) w w2 → wpList Tryz.prog ops Q rest (a.put o.dst undef) w2) : wpList Tryz.prog ops Q (o :: rest) a w :=
  set1 u64Sz hgd x y ho hx hy h (by decide) rfl rfl (fun w2 ha ht => hk w2 ⟨h.o1, h.o2, h.o3, h.o4, h.o5, ha⟩ ht)
theorem wpl_set_dtil (hgd : o.guard = none) (x y : Operand) (ho : o.op = .store 24 x y) {g n : Nat} (hx : a.eval x = .pointer (some ⟨g, 4, none⟩)) (hy : a.eval y = .int .u64 n) (h : DAt w g v1 v2 v3 v4 v5 f s t)
    (hk : ∀ w2, DAt w2 g v1 v2 v3 v4 v5 f s n → Touch (fun b => b = g) w w2 → wpList Tryz.prog ops Q rest (a.put o.dst undef) w2) : wpList Tryz.prog ops Q (o :: rest) a w :=
  set1 u64Sz hgd x y ho hx hy h (by decide) rfl rfl (fun w2 ha ht => hk w2 ⟨h.o1, h.o2, h.o3, h.o4, h.o5, ha⟩ ht)
end
theorem ret_deed_tmp {fn : Func} {q u : Tmp} (hr : fn.results = #[.cell q 29, .tmp u]) (tmps : Array Value) (w : World) {g : Nat} {v1 v2 v3 v4 v5 : Value} {f s t : Nat} (v : Value) (hp : tmps.getD q undef = .pointer (some ⟨g, 0, none⟩)) (hu : tmps.getD u undef = v) (h : DAt w g v1 v2 v3 v4 v5 f s t) :
    (results fn tmps).run Tryz.prog w = .ok (.tuple #[deedV v1 v2 v3 v4 v5 f s t, v]) w :=
  results_row_tmp hr tmps w g 29 (deedCs v1 v2 v3 v4 v5 f s t).toArray (0, 0) _ v hp hu h.arr Tryz.underlying29 rfl deedSize
/-- A deed whose parts are one's own, from B on. -/
def DeedOwn (w : World) (B : Nat) (v : Value) (d : Deed) : Prop := ∃ v1 v2 v3 v4 v5, v = deedV v1 v2 v3 v4 v5 d.fee d.frm d.til ∧ OwnR w B 80 33 v1 (d.ins.map inCs) [] ∧ OwnR w B 84 65 v2 (d.outs.map outCs) [] ∧ OwnR w B 87 68 v3 (d.certs.map certCs) [] ∧ OwnR w B 89 33 v4 (d.pays.map payCs) [] ∧ OwnR w B 74 33 v5 (d.wits.map witCs) [] ∧ d.Ok
theorem DeedOwn.is {w : World} {B : Nat} {v : Value} {d : Deed} (h : DeedOwn w B v d) : DeedIs w v d := by
  obtain ⟨v1, v2, v3, v4, v5, h0, h1, h2, h3, h4, h5, h6⟩ := h
  exact ⟨v1, v2, v3, v4, v5, h0, h1.sl, h2.sl, h3.sl, h4.sl, h5.sl, h6⟩
theorem DeedOwn.later {w w' : World} {B : Nat} {v : Value} {d : Deed} (h : DeedOwn w B v d) (hb : Below w.heap.size w w') : DeedOwn w' B v d := by
  obtain ⟨v1, v2, v3, v4, v5, h0, h1, h2, h3, h4, h5, h6⟩ := h
  exact ⟨v1, v2, v3, v4, v5, h0, h1.later hb, h2.later hb, h3.later hb, h4.later hb, h5.later hb, h6⟩
theorem DeedOwn.tt {w w' : World} {B g : Nat} {v : Value} {d : Deed} (h : DeedOwn w B v d) (ht : Touch (fun b => b = g) w w') (hg : g < B) : DeedOwn w' B v d := by
  obtain ⟨v1, v2, v3, v4, v5, h0, h1, h2, h3, h4, h5, h6⟩ := h
  exact ⟨v1, v2, v3, v4, v5, h0, h1.tg ht hg, h2.tg ht hg, h3.tg ht hg, h4.tg ht hg, h5.tg ht hg, h6⟩
theorem DeedOwn.nil (w : World) (B : Nat) : DeedOwn w B (deedV nilS nilS nilS nilS nilS 0 0 0) deed0 := ⟨nilS, nilS, nilS, nilS, nilS, rfl, OwnR.nil _ _ _ _, OwnR.nil _ _ _ _, OwnR.nil _ _ _ _, OwnR.nil _ _ _ _, OwnR.nil _ _ _ _, deed0_ok⟩
theorem DeedIs.ok {w : World} {v : Value} {d : Deed} (h : DeedIs w v d) : d.Ok := by obtain ⟨_, _, _, _, _, _, _, _, _, _, _, ok⟩ := h; exact ok
end Go.Proofs.YtbbfnpfkbbpjgaaGreat
