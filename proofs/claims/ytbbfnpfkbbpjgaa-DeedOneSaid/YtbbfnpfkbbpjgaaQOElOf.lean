/- The elements of layer 13 as elements of slices. -/
import Derived.Test.YtbbfnpfkbbpjgaaQODig8
import Derived.Test.YtbbfnpfkbbpjgaaQOElWit
import Derived.Test.YtbbfnpfkbbpjgaaQOMBase
import Derived.Test.YtbbfnpfkbbpjgaaQODeedL
namespace Go.Proofs.Ytbbfnpfkbbpjgaa
open Go.RowKit Go.Lib
set_option linter.unusedVariables false
set_option linter.unusedSimpArgs false

theorem elOf {P : Program} {t e sz by' : Nat} (ht : P.underlying t = some (.slice e)) (hz : 0 < sz) (h : (P.info? e).map (fun i => (i.size, i.bytes, i.zero.map (·.cells.size))) = some (sz, by', some sz)) : ElemOf P t e sz by' := by
  obtain ⟨i, hi, h1⟩ := Option.map_eq_some_iff.1 h
  simp only [Prod.mk.injEq] at h1
  obtain ⟨h2, h3, h4⟩ := h1
  obtain ⟨z, hz', h5⟩ := Option.map_eq_some_iff.1 h4
  exact ⟨ht, hz, i, z, hi, hz', h2, h3, h5⟩
theorem inElem : ElemOf Try.prog 50 60 33 40 := elOf Try.underlying50 (by decide) (by kernel_rfl)
theorem outElem : ElemOf Try.prog 28 48 65 72 := elOf Try.underlying28 (by decide) (by kernel_rfl)
theorem certElem : ElemOf Try.prog 51 133 68 96 := elOf Try.underlying51 (by decide) (by kernel_rfl)
theorem payElem : ElemOf Try.prog 52 138 33 40 := elOf Try.underlying52 (by decide) (by kernel_rfl)
theorem witElem : ElemOf Try.prog 53 142 33 48 := elOf Try.underlying53 (by decide) (by kernel_rfl)
theorem OwnR.off {w : World} {B e sz g : Nat} {v : Value} {els : List (List Value)} {X : List Nat} (h : OwnR w B e sz v els X) (hg : g < B) : ¬ v.ownBlock = some g := fun hs => by
  have := (World.ownsRow.lt h.1 g hs).1; omega
theorem OwnR.tg {w w' : World} {B e sz g : Nat} {v : Value} {els : List (List Value)} {X : List Nat} (h : OwnR w B e sz v els X) (ht : Touch (fun b => b = g) w w') (hg : g < B) : OwnR w' B e sz v els X :=
  ⟨owns_touch h.1 ht (fun b hb hs => h.off hg (by have e : b = g := hs; rw [e] at hb; exact hb)), h.2⟩
theorem OwnR.ge {w : World} {B e sz : Nat} {v : Value} {els : List (List Value)} {X : List Nat} (h : OwnR w B e sz v els X) : ∀ b, v.ownBlock = some b → B ≤ b := fun b hb => (World.ownsRow.lt h.1 b hb).1
theorem ok_snoc {α : Type} {P : α → Prop} {l : List α} {x : α} (h : ∀ y ∈ l, P y) (hx : P x) : ∀ y ∈ l ++ [x], P y := fun y hy => by
  rcases List.mem_append.1 hy with h1 | h1
  · exact h y h1
  · simp at h1; subst h1; exact hx
end Go.Proofs.Ytbbfnpfkbbpjgaa

/- Deeds in memory: made, filled, handed back; deeds that are one's own. -/
namespace Go.Proofs.Ytbbfnpfkbbpjgaa
open Go.RowKit Go.Lib
set_option linter.unusedVariables false
set_option linter.unusedSimpArgs false

def nilS : Value := .slice none 0 0
theorem deedZero : (Try.prog.info? 55).bind (·.zero) = some (deedV nilS nilS nilS nilS nilS 0 0 0) := by kernel_rfl
theorem deedBuilt0 : Try.prog.built 55 [] = some (deedCs nilS nilS nilS nilS nilS 0 0 0).toArray := by kernel_rfl
section
variable {ops : Array Oper} {rest : List Oper} {o : Oper} {a : Act} {w w0 : World} {Q : Exit → Act → World → Prop} {K : Act → Prop} {v1 v2 v3 v4 v5 u1 u2 u3 u4 u5 : Value} {f s t i j k : Nat}
theorem wpl_mk_deed (hw : Region.wanted o (yielded ops a.tmps) = true) (ho : o.op = .alloc 55)
    (hk : ∀ w2 g, w.heap.size ≤ g → DAt w2 g nilS nilS nilS nilS nilS 0 0 0 → Below w.heap.size w w2 → wpList Try.prog ops Q rest (a.put o.dst (.pointer (some ⟨g, 0, none⟩))) w2) : wpList Try.prog ops Q (o :: rest) a w :=
  wpl_mk hw 55 ho deedZero (cs := deedCs nilS nilS nilS nilS nilS 0 0 0) (by simp [deedV, Value.cells]) (fun w2 g hg h hb => hk w2 g hg ⟨rfl, rfl, rfl, rfl, rfl, h⟩ hb)
theorem wpl_set_deed (hgd : o.guard = none) (x y : Operand) (ho : o.op = .store 55 x y) {g : Nat} (hx : a.eval x = .pointer (some ⟨g, 0, none⟩)) (hy : a.eval y = deedV v1 v2 v3 v4 v5 f s t) (o1 : v1.oneCell' = true) (o2 : v2.oneCell' = true) (o3 : v3.oneCell' = true) (o4 : v4.oneCell' = true) (o5 : v5.oneCell' = true) (h : DAt w g u1 u2 u3 u4 u5 i j k)
    (hk : ∀ w2, DAt w2 g v1 v2 v3 v4 v5 f s t → Touch (fun b => b = g) w w2 → wpList Try.prog ops Q rest (a.put o.dst undef) w2) : wpList Try.prog ops Q (o :: rest) a w :=
  wpl_fill hgd 55 x y ho hx hy h.arr deedSize rfl (by
    intro v hv
    simp only [deedCs, List.mem_cons, List.not_mem_nil, or_false] at hv
    rcases hv with rfl | rfl | rfl | rfl | rfl | rfl | rfl | rfl <;> first | assumption | rfl) (fun w2 ha ht => hk w2 ⟨o1, o2, o3, o4, o5, ha⟩ ht)
theorem set1 {ty : TypeId} (hi : (Try.prog.info? ty).map (·.size) = some 1) (hgd : o.guard = none) (x y : Operand) (ho : o.op = .store ty x y) {g n : Nat} {v : Value} (hx : a.eval x = .pointer (some ⟨g, n, none⟩)) (hy : a.eval y = v) (h : DAt w g v1 v2 v3 v4 v5 f s t) (hn : n < 8) (hc : v.cells = #[v]) (hv : v.oneCell' = true)
    (hk : ∀ w2, Arr w2 g 55 ((deedCs v1 v2 v3 v4 v5 f s t).set n v) → Touch (fun b => b = g) w w2 → wpList Try.prog ops Q rest (a.put o.dst undef) w2) : wpList Try.prog ops Q (o :: rest) a w :=
  wpl_set_one hgd ty x y ho hx hy h.arr hn hi hc hv hk
theorem slSz1 : (Try.prog.info? 50).map (·.size) = some 1 := by kernel_rfl
theorem slSz2 : (Try.prog.info? 28).map (·.size) = some 1 := by kernel_rfl
theorem slSz3 : (Try.prog.info? 51).map (·.size) = some 1 := by kernel_rfl
theorem slSz4 : (Try.prog.info? 52).map (·.size) = some 1 := by kernel_rfl
theorem slSz5 : (Try.prog.info? 53).map (·.size) = some 1 := by kernel_rfl
theorem wpl_set_dins (hgd : o.guard = none) (x y : Operand) (ho : o.op = .store 50 x y) {g : Nat} {v : Value} (hx : a.eval x = .pointer (some ⟨g, 0, none⟩)) (hy : a.eval y = v) (hc : v.cells = #[v]) (hv : v.oneCell' = true) (h : DAt w g v1 v2 v3 v4 v5 f s t)
    (hk : ∀ w2, DAt w2 g v v2 v3 v4 v5 f s t → Touch (fun b => b = g) w w2 → wpList Try.prog ops Q rest (a.put o.dst undef) w2) : wpList Try.prog ops Q (o :: rest) a w :=
  set1 slSz1 hgd x y ho hx hy h (by decide) hc hv (fun w2 ha ht => hk w2 ⟨hv, h.o2, h.o3, h.o4, h.o5, ha⟩ ht)
theorem wpl_set_douts (hgd : o.guard = none) (x y : Operand) (ho : o.op = .store 28 x y) {g : Nat} {v : Value} (hx : a.eval x = .pointer (some ⟨g, 1, none⟩)) (hy : a.eval y = v) (hc : v.cells = #[v]) (hv : v.oneCell' = true) (h : DAt w g v1 v2 v3 v4 v5 f s t)
    (hk : ∀ w2, DAt w2 g v1 v v3 v4 v5 f s t → Touch (fun b => b = g) w w2 → wpList Try.prog ops Q rest (a.put o.dst undef) w2) : wpList Try.prog ops Q (o :: rest) a w :=
  set1 slSz2 hgd x y ho hx hy h (by decide) hc hv (fun w2 ha ht => hk w2 ⟨h.o1, hv, h.o3, h.o4, h.o5, ha⟩ ht)
theorem wpl_set_dcerts (hgd : o.guard = none) (x y : Operand) (ho : o.op = .store 51 x y) {g : Nat} {v : Value} (hx : a.eval x = .pointer (some ⟨g, 5, none⟩)) (hy : a.eval y = v) (hc : v.cells = #[v]) (hv : v.oneCell' = true) (h : DAt w g v1 v2 v3 v4 v5 f s t)
    (hk : ∀ w2, DAt w2 g v1 v2 v v4 v5 f s t → Touch (fun b => b = g) w w2 → wpList Try.prog ops Q rest (a.put o.dst undef) w2) : wpList Try.prog ops Q (o :: rest) a w :=
  set1 slSz3 hgd x y ho hx hy h (by decide) hc hv (fun w2 ha ht => hk w2 ⟨h.o1, h.o2, hv, h.o4, h.o5, ha⟩ ht)
theorem wpl_set_dpays (hgd : o.guard = none) (x y : Operand) (ho : o.op = .store 52 x y) {g : Nat} {v : Value} (hx : a.eval x = .pointer (some ⟨g, 6, none⟩)) (hy : a.eval y = v) (hc : v.cells = #[v]) (hv : v.oneCell' = true) (h : DAt w g v1 v2 v3 v4 v5 f s t)
    (hk : ∀ w2, DAt w2 g v1 v2 v3 v v5 f s t → Touch (fun b => b = g) w w2 → wpList Try.prog ops Q rest (a.put o.dst undef) w2) : wpList Try.prog ops Q (o :: rest) a w :=
  set1 slSz4 hgd x y ho hx hy h (by decide) hc hv (fun w2 ha ht => hk w2 ⟨h.o1, h.o2, h.o3, hv, h.o5, ha⟩ ht)
theorem wpl_set_dwits (hgd : o.guard = none) (x y : Operand) (ho : o.op = .store 53 x y) {g : Nat} {v : Value} (hx : a.eval x = .pointer (some ⟨g, 7, none⟩)) (hy : a.eval y = v) (hc : v.cells = #[v]) (hv : v.oneCell' = true) (h : DAt w g v1 v2 v3 v4 v5 f s t)
    (hk : ∀ w2, DAt w2 g v1 v2 v3 v4 v f s t → Touch (fun b => b = g) w w2 → wpList Try.prog ops Q rest (a.put o.dst undef) w2) : wpList Try.prog ops Q (o :: rest) a w :=
  set1 slSz5 hgd x y ho hx hy h (by decide) hc hv (fun w2 ha ht => hk w2 ⟨h.o1, h.o2, h.o3, h.o4, hv, ha⟩ ht)
theorem wpl_set_dfee (hgd : o.guard = none) (x y : Operand) (ho : o.op = .store 23 x y) {g n : Nat} (hx : a.eval x = .pointer (some ⟨g, 2, none⟩)) (hy : a.eval y = .int .u64 n) (h : DAt w g v1 v2 v3 v4 v5 f s t)
    (hk : ∀ w2, DAt w2 g v1 v2 v3 v4 v5 n s t → Touch (fun b => b = g) w w2 → wpList Try.prog ops Q rest (a.put o.dst undef) w2) : wpList Try.prog ops Q (o :: rest) a w :=
  set1 u64Sz hgd x y ho hx hy h (by decide) rfl rfl (fun w2 ha ht => hk w2 ⟨h.o1, h.o2, h.o3, h.o4, h.o5, ha⟩ ht)
theorem wpl_set_dfrm (hgd : o.guard = none) (x y : Operand) (ho : o.op = .store 23 x y) {g n : Nat} (hx : a.eval x = .pointer (some ⟨g, 3, none⟩)) (hy : a.eval y = .int .u64 n) (h : DAt w g v1 v2 v3 v4 v5 f s t)
    (hk : ∀ w2, DAt w2 g v1 v2 v3 v4 v5 f n t → Touch (fun b => b = g) w w2 → wpList Try.prog ops Q rest (a.put o.dst undef) w2) : wpList Try.prog ops Q (o :: rest) a w :=
  set1 u64Sz hgd x y ho hx hy h (by decide) rfl rfl (fun w2 ha ht => hk w2 ⟨h.o1, h.o2, h.o3, h.o4, h.o5, ha⟩ ht)
theorem wpl_set_dtil (hgd : o.guard = none) (x y : Operand) (ho : o.op = .store 23 x y) {g n : Nat} (hx : a.eval x = .pointer (some ⟨g, 4, none⟩)) (hy : a.eval y = .int .u64 n) (h : DAt w g v1 v2 v3 v4 v5 f s t)
    (hk : ∀ w2, DAt w2 g v1 v2 v3 v4 v5 f s n → Touch (fun b => b = g) w w2 → wpList Try.prog ops Q rest (a.put o.dst undef) w2) : wpList Try.prog ops Q (o :: rest) a w :=
  set1 u64Sz hgd x y ho hx hy h (by decide) rfl rfl (fun w2 ha ht => hk w2 ⟨h.o1, h.o2, h.o3, h.o4, h.o5, ha⟩ ht)
end
theorem ret_deed_tmp {fn : Func} {q u : Tmp} (hr : fn.results = #[.cell q 55, .tmp u]) (tmps : Array Value) (w : World) {g : Nat} {v1 v2 v3 v4 v5 : Value} {f s t : Nat} (v : Value) (hp : tmps.getD q undef = .pointer (some ⟨g, 0, none⟩)) (hu : tmps.getD u undef = v) (h : DAt w g v1 v2 v3 v4 v5 f s t) :
    (results fn tmps).run Try.prog w = .ok (.tuple #[deedV v1 v2 v3 v4 v5 f s t, v]) w :=
  results_row_tmp hr tmps w g 55 (deedCs v1 v2 v3 v4 v5 f s t).toArray (0, 0) _ v hp hu h.arr Try.underlying55 rfl deedSize
/-- A deed whose parts are one's own, from B on. -/
def DeedOwn (w : World) (B : Nat) (v : Value) (d : Deed) : Prop := ∃ v1 v2 v3 v4 v5, v = deedV v1 v2 v3 v4 v5 d.fee d.frm d.til ∧ OwnR w B 60 33 v1 (d.ins.map inCs) [] ∧ OwnR w B 48 65 v2 (d.outs.map outCs) [] ∧ OwnR w B 133 68 v3 (d.certs.map certCs) [] ∧ OwnR w B 138 33 v4 (d.pays.map payCs) [] ∧ OwnR w B 142 33 v5 (d.wits.map witCs) [] ∧ d.Ok
theorem DeedOwn.is {w : World} {B : Nat} {v : Value} {d : Deed} (h : DeedOwn w B v d) : DeedIs w v d := by
  obtain ⟨v1, v2, v3, v4, v5, h0, h1, h2, h3, h4, h5, h6⟩ := h
  exact ⟨v1, v2, v3, v4, v5, h0, h1.sl, h2.sl, h3.sl, h4.sl, h5.sl, h6⟩
theorem DeedOwn.later {w w' : World} {B : Nat} {v : Value} {d : Deed} (h : DeedOwn w B v d) (hb : Below w.heap.size w w') : DeedOwn w' B v d := by
  obtain ⟨v1, v2, v3, v4, v5, h0, h1, h2, h3, h4, h5, h6⟩ := h
  exact ⟨v1, v2, v3, v4, v5, h0, h1.later hb, h2.later hb, h3.later hb, h4.later hb, h5.later hb, h6⟩
theorem DeedOwn.tt {w w' : World} {B g : Nat} {v : Value} {d : Deed} (h : DeedOwn w B v d) (ht : Touch (fun b => b = g) w w') (hg : g < B) : DeedOwn w' B v d := by
  obtain ⟨v1, v2, v3, v4, v5, h0, h1, h2, h3, h4, h5, h6⟩ := h
  exact ⟨v1, v2, v3, v4, v5, h0, h1.tg ht hg, h2.tg ht hg, h3.tg ht hg, h4.tg ht hg, h5.tg ht hg, h6⟩
theorem DeedOwn.nil (w : World) (B : Nat) : DeedOwn w B (deedV nilS nilS nilS nilS nilS 0 0 0) deed0 := ⟨nilS, nilS, nilS, nilS, nilS, rfl, OwnR.nil _ _ _ _, OwnR.nil _ _ _ _, OwnR.nil _ _ _ _, OwnR.nil _ _ _ _, OwnR.nil _ _ _ _, deed0_ok⟩
theorem DeedIs.ok {w : World} {v : Value} {d : Deed} (h : DeedIs w v d) : d.Ok := by obtain ⟨_, _, _, _, _, _, _, _, _, _, _, ok⟩ := h; exact ok
end Go.Proofs.Ytbbfnpfkbbpjgaa

/- What a reader has read, that may have met what is wrong. Plain law. -/
namespace Go.Proofs.Ytbbfnpfkbbpjgaa
open Go.RowKit Go.Lib
set_option linter.unusedVariables false
set_option linter.unusedSimpArgs false

/-- With st ahead (none: something was wrong) p has read v, and st' is ahead. -/
def Got {α : Type} (p : Rdr α) (st : Option (List UInt8)) (v : α) (st' : Option (List UInt8)) : Prop :=
  (∀ s, st = some s → (∃ r, p s = some (v, r) ∧ st' = some r) ∨ (p s = none ∧ st' = none)) ∧ (st = none → st' = none)
theorem got_pure {α : Type} (a : α) (st : Option (List UInt8)) : Got (pureP a) st a st := ⟨fun s h => .inl ⟨s, rfl, h⟩, fun h => h⟩
theorem Got.bind {α β : Type} {p : Rdr α} {q : α → Rdr β} {st st1 st2 : Option (List UInt8)} {a : α} {b : β} (h : Got p st a st1) (k : Got (q a) st1 b st2) : Got (bindP p q) st b st2 := by
  refine ⟨fun s hs => ?_, fun hs => k.2 (h.2 hs)⟩
  rcases h.1 s hs with ⟨r, h1, h2⟩ | ⟨h1, h2⟩
  · rw [bind_some h1]; exact k.1 r h2
  · rw [bind_none h1]; exact .inr ⟨rfl, k.2 h2⟩
theorem Got.last {α β : Type} {p : Rdr α} {f : α → β} {st st1 : Option (List UInt8)} {a : α} (h : Got p st a st1) : Got (bindP p fun a => pureP (f a)) st (f a) st1 := h.bind (got_pure _ _)
/-- Too many. -/
theorem got_over {α : Type} (v : α) (st : Option (List UInt8)) : Got (fun _ => none) st v none := ⟨fun _ _ => .inr ⟨rfl, rfl⟩, fun _ => rfl⟩
theorem got_bad {α : Type} (p : Rdr α) (v : α) : Got p none v none := ⟨fun _ h => (by cases h), fun _ => rfl⟩
/-- n things more. -/
theorem got_none {α : Type} (p : Rdr α) (st : Option (List UInt8)) : Got (manyP p 0) st [] st := got_pure _ _
theorem manyP_snoc {α : Type} (p : Rdr α) : ∀ n s, manyP p (n + 1) s = bindP (manyP p n) (fun l => bindP p fun a => pureP (l ++ [a])) s
  | 0, s => by
    show bindP p _ s = bindP (pureP []) _ s
    rw [bind_some (show pureP [] s = some ([], s) from rfl)]
    cases h : p s with
    | none => rw [bind_none h, bind_none h]
    | some x => obtain ⟨a, r⟩ := x; rw [bind_some h, bind_some h]; rfl
  | n + 1, s => by
    show bindP p (fun a => bindP (manyP p (n + 1)) fun l => pureP (a :: l)) s = bindP (bindP p fun a => bindP (manyP p n) fun l => pureP (a :: l)) _ s
    cases h : p s with
    | none => rw [bind_none h, bind_none (bind_none h)]
    | some x =>
      obtain ⟨a, r⟩ := x
      rw [bind_some h]
      have e := manyP_snoc p n r
      cases hm : manyP p n r with
      | none =>
        rw [bind_none hm] at e
        rw [bind_none e, bind_none (by rw [bind_some h, bind_none hm])]
      | some y =>
        obtain ⟨l, t⟩ := y
        rw [bind_some hm] at e
        have e2 : bindP p (fun a => bindP (manyP p n) fun l => pureP (a :: l)) s = some (a :: l, t) := by rw [bind_some h, bind_some hm]; rfl
        rw [bind_some e2]
        cases hp : p t with
        | none => rw [bind_none hp] at e; rw [bind_none e, bind_none hp]
        | some z =>
          obtain ⟨b, u⟩ := z
          rw [bind_some hp] at e
          rw [bind_some e, bind_some hp]
          rfl
theorem Got.snoc {α : Type} {p : Rdr α} {n : Nat} {st st1 st2 : Option (List UInt8)} {l : List α} {a : α} (h : Got (manyP p n) st l st1) (k : Got p st1 a st2) : Got (manyP p (n + 1)) st (l ++ [a]) st2 := by
  have e : manyP p (n + 1) = bindP (manyP p n) (fun l => bindP p fun a => pureP (l ++ [a])) := funext (manyP_snoc p n)
  rw [e]
  exact h.bind k.last
theorem Got.list {α : Type} {p : Rdr α} {most n : Nat} {st st1 st2 : Option (List UInt8)} {l : List α} (h : Got numP st n st1) (hn : ¬ most < n) (k : Got (manyP p n) st1 l st2) : Got (listP most p) st l st2 :=
  h.bind (by rw [if_neg hn]; exact k)
theorem Got.over {α : Type} {p : Rdr α} {most n : Nat} {st st1 : Option (List UInt8)} (h : Got numP st n st1) (hn : most < n) (l : List α) : Got (listP most p) st l none :=
  h.bind (by rw [if_pos hn]; exact got_over l st1)
/-- What was begun, and was wrong. -/
theorem Got.stop {α : Type} {p : Rdr α} {n k : Nat} {st : Option (List UInt8)} {l : List α} (h : Got (manyP p n) st l none) (m : List α) : Got (manyP p (n + k)) st m none := by
  induction k with
  | zero => exact ⟨fun s hs => by
      rcases h.1 s hs with ⟨r, _, h2⟩ | h2
      · cases h2
      · exact .inr h2, fun _ => rfl⟩
  | succ k ih =>
    refine ⟨fun s hs => .inr ⟨?_, rfl⟩, fun _ => rfl⟩
    rcases ih.1 s hs with ⟨r, _, h2⟩ | ⟨h2, _⟩
    · cases h2
    · show manyP p (n + k + 1) s = none
      rw [manyP_snoc, bind_none h2]
/-- The end of Take: a deed was read, and nothing is left. -/
theorem takeD_got {s : List UInt8} {d : Deed} {st : Option (List UInt8)} (h : Got deedP (some s) d st) : takeD s = if st = some [] ∧ mayD d = true then (d, 0) else (deed0, 6) := by
  unfold takeD
  rcases h.1 s rfl with ⟨r, h1, h2⟩ | ⟨h1, h2⟩
  · rw [h1, h2]
    cases r with
    | nil => simp
    | cons x y => simp
  · rw [h1, h2]
    simp
end Go.Proofs.Ytbbfnpfkbbpjgaa
