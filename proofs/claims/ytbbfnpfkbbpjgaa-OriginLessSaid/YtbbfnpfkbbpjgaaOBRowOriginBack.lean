/- The row of OriginBack: the law returns true for every input; by the walk in YtbbfnpfkbbpjgaaOriginBack. No condition. -/
import Derived.Test.YtbbfnpfkbbpjgaaOBMBase
import Derived.Test.YtbbfnpfkbbpjgaaOBRowOriginTakes
import Derived.Lib.SmallJoins
import Derived.SliceStrings
import Derived.Test.YtbbfnpfkbbpjgaaOBOpenOrig
import Derived.SizedLaws
import Derived.Test.YtbbfnpfkbbpjgaaOBTakeW
import Derived.Test.YtbbfnpfkbbpjgaaOBHdAt
import Derived.Test.YtbbfnpfkbbpjgaaOBSlEl
import Derived.Test.YtbbfnpfkbbpjgaaOBMCells
import Derived.Test.YtbbfnpfkbbpjgaaOBEvoL
import Derived.Test.YtbbfnpfkbbpjgaaOBStep
import Derived.Test.YtbbfnpfkbbpjgaaOBMRef
namespace Go.Proofs.Ytbbfnpfkbbpjgaa.originBack
open Go.ChangeShapes Go.WideShapes Go.ChangeAt Go.RowKit Go.WideMaps Go.WideElems
open Go.ChangeMaps (open_string)
set_option linter.unusedVariables false

set_option maxRecDepth 100000 in
theorem lifted (os : Os) (started : os.Started) (H : Type) (enc : TypeId × Value → H) :
    ReturnsInHanded {} Try.checked os 4 .any (Rows.originBackSpec.pre6 enc Try.prog Try.f4 Rows.originBackRow.domain false) (Rows.originBackSpec.post enc Try.prog Try.f4 false true false false) := by
  refine returnsInHanded_of_change_sized (C := Try.checked) ownsKnob started (by kernel_rfl) Try.func4
    (ChangeSpec.witness6 (enc := enc) (C := Try.checked) false ⟨#[], #[.agg #[.int .u64 0, .int .u64 0, .int .u64 0, .int .u64 0, .int .u64 0, .int .u64 0, .int .u64 0, .int .u64 0, .int .u64 0, .int .u64 0, .int .u64 0, .int .u64 0, .int .u64 0, .int .u64 0, .int .u64 0, .int .u8 0, .int .u8 0, .int .u8 0, .int .u8 0, .int .u8 0, .int .u8 0, .int .u8 0, .int .u8 0, .int .u8 0, .int .u8 0, .int .u8 0, .int .u8 0, .int .u8 0, .int .u8 0, .int .u8 0, .int .u8 0, .int .u8 0, .int .u8 0, .int .u8 0, .int .u8 0, .int .u8 0, .int .u8 0, .int .u8 0, .int .u8 0, .int .u8 0, .int .u8 0, .int .u8 0, .int .u8 0, .int .u8 0, .int .u8 0, .int .u8 0, .int .u8 0, .slice none 0 0, .slice none 0 0, .slice none 0 0], .string ByteArray.empty], []⟩ 8 (by kernel_rfl) (by kernel_rfl) (by kernel_rfl) (by kernel_rfl)) ?_
  intro W base args ds gs before hval0 hW hcnd hz _
  have hval : ∀ (j : Nat) t v, Try.f4.params[j]? = some t → args[j]? = some v → Value.okWide Try.prog W .any base t v := hval0
  have hW' := hW
  obtain ⟨p, q, hA0, hV, rfl, hfz, hnd⟩ := hW
  have hA : DataW.TrodAll enc Try.prog W 0 (fun _ => true) true Try.f4.params.toList args.toList ds p := hA0
  rw [Try.params4] at hA hval
  rw [Try.params4] at hz
  obtain ⟨v0, vs0, d0, ds0, p0, q0, hargs, rfl, rfl, h0, r0⟩ := trodAll_cons hA
  obtain ⟨v1, vs1, d1, ds1, p1, q1, rfl, rfl, rfl, h1, r1⟩ := trodAll_cons r0
  obtain ⟨rfl, rfl, rfl⟩ := trodAll_nil r1
  obtain rfl : args = #[v0, v1] := by cases args; simp_all
  obtain ⟨rfl, rfl⟩ := trodVars_none hV
  obtain ⟨a0, w0, z0⟩ := open_orig (hval 0 32 v0 rfl rfl) h0
  have y0 := z0 reachBytes (fun m hm => of_decide_eq_true (List.all_eq_true.1 hz m (DataW.weights_mem_each (j := 0) rfl rfl m hm)))
  obtain ⟨a1, rfl, e1, _, w1⟩ := open_string Try.underlying9 (hval 1 9 v1 rfl rfl) h1
  refine (originBack_any W v0 a0 w0 y0.1 y0.2.1 y0.2.2 a1 w1).mono fun e W' ⟨he, hb⟩ => ?_
  subst he
  exact ⟨_, rfl, law_post isLaidOut (by kernel_rfl) (by kernel_rfl) Try.underlying4 rfl hW' hb ⟨rfl, rfl, rfl⟩⟩

theorem over : Rows.originBackRow.holds Try.pinned (OpenSpec.ofChange Rows.originBackSpec) :=
  OpenClaim.holds_of_wide 4 Try.f4 rfl rfl rfl rfl rfl rfl rfl ⟨rfl, rfl, rfl, rfl, rfl⟩ rfl rfl rfl rfl rfl (by kernel_rfl) Try.func4 (by kernel_rfl)
    (of_decide_eq_true (by kernel_rfl)) (by unfold Func.isWrapper; first | (rw [if_pos (by decide +kernel)]; kernel_rfl) | (rw [if_neg (by decide +kernel)]; exact ⟨rfl, rfl⟩))
    (fun os started H enc _ => lifted os started H enc)

theorem proved : Rows.OriginBackSaid :=
  over
#print axioms proved
end Go.Proofs.Ytbbfnpfkbbpjgaa.originBack

/- Origins with less: plain law. -/
namespace Go.Proofs.Ytbbfnpfkbbpjgaa
open Go.RowKit Go.Lib
set_option linter.unusedVariables false
set_option linter.unusedSimpArgs false

theorem less_trans : ∀ (a b c : List UInt8), Op.bytesLess a b = true → Op.bytesLess b c = true → Op.bytesLess a c = true
  | _, [], _, h, _ => by simp [Op.bytesLess] at h
  | _, _ :: _, [], _, h => by simp [Op.bytesLess] at h
  | [], _ :: _, _ :: _, _, _ => by simp [Op.bytesLess]
  | x :: a, y :: b, z :: c, h, k => by
    simp only [Op.bytesLess, Bool.or_eq_true, decide_eq_true_eq, Bool.and_eq_true, beq_iff_eq] at h k ⊢
    rcases h with h | ⟨rfl, h⟩
    · rcases k with k | ⟨rfl, k⟩
      · exact .inl (UInt8.lt_trans h k)
      · exact .inl h
    · rcases k with k | ⟨rfl, k⟩
      · exact .inl k
      · exact .inr ⟨rfl, less_trans a b c h k⟩
theorem rises_tail {α : Type} (g : α → List UInt8) (x : α) (l : List α) (h : risesB g (x :: l) = true) : risesB g l = true := by
  cases l with
  | nil => rfl
  | cons y l => simp only [risesB, Bool.and_eq_true] at h; exact h.2
theorem rises_out {α : Type} (g : α → List UInt8) (x : α) (r : List α) : ∀ l : List α, risesB g (l ++ x :: r) = true → risesB g (l ++ r) = true
  | [], h => rises_tail g x r h
  | [a], h => by
    cases r with
    | nil => rfl
    | cons b r =>
      simp only [List.cons_append, List.nil_append, risesB, Bool.and_eq_true] at h ⊢
      exact ⟨less_trans _ _ _ h.1 h.2.1, h.2.2⟩
  | a :: b :: l, h => by
    have ih := rises_out g x r (b :: l)
    simp only [List.cons_append, risesB, Bool.and_eq_true] at h ih ⊢
    exact ⟨h.1, ih h.2⟩
/-- A list without the thing at a place. -/
def outAt {α : Type} (i : Nat) (l : List α) : List α := l.take i ++ l.drop (i + 1)
theorem outAt_len {α : Type} (i : Nat) (l : List α) : (outAt i l).length ≤ l.length := by unfold outAt; rw [List.length_append, List.length_take, List.length_drop]; omega
theorem outAt_mem {α : Type} {i : Nat} {l : List α} {x : α} (h : x ∈ outAt i l) : x ∈ l := by
  unfold outAt at h
  rcases List.mem_append.1 h with h | h
  · exact List.mem_of_mem_take h
  · exact List.mem_of_mem_drop h
theorem outAt_split {α : Type} {i : Nat} {l : List α} {x : α} (h : l[i]? = some x) : l = l.take i ++ x :: l.drop (i + 1) := by
  obtain ⟨hi, rfl⟩ := List.getElem?_eq_some_iff.1 h
  rw [← List.drop_eq_getElem_cons hi, List.take_append_drop]
theorem outAt_not {α : Type} {i : Nat} {l : List α} (h : l.length ≤ i) : outAt i l = l := by unfold outAt; rw [List.take_of_length_le h, List.drop_of_length_le (by omega), List.append_nil]
theorem outAt_rises {α : Type} (g : α → List UInt8) (i : Nat) (l : List α) (h : risesB g l = true) : risesB g (outAt i l) = true := by
  rcases Nat.lt_or_ge i l.length with hi | hi
  · rw [outAt_split (List.getElem?_eq_getElem hi)] at h
    exact rises_out g _ _ _ h
  · rw [outAt_not hi]; exact h
theorem outAt_sum {i : Nat} {l : List OutT} {x : OutT} (h : l[i]? = some x) : ((outAt i l).map OutT.amount).sum + x.amount = (l.map OutT.amount).sum := by
  conv => rhs; rw [outAt_split h]
  unfold outAt
  simp only [List.map_append, List.sum_append, List.map_cons, List.sum_cons]
  omega
/-- An origin with these coins, these trusts, that much of reserves. -/
def withO (o : Orig) (r : Nat) (c : List OutT) (u : List TrustT) : Orig := { o with reserves := r, coins := c, trusts := u }
theorem withO_ok {o : Orig} (h : o.Ok) {r : Nat} {c : List OutT} {u : List TrustT} (hr : r ≤ o.reserves) (hc : ∀ x ∈ c, x ∈ o.coins) (hu : ∀ x ∈ u, x ∈ o.trusts) : (withO o r c u).Ok :=
  ⟨h.k, h.epoch, h.period, h.rateA, h.rateB, h.plen, h.params, Nat.lt_of_le_of_lt hr h.reserves, h.treasury, h.nonce, fun x hx => h.coins x (hc x hx), h.seats, fun x hx => h.trusts x (hu x hx)⟩
theorem withO_may {o : Orig} (h : mayOr o = true) {r : Nat} {c : List OutT} {u : List TrustT} (hr : r ≤ o.reserves) (hs : (c.map OutT.amount).sum ≤ (o.coins.map OutT.amount).sum) (hcl : c.length ≤ o.coins.length) (hul : u.length ≤ o.trusts.length) (hc : ∀ x ∈ c, x ∈ o.coins) (hu : ∀ x ∈ u, x ∈ o.trusts) (hur : risesB TrustT.key u = true) : mayOr (withO o r c u) = true := by
  simp only [mayOr, listsB, sizesB, totalN, Bool.and_eq_true, decide_eq_true_eq, List.all_eq_true] at h ⊢
  obtain ⟨h1, h2, h3, ⟨h4, h5, h6⟩, h7, h8, h9, ha, hb⟩ := h
  refine ⟨h1, h2, ?_, ⟨Nat.le_trans hcl h4, h5, Nat.le_trans hul h6⟩, h7, hur, fun x hx => h9 x (hc x hx), ha, fun x hx => hb x (hu x hx)⟩
  have h3' : o.reserves + o.treasury + (o.coins.map OutT.amount).sum < 9223372036854775808 := of_decide_eq_true h3
  refine decide_eq_true ?_
  show r + o.treasury + (c.map OutT.amount).sum < 9223372036854775808
  omega
theorem withO_total (o : Orig) (r : Nat) (c : List OutT) (u : List TrustT) : totalN (withO o r c u) = r + o.treasury + (c.map OutT.amount).sum := rfl
theorem total_lt {o : Orig} (h : mayOr o = true) : totalN o < 9223372036854775808 := by
  simp only [mayOr, Bool.and_eq_true, decide_eq_true_eq] at h
  exact h.2.2.1
end Go.Proofs.Ytbbfnpfkbbpjgaa

/- Slices of a slice, an empty literal: as steps. -/
namespace Go.Proofs.Ytbbfnpfkbbpjgaa
open Go.RowKit Go.Lib
set_option linter.unusedVariables false
set_option linter.unusedSimpArgs false

theorem Sl.pre {w : World} {b k n c sz : Nat} {els : List (List Value)} (h : Sl w (.slice (some ⟨b, k, none⟩) n c) sz els) (i : Nat) (hi : i ≤ n) : Sl w (.slice (some ⟨b, k, none⟩) i c) sz (els.take i) := by
  obtain ⟨a, cap, h1, h2, h3, h4, h0, h5⟩ := h
  simp only [Value.slice.injEq] at h1
  obtain ⟨rfl, rfl, rfl⟩ := h1
  refine ⟨_, c, by rw [List.length_take, Nat.min_eq_left hi], by rw [List.length_take]; omega, h3, fun e he => h4 e (List.mem_of_mem_take he), (fun h => by cases h), fun hne => ?_⟩
  have hne2 : els ≠ [] := by rintro rfl; simp at hne
  obtain ⟨b', k', e1, e2, e3⟩ := h5 hne2
  refine ⟨b', k', e1, e2, fun j e he => e3 j e ?_⟩
  rw [List.getElem?_take] at he
  split at he
  · exact he
  · cases he
theorem Sl.suf {w : World} {b k n c sz : Nat} {els : List (List Value)} (h : Sl w (.slice (some ⟨b, k, none⟩) n c) sz els) (i : Nat) (hi : i ≤ n) (a : Option Addr) (ha : a = if c = i then some ⟨b, k, none⟩ else some ⟨b, k + i * sz, none⟩) : Sl w (.slice a (n - i) (c - i)) sz (els.drop i) := by
  obtain ⟨a0, cap, h1, h2, h3, h4, h0, h5⟩ := h
  simp only [Value.slice.injEq] at h1
  obtain ⟨rfl, rfl, rfl⟩ := h1
  refine ⟨a, c - i, by rw [List.length_drop], by rw [List.length_drop]; omega, by omega, fun e he => h4 e (List.mem_of_mem_drop he), fun h => (by rw [ha] at h; split at h <;> cases h), fun hne => ?_⟩
  have hlt : i < els.length := by
    rcases Nat.lt_or_ge i els.length with h | h
    · exact h
    · exact absurd (List.drop_of_length_le h) hne
  have hne2 : els ≠ [] := by rintro rfl; simp at hlt
  obtain ⟨b', k', e1, e2, e3⟩ := h5 hne2
  simp only [Option.some.injEq, Addr.mk.injEq, and_true] at e1
  obtain ⟨rfl, rfl⟩ := e1
  refine ⟨b, k + i * sz, by rw [ha, if_neg (by omega)], e2, fun j e he => ?_⟩
  rw [List.getElem?_drop] at he
  have := e3 (i + j) e he
  rwa [show k + i * sz + j * sz = k + (i + j) * sz by rw [Nat.add_mul]; omega]
section
variable {P : Program} {ops : Array Oper} {rest : List Oper} {o : Oper} {a : Act} {w : World} {Q : Exit → Act → World → Prop}
/-- A literal of no elements. -/
theorem wpl_row0 (hw : Region.wanted o (yielded ops a.tmps) = true) {t e sz by' : Nat} (E : ElemOf P t e sz by') (ho : o.op = .buildSlice t 0 #[])
    (hk : ∀ w2 g, w.heap.size ≤ g → OwnR w2 w.heap.size e sz (.slice (some ⟨g, 0, none⟩) 0 0) [] [] → Below w.heap.size w w2 → wpList P ops Q rest (a.put o.dst (.slice (some ⟨g, 0, none⟩) 0 0)) w2) : wpList P ops Q (o :: rest) a w := by
  obtain ⟨ht, pos, i, z, hi, hz, hs, hby, hzs⟩ := E
  refine BigFrame.wpList_want hw fun _ hK => ?_
  have hr : (Instr.buildSlice t 0 #[]).run P w = .ok (.slice (some ⟨w.heap.size, 0, none⟩) 0 0) (w.alloc (.cells #[] e)) := by
    simp [Instr.buildSlice, run_underlying ht, sizeOf, typeInfo, hi, Instr.fill, newRow, run_newObj]
    rw [show Array.map (fun _ : Nat => (default : Value)) (Array.range 0) = #[] from Array.eq_empty_of_size_eq_zero (by simp)]
  unfold Oper.wp execOp
  simp only [ho, List.map_toArray, List.map_nil, Sem.run_bind, hr, Result.andThen_ok]
  have hlit := World.ownsRow_lit (base := w.heap.size) (e := e) (size := sz) w #[] 0 (Nat.le_refl _) (Nat.zero_le _) (by simp)
  exact hK _ _ (hk _ _ (Nat.le_refl _) ⟨by simpa using hlit, Els.nil _, by simp⟩ (below1 w _))
theorem run_at {t e : TypeId} (ht : P.underlying t = some (.slice e)) (x : Value) (l h m : Option Value) (w : World) : (Instr.sliceAt t x l h m).run P w = (Instr.slice t x l h m).run P w := by
  simp only [Instr.sliceAt, run_underlying ht, Sem.run_bind, Result.andThen_ok]
theorem run_pre {t e : TypeId} {sz by' : Nat} (ht : P.underlying t = some (.slice e)) (hs : ∃ i, P.info? e = some i ∧ i.size = sz ∧ i.bytes = by') (b k n c I : Nat) (h1 : I ≤ c) (w : World) : (Instr.slice t (.slice (some ⟨b, k, none⟩) n c) none (some (.int .i64 (I : Int))) none).run P w = .ok (.slice (some ⟨b, k, none⟩) I c) w := by
  obtain ⟨i, hi, _⟩ := hs
  have hc : (0 : Int) ≤ (I : Int) ∧ (I : Int) ≤ (c : Int) := by omega
  simp only [Instr.slice, run_underlying ht, Sem.run_bind, Result.andThen_ok, Instr.sliceBounds, Instr.sliceBound, asIntOf, Sem.run_pure]
  rw [if_pos hc]
  simp only [Sem.run_pure, Result.andThen_ok, sizeOf, typeInfo, hi, Sem.run_bind, Int.toNat_natCast, Nat.zero_mul, Nat.sub_zero]
  split <;> simp [hi, Cells.add]
theorem run_suf {t e : TypeId} {sz by' : Nat} (ht : P.underlying t = some (.slice e)) (hs : ∃ i, P.info? e = some i ∧ i.size = sz ∧ i.bytes = by') (b k n c I : Nat) (h1 : I ≤ n) (w : World) : (Instr.slice t (.slice (some ⟨b, k, none⟩) n c) (some (.int .i64 (I : Int))) none none).run P w = .ok (.slice (if c = I then some ⟨b, k, none⟩ else some ⟨b, k + I * sz, none⟩) (n - I) (c - I)) w := by
  obtain ⟨i, hi, hsz, _⟩ := hs
  have hc : (0 : Int) ≤ (I : Int) ∧ (I : Int) ≤ (n : Int) := by omega
  simp only [Instr.slice, run_underlying ht, Sem.run_bind, Result.andThen_ok, Instr.sliceBounds, Instr.sliceBound, asIntOf, Sem.run_pure]
  rw [if_pos hc]
  simp only [Sem.run_pure, Result.andThen_ok, sizeOf, typeInfo, hi, Sem.run_bind, Int.toNat_natCast]
  subst hsz
  split <;> simp [hi, Cells.add]
end
section
variable {P : Program} {ops : Array Oper} {rest : List Oper} {o : Oper} {a : Act} {w : World} {C : World → Prop} {K : Act → Prop}
theorem quiet_pre {t e : TypeId} {sz by' : Nat} (E : ElemOf P t e sz by') (x y : Operand) (ho : o.op = .slice t x none (some y) none) {b k n c I : Nat} (hx : a.eval x = .slice (some ⟨b, k, none⟩) n c) (hy : a.eval y = .int .i64 (I : Int)) (h1 : I ≤ c) (hk : K (a.put o.dst (.slice (some ⟨b, k, none⟩) I c))) : o.quiet P a C K :=
  quiet_value _ (fun w _ => by
    obtain ⟨ht, _, i, z, hi, _, hs, hb, _⟩ := E
    unfold execOp
    simp only [ho, Option.map_none, Option.map_some, hx, hy, Sem.run_bind, run_at ht, run_pre ht ⟨i, hi, hs, hb⟩ b k n c I h1 w, Result.andThen_ok]
    rfl) hk
theorem quiet_suf {t e : TypeId} {sz by' : Nat} (E : ElemOf P t e sz by') (x y : Operand) (ho : o.op = .slice t x (some y) none none) {b k n c I : Nat} (hx : a.eval x = .slice (some ⟨b, k, none⟩) n c) (hy : a.eval y = .int .i64 (I : Int)) (h1 : I ≤ n) {ad : Option Addr} (ha : ad = if c = I then some ⟨b, k, none⟩ else some ⟨b, k + I * sz, none⟩) (hk : K (a.put o.dst (.slice ad (n - I) (c - I)))) : o.quiet P a C K :=
  quiet_value _ (fun w _ => by
    obtain ⟨ht, _, i, z, hi, _, hs, hb, _⟩ := E
    subst ha
    unfold execOp
    simp only [ho, Option.map_none, Option.map_some, hx, hy, Sem.run_bind, run_at ht, run_suf ht ⟨i, hi, hs, hb⟩ b k n c I h1 w, Result.andThen_ok]
    rfl) hk
end
end Go.Proofs.Ytbbfnpfkbbpjgaa

/- Package head: joined, signed, text, Put, Id. -/
namespace Go.Proofs.Ytbbfnpfkbbpjgaa
open Go.RowKit Go.Lib
set_option linter.unusedVariables false
set_option linter.unusedSimpArgs false

/-- What is signed of a head. -/
def signedL (d : Hd) : List UInt8 := eightL d.slot ++ (eightL d.number ++ (d.prev ++ (d.pool ++ (d.body ++ (eightL d.size ++ (eightL d.many ++ (d.right.hot ++ (eightL d.right.counter ++ (eightL d.right.start ++ d.right.sig.data.toList)))))))))
def tagSign : List UInt8 := [115, 105, 103, 110]
/-- The text that is signed of a head. -/
def textL (d : Hd) : List UInt8 := ofX tagSign [signedL d]
end Go.Proofs.Ytbbfnpfkbbpjgaa

/- Package head: Id, Seal, Sealed. -/
namespace Go.Proofs.Ytbbfnpfkbbpjgaa
open Go.RowKit Go.Lib
set_option linter.unusedVariables false
set_option linter.unusedSimpArgs false

/-- How a head is sealed. -/
def sealH (d : Hd) (k : Evo) : Hd × Int := if d.right.sig.size = 1024 ∧ k.d = 3 ∧ mayE k = true then ({ d with sig := ⟨(sigK k (textL d)).toArray⟩ }, 0) else (hd0, 2)
end Go.Proofs.Ytbbfnpfkbbpjgaa

/- The reference of layer 6: Over, May, Public. -/
namespace Go.Proofs.Ytbbfnpfkbbpjgaa
open Go.RowKit Go.Lib
set_option linter.unusedVariables false
set_option linter.unusedSimpArgs false

theorem Sl.st {w : World} {v : Value} {sz : Nat} {els : List (List Value)} (h : Sl w v sz els) : Stab (fun w => Sl w v sz els) w.heap.size w := Stab.of (fun _ _ h hb => Sl.later h hb) h
end Go.Proofs.Ytbbfnpfkbbpjgaa

/- The reference of layer 6: Key. -/
namespace Go.Proofs.Ytbbfnpfkbbpjgaa
open Go.RowKit Go.Lib
set_option linter.unusedVariables false
set_option linter.unusedSimpArgs false

/-- The rest of the way to period p: n rows of d. -/
def keyF (d p : Nat) : Nat → List UInt8 → List (List UInt8) × List (List UInt8) × List UInt8
  | 0, s => ([], [], s)
  | n + 1, s => if wayB d p (d - (n + 1)) then (zero32 :: (keyF d p n (rightL s)).1, pubE n (leftL s) :: (keyF d p n (rightL s)).2.1, (keyF d p n (rightL s)).2.2)
      else (rightL s :: (keyF d p n (leftL s)).1, pubE n (rightL s) :: (keyF d p n (leftL s)).2.1, (keyF d p n (leftL s)).2.2)
def keyE (d p : Nat) (s : List UInt8) : Evo := ⟨d, p, (keyF d p d s).2.2, (keyF d p d s).1, (keyF d p d s).2.1⟩
end Go.Proofs.Ytbbfnpfkbbpjgaa

/- Keys that forget: the plain laws of signing and checking, and of the way from key to key. No walk in sight. -/
namespace Go.Proofs.Ytbbfnpfkbbpjgaa
open Go.RowKit Go.Lib
set_option linter.unusedVariables false
set_option linter.unusedSimpArgs false

/-- A key's lists are lists of hashes. -/
def Whole (k : Evo) : Prop := k.leaf.length = 32 ∧ (∀ x ∈ k.right, x.length = 32) ∧ ∀ x ∈ k.side, x.length = 32
end Go.Proofs.Ytbbfnpfkbbpjgaa

/- The small things that the laws of layer 14 ask first: a sealed head. -/
namespace Go.Proofs.Ytbbfnpfkbbpjgaa
open Go.RowKit Go.Lib
set_option linter.unusedVariables false
set_option linter.unusedSimpArgs false

/-- The sealed head of the law, and what it is made of. -/
def p14 : List UInt8 := pubE 3 one32
def r14 : Rt := grantR two32 p14 0 3
def h14 : Hd := ⟨5, 0, zero32, zero32, zero32, 0, 0, r14, ByteArray.empty⟩
def s14 : Hd := (sealH h14 (keyE 3 0 one32)).1
end Go.Proofs.Ytbbfnpfkbbpjgaa

/- Laws of layer 14: what is gone through. -/
namespace Go.Proofs.Ytbbfnpfkbbpjgaa
open Go.RowKit Go.Lib
set_option linter.unusedVariables false
set_option linter.unusedSimpArgs false

theorem wf_u64 {x : Int} (h : (Lit.int .u64 x).wf = true) : 0 ≤ x ∧ x < 18446744073709551616 := by
  have : 0 ≤ x ∧ x ≤ 18446744073709551615 := by simpa [Lit.wf, IntKind.min, IntKind.max, IntKind.signed, IntKind.bits] using h
  omega
end Go.Proofs.Ytbbfnpfkbbpjgaa
