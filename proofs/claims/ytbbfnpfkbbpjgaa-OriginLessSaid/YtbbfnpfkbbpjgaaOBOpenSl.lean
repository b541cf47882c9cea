/- Arguments that are slices of flat elements: each element's cells are told by a function. Slices of hashes. -/
import Derived.Test.YtbbfnpfkbbpjgaaOBMBase
import Derived.Test.YtbbfnpfkbbpjgaaOBMCells
import Derived.SliceStrings
import Derived.Test.YtbbfnpfkbbpjgaaOBHdAt
import Derived.ChangeArms
import Derived.Test.YtbbfnpfkbbpjgaaOBSlEl
namespace Go.Proofs.Ytbbfnpfkbbpjgaa
open Go.ChangeShapes Go.WideShapes Go.RowKit
set_option linter.unusedVariables false
set_option linter.unusedSimpArgs false

/-- A list that each place of has something. -/
theorem list_of {α : Type} (n : Nat) (R : Nat → α → Prop) (h : ∀ i, i < n → ∃ y, R i y) : ∃ l : List α, l.length = n ∧ ∀ (i : Nat) (y : α), l[i]? = some y → R i y := by
  induction n with
  | zero => exact ⟨[], rfl, fun i y hi => by simp at hi⟩
  | succ n ih =>
    obtain ⟨l, hl, hr⟩ := ih (fun i hi => h i (by omega))
    obtain ⟨y, hy⟩ := h n (by omega)
    refine ⟨l ++ [y], by simp [hl], fun i z hz => ?_⟩
    by_cases hi : i < l.length
    · rw [List.getElem?_append_left hi] at hz
      exact hr i z hz
    · rw [List.getElem?_append_right (by omega)] at hz
      have h0 : i - l.length = 0 := by
        have := (List.getElem?_eq_some_iff.1 hz).1
        simp at this
        omega
      rw [h0] at hz
      simp at hz
      subst hz
      rwa [show i = n by omega]
/-- A slice of flat elements, from its cells. -/
theorem open_cells {H : Type} {enc : TypeId × Value → H} {w : World} {base : Nat} {spare : Nat → Bool} {held : Bool} {α : Type} (f : α → List Value) (Pr : α → Prop) {t e sz : Nat} (ht : Try.prog.underlying t = some (.slice e)) (hc : Try.prog.cellsOf e = sz) (hsz : 0 < sz)
    (each : ∀ fuel cs x, DataW.trod enc Try.prog w base spare held fuel e cs = some x → cs.length = sz → ∃ y, cs = f y ∧ Pr y) {fuel : Nat} {v : Value} {x : DataW H × List MemPlace}
    (hd : DataW.trod enc Try.prog w base spare held fuel t [v] = some x) : ∃ l : List α, Sl w v sz (l.map f) ∧ (∀ y ∈ l, Pr y) ∧ l.length ≤ maxLen := by
  rcases DataW.trod_slice ht hd with ⟨h1, _⟩ | ⟨a, len, cap, elems, rest, n, _, h1, _, hb, hl, hm, hlen, hel, _, _⟩
  · simp only [List.cons.injEq, and_true] at h1
    rw [h1]
    exact ⟨[], Sl.nil w sz, by simp, by simp⟩
  · simp only [List.cons.injEq, and_true] at h1
    rw [h1]
    have key : ∀ i, i < len → ∃ y : α, Pr y ∧ (f y).length = sz ∧ ∀ j, j < sz → w.cell? ((a.add (i * sz)).add j) = (f y)[j]? := by
      intro i hi
      have h2 := hel i hi
      have hi' : i < elems.length := by omega
      rw [List.getElem?_eq_getElem hi', Option.bind_eq_some_iff] at h2
      obtain ⟨cs, hcs, ht'⟩ := h2
      obtain ⟨_, hcl, hcell⟩ := World.cells?_some hcs
      rw [hc] at hcl hcell
      obtain ⟨y, rfl, hp⟩ := each _ _ _ ht' hcl
      exact ⟨y, hp, hcl, hcell⟩
    obtain ⟨l, hl1, hl2⟩ := list_of len _ key
    have hlm : l.length ≤ maxLen := by omega
    refine ⟨l, ⟨some a, cap, by rw [List.length_map, hl1], by rw [List.length_map, hl1]; exact hl, hm, ?_, fun h => (by cases h), fun hne => ?_⟩, ?_, hlm⟩
    · intro e' he
      obtain ⟨y, hy, rfl⟩ := List.mem_map.1 he
      obtain ⟨i, hi⟩ := List.mem_iff_getElem?.1 hy
      exact (hl2 i y hi).2.1
    · have h0 : 0 < l.length := by
        cases l with
        | nil => exact absurd rfl hne
        | cons => simp
      have hc0 := (hl2 0 _ (List.getElem?_eq_getElem h0)).2.2 0 hsz
      have hf0 := (hl2 0 _ (List.getElem?_eq_getElem h0)).2.1
      rw [List.getElem?_eq_getElem (by rw [hf0]; exact hsz)] at hc0
      obtain ⟨g, off, spot⟩ := a
      have hspot : spot = none := by simpa [Addr.add] using World.cell?_spot hc0
      subst hspot
      rw [Cells.add, Cells.add] at hc0
      refine ⟨g, off, rfl, World.block_lt_of_cell? w _ hc0, fun i e' he j u hu => ?_⟩
      rw [List.getElem?_map, Option.map_eq_some_iff] at he
      obtain ⟨y, hy, rfl⟩ := he
      obtain ⟨_, hfl, hcj⟩ := hl2 i y hy
      have := hcj j (by rw [← hfl]; exact (List.getElem?_eq_some_iff.1 hu).1)
      rw [Cells.add, Cells.add, hu] at this
      exact this
    · intro y hy
      obtain ⟨i, hi⟩ := List.mem_iff_getElem?.1 hy
      exact (hl2 i y hi).1
set_option maxRecDepth 100000 in
/-- Thirty-two cells that a hash has. -/
theorem hash_cells {H : Type} {enc : TypeId × Value → H} {w : World} {base : Nat} {spare : Nat → Bool} {held : Bool} {fuel : Nat} {cs : List Value} {x : DataW H × List MemPlace}
    (hf : DataW.trod enc Try.prog w base spare held fuel 27 cs = some x) (hcl : cs.length = 32) : ∃ l : List UInt8, cs = bvs l ∧ l.length = 32 := by
  obtain ⟨xs, m, _, _, hlen, hxs, hel⟩ := DataW.trod_array Try.underlying27 hf
  rw [cellsByte] at hel
  have hcell : ∀ i, (h : i < cs.length) → ∃ n : UInt8, cs[i] = .int .u8 (n.toNat : Int) := by
    intro i hi
    have h1 := hel i (by omega)
    have hx : i < xs.length := by omega
    rw [List.getElem?_eq_getElem hx] at h1
    obtain ⟨n, hn, _, hw⟩ := DataW.trod_int Try.underlying5 h1
    simp only [Nat.mul_one] at hn
    have h2 : ((cs.drop i).take 1)[0]? = some (.int .u8 n) := by rw [hn]; rfl
    have h3 : cs[i]? = some (.int .u8 n) := by
      rw [List.getElem?_take, if_pos (by omega), List.getElem?_drop, Nat.add_zero] at h2
      exact h2
    have hb := bounds_u8 hw
    refine ⟨UInt8.ofNat n.toNat, ?_⟩
    rw [List.getElem?_eq_getElem hi] at h3
    rw [Option.some.inj h3, UInt8.toNat_ofNat']
    congr 1
    omega
  refine ⟨cs.map (fun v => UInt8.ofNat (RowKit.intOf v).toNat), ?_, by simpa using hcl⟩
  apply List.ext_getElem
  · simp [bvs]
  · intro i h1 h2
    obtain ⟨n, hn⟩ := hcell i h1
    simp only [bvs, List.getElem_map, hn, RowKit.intOf]
    simp
end Go.Proofs.Ytbbfnpfkbbpjgaa

/- Arguments that are rights or heads: their fields. -/
namespace Go.Proofs.Ytbbfnpfkbbpjgaa
open Go.ChangeShapes Go.WideShapes Go.RowKit
set_option linter.unusedVariables false
set_option linter.unusedSimpArgs false

theorem cellsU64 : Try.prog.cellsOf 23 = 1 := by kernel_rfl
theorem u64_of {n : Int} (h : (Lit.int .u64 n).wf = true) : ∃ m : Nat, n = m ∧ m < 18446744073709551616 := by
  have h2 : 0 ≤ n ∧ n ≤ 18446744073709551615 := by simpa [Lit.wf, IntKind.min, IntKind.max, IntKind.signed, IntKind.bits] using h
  exact ⟨n.toNat, by omega, by omega⟩
/-- Cut a list in two. -/
theorem cut_at {α : Type} (L : List α) (k n m : Nat) (h : k + n = m) : L.drop k = (L.drop k).take n ++ L.drop m := by
  subst h
  rw [← List.drop_drop, List.take_append_drop]
end Go.Proofs.Ytbbfnpfkbbpjgaa

/- Arguments that are deeds, or parts of one: what they hold. -/
namespace Go.Proofs.Ytbbfnpfkbbpjgaa
open Go.ChangeShapes Go.WideShapes Go.RowKit
set_option linter.unusedVariables false
set_option linter.unusedSimpArgs false

set_option maxRecDepth 100000 in
theorem out_cells {H : Type} {enc : TypeId × Value → H} {w : World} {base : Nat} {spare : Nat → Bool} {held : Bool} {fuel : Nat} {cs : List Value} {x : DataW H × List MemPlace}
    (hf : DataW.trod enc Try.prog w base spare held fuel 48 cs = some x) (hcl : cs.length = 65) : ∃ y : OutT, cs = outCs y ∧ y.Ok := by
  obtain ⟨xs, m, _, _, hlen, hxs, hel⟩ := DataW.trod_struct Try.underlying48 hf
  have hxn : xs.length = 3 := hxs
  have e0 := hel 0 _ rfl
  have e1 := hel 1 _ rfl
  have e2 := hel 2 _ rfl
  rw [List.getElem?_eq_getElem (by omega)] at e0 e1 e2
  replace e0 : DataW.trod enc Try.prog w base spare held m 27 ((cs.drop 0).take (Try.prog.cellsOf 27)) = some xs[0] := e0
  rw [cellsHash] at e0
  replace e1 : DataW.trod enc Try.prog w base spare held m 27 ((cs.drop 32).take (Try.prog.cellsOf 27)) = some xs[1] := e1
  rw [cellsHash] at e1
  replace e2 : DataW.trod enc Try.prog w base spare held m 23 ((cs.drop 64).take (Try.prog.cellsOf 23)) = some xs[2] := e2
  rw [cellsU64] at e2
  obtain ⟨a0, h0, l0⟩ := hash_cells e0 (by rw [List.length_take, List.length_drop]; omega)
  obtain ⟨a1, h1, l1⟩ := hash_cells e1 (by rw [List.length_take, List.length_drop]; omega)
  obtain ⟨c2, h2, _, w2⟩ := DataW.trod_int Try.underlying23 e2
  obtain ⟨a2, rfl, l2⟩ := u64_of w2
  refine ⟨⟨a0, a1, a2⟩, ?_, ⟨l0, l1, l2⟩⟩
  have h : cs = cs.drop 0 := rfl
  rw [h, cut_at cs 0 32 32 rfl, cut_at cs 32 32 64 rfl, cut_at cs 64 1 65 rfl, h0, h1, h2, List.drop_of_length_le (i := 65) (by omega)]
  simp [outCs]
theorem cellsOut : Try.prog.cellsOf 48 = 65 := by kernel_rfl
theorem cellsSlOut : Try.prog.cellsOf 28 = 1 := by kernel_rfl
theorem open_outs {H : Type} {enc : TypeId × Value → H} {w : World} {base : Nat} {spare : Nat → Bool} {held : Bool} {fuel : Nat} {v : Value} {x : DataW H × List MemPlace} (hd : DataW.trod enc Try.prog w base spare held fuel 28 [v] = some x) :
    ∃ l : List OutT, Sl w v 65 (l.map outCs) ∧ (∀ y ∈ l, y.Ok) ∧ l.length ≤ maxLen :=
  open_cells outCs (fun y => y.Ok) Try.underlying28 cellsOut (by decide) (fun fuel cs x h hl => out_cells h hl) hd
end Go.Proofs.Ytbbfnpfkbbpjgaa
