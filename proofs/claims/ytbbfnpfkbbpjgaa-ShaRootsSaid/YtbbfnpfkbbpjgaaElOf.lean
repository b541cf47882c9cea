/- The elements of layer 13 as elements of slices. -/
import Derived.Test.YtbbfnpfkbbpjgaaRowE
namespace Go.Proofs.Ytbbfnpfkbbpjgaa
open Go.RowKit Go.Lib
set_option linter.unusedVariables false
set_option linter.unusedSimpArgs false

theorem elOf {P : Program} {t e sz by' : Nat} (ht : P.underlying t = some (.slice e)) (hz : 0 < sz) (h : (P.info? e).map (fun i => (i.size, i.bytes, i.zero.map (·.cells.size))) = some (sz, by', some sz)) : ElemOf P t e sz by' := by
  obtain ⟨i, hi, h1⟩ := Option.map_eq_some_iff.1 h
  simp only [Prod.mk.injEq] at h1
  obtain ⟨h2, h3, h4⟩ := h1
  obtain ⟨z, hz', h5⟩ := Option.map_eq_some_iff.1 h4
  exact ⟨ht, hz, i, z, hi, hz', h2, h3, h5⟩
theorem inElem : ElemOf Try.prog 50 60 33 40 := elOf Try.underlying50 (by decide) (by kernel_rfl)
theorem outElem : ElemOf Try.prog 28 48 65 72 := elOf Try.underlying28 (by decide) (by kernel_rfl)
theorem certElem : ElemOf Try.prog 51 133 68 96 := elOf Try.underlying51 (by decide) (by kernel_rfl)
theorem payElem : ElemOf Try.prog 52 138 33 40 := elOf Try.underlying52 (by decide) (by kernel_rfl)
theorem witElem : ElemOf Try.prog 53 142 33 48 := elOf Try.underlying53 (by decide) (by kernel_rfl)
theorem OwnR.off {w : World} {B e sz g : Nat} {v : Value} {els : List (List Value)} {X : List Nat} (h : OwnR w B e sz v els X) (hg : g < B) : ¬ v.ownBlock = some g := fun hs => by
  have := (World.ownsRow.lt h.1 g hs).1; omega
theorem OwnR.tg {w w' : World} {B e sz g : Nat} {v : Value} {els : List (List Value)} {X : List Nat} (h : OwnR w B e sz v els X) (ht : Touch (fun b => b = g) w w') (hg : g < B) : OwnR w' B e sz v els X :=
  ⟨owns_touch h.1 ht (fun b hb hs => h.off hg (by have e : b = g := hs; rw [e] at hb; exact hb)), h.2⟩
theorem OwnR.ge {w : World} {B e sz : Nat} {v : Value} {els : List (List Value)} {X : List Nat} (h : OwnR w B e sz v els X) : ∀ b, v.ownBlock = some b → B ≤ b := fun b hb => (World.ownsRow.lt h.1 b hb).1
theorem ok_snoc {α : Type} {P : α → Prop} {l : List α} {x : α} (h : ∀ y ∈ l, P y) (hx : P x) : ∀ y ∈ l ++ [x], P y := fun y hy => by
  rcases List.mem_append.1 hy with h1 | h1
  · exact h y h1
  · simp at h1; subst h1; exact hx
end Go.Proofs.Ytbbfnpfkbbpjgaa
