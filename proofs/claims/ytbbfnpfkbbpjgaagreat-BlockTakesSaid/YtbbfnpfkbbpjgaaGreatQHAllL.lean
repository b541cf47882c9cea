/- Lists all of whose things are right, and rise: plain law. -/
import Derived.Test.YtbbfnpfkbbpjgaaGreatQHElCert
namespace Go.Proofs.YtbbfnpfkbbpjgaaGreat
open Go.RowKit Go.Lib
set_option linter.unusedVariables false
set_option linter.unusedSimpArgs false
set_option maxRecDepth 100000
set_option maxHeartbeats 4000000
def riseAll {α : Type} (f : α → List UInt8) (g : α → Bool) (l : List α) : Bool := risesB f l && l.all g
theorem j6c {α : Type} {g : α → Bool} {l : List α} {k : Nat} {x : α} (h : (l.take k).all g = true) (hx : l[k]? = some x) : (l.take (k + 1)).all g = g x := by
 obtain ⟨hk, rfl⟩ := List.getElem?_eq_some_iff.1 hx
 rw [List.take_succ_eq_append_getElem hk, List.all_append, h]
 simp
theorem z2b {α : Type} {g : α → Bool} {l : List α} {k : Nat} (h : (l.take k).all g = false) : l.all g = false := by
 rw [← List.take_append_drop k l, List.all_append, h, Bool.false_and]
theorem j6k {α : Type} {f : α → List UInt8} {g : α → Bool} {l : List α} {x : α} (hx : l[0]? = some x) : riseAll f g (l.take 1) = g x := by
 unfold riseAll
 rw [j0f, Bool.true_and]
 exact j6c (k := 0) rfl hx
theorem x0m {α : Type} {f : α → List UInt8} {g : α → Bool} {l : List α} {k : Nat} {x y : α} (h : riseAll f g (l.take k) = true) (h0 : 0 < k) (hy : l[k - 1]? = some y) (hx : l[k]? = some x) (hg : g x = true) : riseAll f g (l.take (k + 1)) = Op.bytesLess (f y) (f x) := by
 unfold riseAll at h ⊢
 rw [Bool.and_eq_true] at h
 rw [q8m f l k y x hy hx h0, j6c h.2 hx, h.1, hg, Bool.true_and, Bool.and_true]
theorem z2i {α : Type} {f : α → List UInt8} {g : α → Bool} {l : List α} {k : Nat} {x : α} (hx : l[k]? = some x) (hg : g x = false) : riseAll f g l = false := by
 unfold riseAll
 have : l.all g = false := by
  rw [List.all_eq_false]
  exact ⟨x, List.mem_of_getElem? hx, by rw [hg]; decide⟩
 rw [this, Bool.and_false]
theorem al_no {α : Type} {g : α → Bool} {l : List α} {k : Nat} {x : α} (hx : l[k]? = some x) (hg : g x = false) : l.all g = false := by
 rw [List.all_eq_false]
 exact ⟨x, List.mem_of_getElem? hx, by rw [hg]; decide⟩
theorem j9p {α : Type} {f : α → List UInt8} {g : α → Bool} {l : List α} {k : Nat} (h : riseAll f g (l.take k) = false) : riseAll f g l = false := by
 unfold riseAll at h ⊢
 rw [Bool.and_eq_false_iff] at h ⊢
 rcases h with h | h
 ·exact .inl (q7g f l k h)
 ·exact .inr (z2b h)
end Go.Proofs.YtbbfnpfkbbpjgaaGreat
