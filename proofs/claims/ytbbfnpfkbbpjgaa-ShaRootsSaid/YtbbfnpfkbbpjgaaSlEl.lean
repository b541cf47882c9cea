/- Slices of elements: their places; one cell made. -/
import Derived.Test.YtbbfnpfkbbpjgaaRowE
import Derived.Test.YtbbfnpfkbbpjgaaDeedS
namespace Go.Proofs.Ytbbfnpfkbbpjgaa
open Go.RowKit Go.Lib
set_option linter.unusedVariables false
set_option linter.unusedSimpArgs false

theorem Sl.shape {w : World} {v : Value} {sz : Nat} {α : Type} {f : α → List Value} {l : List α} (h : Sl w v sz (l.map f)) : ∃ a c, v = .slice a l.length c ∧ l.length ≤ c ∧ c ≤ maxLen ∧ (a = none → c = 0) := by
  obtain ⟨a, c, h1, h2, h3, _, h0, _⟩ := h
  rw [List.length_map] at h1 h2
  exact ⟨a, c, h1, h2, h3, h0⟩
theorem Sl.block {w : World} {v : Value} {sz : Nat} {α : Type} {f : α → List Value} {l : List α} (h : Sl w v sz (l.map f)) (h0 : 0 < l.length) :
    ∃ b k c, v = .slice (some ⟨b, k, none⟩) l.length c ∧ b < w.heap.size ∧ ∀ i x, l[i]? = some x → Cells w b (k + i * sz) (f x) := by
  obtain ⟨a, c, h1, h2, h3, h4, _, h5⟩ := h
  obtain ⟨b, k, rfl, hb, hc⟩ := h5 (by intro hn; rw [List.map_eq_nil_iff] at hn; subst hn; simp at h0)
  rw [List.length_map] at h1
  exact ⟨b, k, c, h1, hb, fun i x hx => hc i (f x) (by rw [List.getElem?_map, hx]; rfl)⟩
theorem get_ok {α : Type} {l : List α} {Ok : α → Prop} (h : ∀ x ∈ l, Ok x) {k : Nat} (hk : k < l.length) : ∃ x, l[k]? = some x ∧ Ok x := ⟨l[k], List.getElem?_eq_getElem hk, h _ (List.getElem_mem _)⟩
theorem any_take {α : Type} (l : List α) (g : α → Bool) (k : Nat) (x : α) (h : l[k]? = some x) : (l.take (k + 1)).any g = ((l.take k).any g || g x) := by
  obtain ⟨hk, rfl⟩ := List.getElem?_eq_some_iff.1 h
  rw [List.take_succ_eq_append_getElem hk, List.any_append]
  simp
theorem any_of_get {α : Type} {l : List α} {g : α → Bool} {k : Nat} {x : α} (h : l[k]? = some x) (hg : g x = true) : l.any g = true := by
  rw [List.any_eq_true]
  exact ⟨x, List.mem_of_getElem? h, hg⟩
theorem any_not {α : Type} (l : List α) (g : α → Bool) : (l.any fun x => !(g x)) = !(l.all g) := by
  induction l with
  | nil => rfl
  | cons x r ih => rw [List.any_cons, List.all_cons, ih, Bool.not_and]
theorem rises_snoc {α : Type} (g : α → List UInt8) (x y : α) : ∀ l : List α, risesB g (l ++ [x, y]) = (risesB g (l ++ [x]) && Op.bytesLess (g x) (g y))
  | [] => by simp [risesB]
  | [a] => by simp [risesB, Bool.and_assoc]
  | a :: b :: l => by
    have ih := rises_snoc g x y (b :: l)
    simp only [List.cons_append, risesB] at ih ⊢
    rw [ih, Bool.and_assoc]
theorem rises_next {α : Type} (g : α → List UInt8) (l : List α) (k : Nat) (x y : α) (hx : l[k - 1]? = some x) (hy : l[k]? = some y) (h0 : 0 < k) : risesB g (l.take (k + 1)) = (risesB g (l.take k) && Op.bytesLess (g x) (g y)) := by
  obtain ⟨j, rfl⟩ : ∃ j, k = j + 1 := ⟨k - 1, by omega⟩
  rw [Nat.add_sub_cancel] at hx
  obtain ⟨hj, rfl⟩ := List.getElem?_eq_some_iff.1 hx
  obtain ⟨hk, rfl⟩ := List.getElem?_eq_some_iff.1 hy
  rw [List.take_succ_eq_append_getElem hk, List.take_succ_eq_append_getElem hj, List.append_assoc]
  exact rises_snoc g _ _ _
theorem rises_stop {α : Type} (g : α → List UInt8) : ∀ (l : List α) (k : Nat), risesB g (l.take k) = false → risesB g l = false
  | [], k, h => by simp [risesB] at h
  | [a], 0, h => by simp [risesB] at h
  | [a], k + 1, h => by simp [risesB] at h
  | a :: b :: l, 0, h => by simp [risesB] at h
  | a :: b :: l, 1, h => by simp [risesB] at h
  | a :: b :: l, k + 2, h => by
    simp only [List.take_succ_cons, risesB, Bool.and_eq_false_iff] at h ⊢
    rcases h with h | h
    · exact .inl h
    · exact .inr (rises_stop g (b :: l) (k + 1) (by rw [List.take_succ_cons]; exact h))
theorem rises_one {α : Type} (g : α → List UInt8) (l : List α) : risesB g (l.take 1) = true := by
  cases l <;> simp [risesB]
end Go.Proofs.Ytbbfnpfkbbpjgaa
