/- The reference's arithmetic in digits of 32 bits (mintageref02): of, carry, by, wide as contracts. -/
import Derived.Test.YtikphhhkikdhaaaCmp
namespace Go.Proofs.Ytikphhhkikdhaaa
open Go.RowKit Go.Lib

theorem info64 : (Try.prog.info? 70).map (fun i => (i.zero, i.size, i.bytes)) = some (some (.int .u64 0), 1, 8) := by kernel_rfl

/-- v is a slice that holds the digits ds, in a block from base on. -/
def Digs (w : World) (base : Nat) (v : Value) (ds : List Int) : Prop := w.ownsRow base 70 1 v ds.length (ds.map (Value.int .u64))

theorem ownsRow_le {w : World} {base base' : Nat} {e : TypeId} {size : Nat} {v : Value} {n : Nat} {xs : List Value} (h : w.ownsRow base e size v n xs) (hb : base' ≤ base) : w.ownsRow base' e size v n xs := by
  refine ⟨h.1, ?_⟩
  rcases h.2 with h2 | ⟨g, cap, cur, e1, hg, r⟩
  · exact .inl h2
  · exact .inr ⟨g, cap, cur, e1, Nat.le_trans hb hg, r⟩
theorem ownsRow_later {w w' : World} {base : Nat} {e : TypeId} {size : Nat} {v : Value} {n : Nat} {xs : List Value} (h : w.ownsRow base e size v n xs) (hb : Below w.heap.size w w') : w'.ownsRow base e size v n xs := by
  refine ⟨h.1, ?_⟩
  rcases h.2 with h2 | ⟨g, cap, cur, e1, hg, hh, r⟩
  · exact .inl h2
  · have hlt := (Array.getElem?_eq_some_iff.1 hh).1
    exact .inr ⟨g, cap, cur, e1, hg, (hb.block g hlt).trans hh, r⟩
/-- A slice that is not empty has an address. -/
theorem ownsRow_at {w : World} {base : Nat} {e : TypeId} {v : Value} {n : Nat} {xs : List Value} (h : w.ownsRow base e 1 v n xs) (hn : 0 < n) : ∃ g cap, v = .slice (some ⟨g, 0, none⟩) n cap ∧ g < w.heap.size ∧ base ≤ g ∧ n ≤ cap := by
  rcases h.2 with ⟨_, h2⟩ | ⟨g, cap, cur, e1, hg, hh, hc, _⟩
  · omega
  · exact ⟨g, cap, e1, (Array.getElem?_eq_some_iff.1 hh).1, hg, hc⟩
theorem grown_below {w w1 : World} {base : Nat} {v : Value} {n size : Nat} {e : TypeId} {xs : List Value} {o : Obj} (hown : w.ownsRow base e size v n xs) (hg : (w.alloc o).grownBy w1 v.ownBlock) (hB : base ≤ w.heap.size) : Below base w w1 :=
  ((Below.refl base w).alloc hB o).grown hg (by simp; omega) (fun k hk => (hown.lt k hk).1)

theorem getD_eq {α : Type} (l : List α) (i : Nat) (d : α) (h : i < l.length) : l.getD i d = l[i] := by simp [List.getD, h]
theorem getD_mem {α : Type} (l : List α) (i : Nat) (d : α) (h : i < l.length) : l.getD i d ∈ l := by rw [getD_eq l i d h]; exact List.getElem_mem h
theorem drop_getD {α : Type} (l : List α) (i : Nat) (d : α) (h : i < l.length) : l.drop i = l.getD i d :: l.drop (i + 1) := by rw [getD_eq l i d h]; exact List.drop_eq_getElem_cons h

theorem digs_cell {w : World} {base g cap n : Nat} {ds : List Int} (h : w.ownsRow base 70 1 (.slice (some ⟨g, 0, none⟩) n cap) n (ds.map (Value.int .u64))) (j : Nat) (hj : j < n) (hl : ds.length = n) : w.cell? ⟨g, j, none⟩ = some (.int .u64 (ds.getD j 0)) := by
  rw [h.cellAt j (by omega)]
  simp [List.getElem?_map, List.getElem?_eq_getElem (show j < ds.length by omega)]

/-! ### carry -/
def carryL : List Int → Int → List Int
  | [], ov => [ov]
  | d :: ds, ov => (d + ov) % 4294967296 :: carryL ds ((d + ov) / 4294967296)

theorem carryL_length (ds : List Int) : ∀ ov, (carryL ds ov).length = ds.length + 1 := by
  induction ds with
  | nil => intro ov; rfl
  | cons d ds ih => intro ov; simp [carryL, ih]

end Go.Proofs.Ytikphhhkikdhaaa
