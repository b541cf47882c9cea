/- The reference of layer 6: Key. -/
import Derived.Test.YtofjjpielkfloaaQEvoRef4
namespace Go.Proofs.Ytofjjpielkfloaa
open Go.RowKit Go.Lib
set_option linter.unusedVariables false
set_option linter.unusedSimpArgs false

/-- One hash more in a row of one's own. -/
theorem wpl_app {ops : Array Oper} {rest : List Oper} {o : Oper} {a : Act} {w : World} {Q : Exit → Act → World → Prop} (hw : Region.wanted o (yielded ops a.tmps) = true) (s x : Operand)
    (ho : o.op = .call { callee := .builtin .append, args := #[s, x], argTypes := #[24, 24] }) {B : Nat} {v : Value} {l : List (List UInt8)} {h : List UInt8} {X : List Nat} (hs : a.eval s = v) (hown : OwnU w B v l X) {b k c : Nat} (hx : a.eval x = .slice (some ⟨b, k, none⟩) 1 c)
    (hxs : Hs w (.slice (some ⟨b, k, none⟩) 1 c) [h]) (n : Nat) (hn : l.length = n) (hm : n ≤ 1000000) (hB : B ≤ w.heap.size)
    (hk : ∀ a' c' w', OwnU w' B (.slice a' (n + 1) c') (l ++ [h]) [] → Below B w w' → Touch (fun b => v.ownBlock = some b) w w' → ((Value.slice a' (n + 1) c').ownBlock = v.ownBlock ∨ (Value.slice a' (n + 1) c').ownBlock = some w.heap.size) →
      wpList Try.prog ops Q rest (a.put o.dst (.slice a' (n + 1) c')) w') : wpList Try.prog ops Q (o :: rest) a w :=
  wpl_append_hash hw s x ho hs hown.1 hx hxs n hn (by omega) hB (fun a' c' w' h1 h2 h3 => hk a' c' w' ⟨h1, more_hash hown.2.1 (hxs.2 h (by simp)), by simp⟩ (h2.below hB (fun y hy => (World.ownsRow.lt hown.1 y hy).1)) h2 h3)
theorem OwnU.other {w w' : World} {B : Nat} {v v5 : Value} {l : List (List UInt8)} {X : List Nat} (h : OwnU w B v l X) (ht : Touch (fun b => v5.ownBlock = some b) w w') (hd : ∀ b, v5.ownBlock = some b → v.ownBlock ≠ some b) : OwnU w' B v l X :=
  ⟨owns_touch h.1 ht (fun b hb hs => hd b hs hb), h.2⟩
/-- The rest of the way to period p: n rows of d. -/
def keyF (d p : Nat) : Nat → List UInt8 → List (List UInt8) × List (List UInt8) × List UInt8
  | 0, s => ([], [], s)
  | n + 1, s => if wayB d p (d - (n + 1)) then (zero32 :: (keyF d p n (rightL s)).1, pubE n (leftL s) :: (keyF d p n (rightL s)).2.1, (keyF d p n (rightL s)).2.2)
      else (rightL s :: (keyF d p n (leftL s)).1, pubE n (rightL s) :: (keyF d p n (leftL s)).2.1, (keyF d p n (leftL s)).2.2)
def keyE (d p : Nat) (s : List UInt8) : Evo := ⟨d, p, (keyF d p d s).2.2, (keyF d p d s).1, (keyF d p d s).2.1⟩
end Go.Proofs.Ytofjjpielkfloaa
