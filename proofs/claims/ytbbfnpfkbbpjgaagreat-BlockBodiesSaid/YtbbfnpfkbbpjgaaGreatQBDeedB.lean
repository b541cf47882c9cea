/- The small deed, and that it goes there and back. -/
import Derived.Test.YtbbfnpfkbbpjgaaGreatQBDeed8
import Derived.Test.YtbbfnpfkbbpjgaaGreatQBDeed9
import Derived.Test.YtbbfnpfkbbpjgaaGreatQBSqPay
import Derived.Test.YtbbfnpfkbbpjgaaGreatQBTakeW
import Derived.Test.YtbbfnpfkbbpjgaaGreatQBTakeL
import Derived.Test.YtbbfnpfkbbpjgaaGreatQBMRef
import Derived.Test.YtbbfnpfkbbpjgaaGreatQBStep
import Derived.Test.YtbbfnpfkbbpjgaaGreatQBBlk3
namespace Go.Proofs.YtbbfnpfkbbpjgaaGreat
open Go.RowKit Go.Lib
set_option linter.unusedVariables false
set_option linter.unusedSimpArgs false
set_option maxRecDepth 100000
set_option maxHeartbeats 4000000
def smallD : Deed := ⟨[in0], [], 0, 0, 0, [], [], []⟩
theorem j6s : smallD.Ok := ⟨by intro x hx; simp [smallD] at hx; subst hx; exact x4y, by simp [smallD], by decide, by decide, by decide, by simp [smallD], by simp [smallD], by simp [smallD]⟩
theorem x0l : mayD smallD = true := by decide +kernel
theorem q8b : (fullL smallD).length = 41 := by decide +kernel
theorem x1m : smallD.Fit := ⟨by decide, by decide, by decide, by decide, by decide⟩
theorem inBuilt0 : Tryz.prog.built 80 [] = some (inCs in0).toArray := by kernel_rfl
theorem deedBuilt1 (a : Option Addr) (n c : Nat) : Tryz.prog.built 29 [(0, .slice a n c)] = some (deedCs (.slice a n c) nilS nilS nilS nilS 0 0 0).toArray := by kernel_rfl
end Go.Proofs.YtbbfnpfkbbpjgaaGreat
/- The reference of layer 13: the reader In, whatever was wrong: Text, Number, Count. -/
namespace Go.Proofs.YtbbfnpfkbbpjgaaGreat
open Go.RowKit Go.Lib
set_option linter.unusedVariables false
set_option linter.unusedSimpArgs false
set_option maxRecDepth 100000
set_option maxHeartbeats 4000000
section
variable {w w' : World} {g : Nat} {s : ByteArray} {b : Bool}
end
section
variable {ops : Array Oper} {rest : List Oper} {o : Oper} {a : Act} {w : World} {Q : Exit → Act → World → Prop}
end
theorem x3n (n : Nat) : (madeCells #[.int .u8 0] n).toList = bvs (List.replicate n 0) := by
  unfold madeCells bvs
  rw [List.map_replicate, Array.toList_map, Array.toList_range]
  refine List.eq_replicate_iff.2 ⟨by simp, fun x hx => ?_⟩
  obtain ⟨i, _, rfl⟩ := List.mem_map.1 hx
  simp [Nat.mod_one]
theorem u8Ie : ∃ ie, Tryz.prog.info? 5 = some ie ∧ ie.size = 1 ∧ ie.bytes = 1 ∧ ie.zero = some (.int .u8 0) := by
  obtain ⟨i, hi, h⟩ := Option.map_eq_some_iff.1 (show (Tryz.prog.info? 5).map (fun i => (i.size, i.bytes, i.zero)) = some (1, 1, some (.int .u8 0)) by kernel_rfl)
  simp only [Prod.mk.injEq] at h
  exact ⟨i, hi, h.1, h.2.1, h.2.2⟩
theorem x1u {w : World} {B e sz g n : Nat} {xs : List Value} (h : w.ownsRow B e sz (.slice (some ⟨g, 0, none⟩) n n) n xs) : Arr w g e xs := by
  obtain ⟨h1, h | ⟨g', cap, cur, hv, hg, hh, hc, hm, hs, ht⟩⟩ := h
  · exact absurd h.1 (by simp)
  · simp only [Value.slice.injEq, Option.some.injEq, Addr.mk.injEq, and_true, true_and] at hv
    obtain ⟨rfl, rfl⟩ := hv
    unfold Arr
    rw [hh, ← ht, List.take_of_length_le (by simp [hs])]
section
variable {ops : Array Oper} {rest : List Oper} {o : Oper} {a : Act} {w : World} {Q : Exit → Act → World → Prop}
/-- So many noughts. -/
theorem q4h (hg : o.guard = none) (l c : Operand) (hop : o.op = .makeSlice 93 l c) (n : Nat) (hl : a.eval l = .int .i64 n) (hc : a.eval c = .int .i64 n) (hn : n ≤ 1048576)
    (hK : ∀ w2 g, w.heap.size ≤ g → Cells w2 g 0 (bvs (List.replicate n 0)) → Below w.heap.size w w2 → wpList Tryz.prog ops Q rest (a.put o.dst (.slice (some ⟨g, 0, none⟩) n n)) w2) : wpList Tryz.prog ops Q (o :: rest) a w := by
  obtain ⟨ie, hi1, hi2, hi3, hi4⟩ := u8Ie
  refine wpList_make_full w hg l c 93 hop w.heap.size 5 ie (.int .u8 0) 1 Tryz.underlying93 hi1 hi4 hi2 .i64 .i64 _ _ n hl hc rfl rfl (by rw [hi3]; omega) (by unfold maxLen; omega) (Nat.le_refl _) ?_
  intro w1 hown hg1
  refine hK w1 w.heap.size (Nat.le_refl _) ?_ ((Below.refl _ _).grown hg1 (Nat.le_refl _) (fun k h => by cases h))
  have h := Cells.arr (x1u hown)
  rw [← x3n, show n = n * 1 by omega]
  exact h
end
end Go.Proofs.YtbbfnpfkbbpjgaaGreat
