/- An argument that is a key of one seed: its fields. -/
import Derived.Test.YtofjjpielkfloaaQOpenSl
import Derived.Test.YtofjjpielkfloaaQEvoAt
import Derived.ChangeArms
namespace Go.Proofs.Ytofjjpielkfloaa
open Go.ChangeShapes Go.WideShapes Go.RowKit
set_option linter.unusedVariables false
set_option linter.unusedSimpArgs false

theorem cellsEvo : Try.prog.cellsOf 26 = 36 := by kernel_rfl
theorem cellsInt : Try.prog.cellsOf 3 = 1 := by kernel_rfl
theorem cellsHashes : Try.prog.cellsOf 24 = 1 := by kernel_rfl
theorem one_of {cs : List Value} {i : Nat} (h : i < cs.length) : ∃ v, (cs.drop i).take 1 = [v] := by
  refine ⟨cs[i], ?_⟩
  rw [List.drop_eq_getElem_cons h, List.take_succ_cons, List.take_zero]
theorem ev_split {cs : List Value} (h : cs.length = 36) : cs = (cs.drop 0).take 1 ++ ((cs.drop 1).take 1 ++ ((cs.drop 2).take 32 ++ ((cs.drop 34).take 1 ++ (cs.drop 35).take 1))) := by
  apply List.ext_getElem?
  intro i
  have k : ∀ (a n : Nat), a + n ≤ 36 → ((cs.drop a).take n).length = n := fun a n hn => by rw [List.length_take, List.length_drop, h]; omega
  have g : ∀ (a n j : Nat), ((cs.drop a).take n)[j]? = if j < n then cs[a + j]? else none := fun a n j => by
    rw [List.getElem?_take]; split
    · rw [List.getElem?_drop]
    · rfl
  rw [List.getElem?_append, k 0 1 (by omega), List.getElem?_append, k 1 1 (by omega), List.getElem?_append, k 2 32 (by omega), List.getElem?_append, k 34 1 (by omega), g, g, g, g, g]
  by_cases h0 : i < 1
  · rw [if_pos h0, if_pos h0]; congr 1; omega
  rw [if_neg h0]
  by_cases h1 : i - 1 < 1
  · rw [if_pos h1, if_pos h1]; congr 1; omega
  rw [if_neg h1]
  by_cases h2 : i - 1 - 1 < 32
  · rw [if_pos h2, if_pos h2]; congr 1; omega
  rw [if_neg h2]
  by_cases h3 : i - 1 - 1 - 32 < 1
  · rw [if_pos h3, if_pos h3]; congr 1; omega
  rw [if_neg h3]
  by_cases h4 : i - 1 - 1 - 32 - 1 < 1
  · rw [if_pos h4]; congr 1; omega
  · rw [if_neg h4]; exact List.getElem?_eq_none (by omega)
set_option maxRecDepth 100000 in
theorem open_evolving {H : Type} {enc : TypeId × Value → H} {w : World} {base b0 : Nat} {spare : Nat → Bool} {held : Bool} {r : Reach} {v : Value} {d : DataW H} {ps : List MemPlace}
    (hval : Value.okWide Try.prog w r b0 26 v) (hd : DataW.Trod enc Try.prog w base spare held 26 v d ps) : ∃ k : Evo, EvoIs w v k ∧ (Lit.int .i64 k.d).wf = true ∧ (Lit.int .i64 k.p).wf = true := by
  obtain ⟨cs, rfl, hsz, _⟩ : ∃ cs, v = .agg cs ∧ cs.size = Try.prog.cellsOf 26 ∧ Row.okWide Try.prog w r b0 26 cs := by
    simpa [Value.okWide, Try.underlying26] using hval
  obtain ⟨fuel, hf⟩ := hd
  obtain ⟨xs, m, _, _, hlen, hxs, hel⟩ := DataW.trod_struct Try.underlying26 hf
  rw [cellsEvo] at hsz
  have hcl : cs.toList.length = 36 := by simpa using hsz
  have hx5 : xs.length = 5 := hxs
  have e0 := hel 0 _ rfl
  have e1 := hel 1 _ rfl
  have e2 := hel 2 _ rfl
  have e3 := hel 3 _ rfl
  have e4 := hel 4 _ rfl
  rw [List.getElem?_eq_getElem (by omega)] at e0 e1 e2 e3 e4
  replace e0 : DataW.trod enc Try.prog w base spare held m 3 ((cs.toList.drop 0).take (Try.prog.cellsOf 3)) = some xs[0] := e0
  replace e1 : DataW.trod enc Try.prog w base spare held m 3 ((cs.toList.drop 1).take (Try.prog.cellsOf 3)) = some xs[1] := e1
  replace e2 : DataW.trod enc Try.prog w base spare held m 23 ((cs.toList.drop 2).take (Try.prog.cellsOf 23)) = some xs[2] := e2
  replace e3 : DataW.trod enc Try.prog w base spare held m 24 ((cs.toList.drop 34).take (Try.prog.cellsOf 24)) = some xs[3] := e3
  replace e4 : DataW.trod enc Try.prog w base spare held m 24 ((cs.toList.drop 35).take (Try.prog.cellsOf 24)) = some xs[4] := e4
  rw [cellsInt] at e0 e1
  rw [cellsHash] at e2
  rw [cellsHashes] at e3 e4
  obtain ⟨d, hd, _, wd⟩ := DataW.trod_int Try.underlying3 e0
  obtain ⟨p, hp, _, wp⟩ := DataW.trod_int Try.underlying3 e1
  obtain ⟨leaf, hleaf, hl⟩ := hash_cells e2 (by rw [List.length_take, List.length_drop]; omega)
  obtain ⟨rv, hrv⟩ := one_of (cs := cs.toList) (i := 34) (by omega)
  obtain ⟨sv, hsv⟩ := one_of (cs := cs.toList) (i := 35) (by omega)
  rw [hrv] at e3
  rw [hsv] at e4
  obtain ⟨right, hr1, hr2, _⟩ := open_cells bvs (fun l => l.length = 32) Try.underlying24 cellsHash (by decide) (fun fuel cs x h hl => hash_cells h hl) e3
  obtain ⟨side, hs1, hs2, _⟩ := open_cells bvs (fun l => l.length = 32) Try.underlying24 cellsHash (by decide) (fun fuel cs x h hl => hash_cells h hl) e4
  refine ⟨⟨d, p, leaf, right, side⟩, ⟨rv, sv, ?_, ⟨hr1, hr2⟩, ⟨hs1, hs2⟩, hl⟩, wd, wp⟩
  have hsp := ev_split hcl
  rw [hd, hp, hleaf, hrv, hsv] at hsp
  unfold evV
  congr 1
  apply Array.ext'
  rw [hsp]
  rfl
end Go.Proofs.Ytofjjpielkfloaa
