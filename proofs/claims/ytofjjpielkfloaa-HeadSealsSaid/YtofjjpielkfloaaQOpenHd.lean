/- Arguments that are rights or heads: their fields. -/
import Derived.Test.YtofjjpielkfloaaQOpenSl
import Derived.Test.YtofjjpielkfloaaQHdAt
import Derived.ChangeArms
namespace Go.Proofs.Ytofjjpielkfloaa
open Go.ChangeShapes Go.WideShapes Go.RowKit
set_option linter.unusedVariables false
set_option linter.unusedSimpArgs false

theorem cellsU64 : Try.prog.cellsOf 46 = 1 := by kernel_rfl
theorem cellsStr : Try.prog.cellsOf 9 = 1 := by kernel_rfl
theorem cellsRt : Try.prog.cellsOf 48 = 35 := by kernel_rfl
theorem cellsHd : Try.prog.cellsOf 50 = 136 := by kernel_rfl
theorem u64_of {n : Int} (h : (Lit.int .u64 n).wf = true) : ∃ m : Nat, n = m ∧ m < 18446744073709551616 := by
  have h2 : 0 ≤ n ∧ n ≤ 18446744073709551615 := by simpa [Lit.wf, IntKind.min, IntKind.max, IntKind.signed, IntKind.bits] using h
  exact ⟨n.toNat, by omega, by omega⟩
/-- Cut a list in two. -/
theorem cut_at {α : Type} (L : List α) (k n m : Nat) (h : k + n = m) : L.drop k = (L.drop k).take n ++ L.drop m := by
  subst h
  rw [← List.drop_drop, List.take_append_drop]
set_option maxRecDepth 100000 in
/-- Thirty-five cells that a right has. -/
theorem rt_cells {H : Type} {enc : TypeId × Value → H} {w : World} {base : Nat} {spare : Nat → Bool} {held : Bool} {fuel : Nat} {cs : List Value} {x : DataW H × List MemPlace}
    (hf : DataW.trod enc Try.prog w base spare held fuel 48 cs = some x) (hcl : cs.length = 35) : ∃ r : Rt, cs = rtCs r ∧ r.Ok ∧ r.sig.size ≤ maxLen := by
  obtain ⟨xs, m, _, _, hlen, hxs, hel⟩ := DataW.trod_struct Try.underlying48 hf
  have hx4 : xs.length = 4 := hxs
  have e0 := hel 0 _ rfl
  have e1 := hel 1 _ rfl
  have e2 := hel 2 _ rfl
  have e3 := hel 3 _ rfl
  rw [List.getElem?_eq_getElem (by omega)] at e0 e1 e2 e3
  replace e0 : DataW.trod enc Try.prog w base spare held m 23 ((cs.drop 0).take (Try.prog.cellsOf 23)) = some xs[0] := e0
  replace e1 : DataW.trod enc Try.prog w base spare held m 46 ((cs.drop 32).take (Try.prog.cellsOf 46)) = some xs[1] := e1
  replace e2 : DataW.trod enc Try.prog w base spare held m 46 ((cs.drop 33).take (Try.prog.cellsOf 46)) = some xs[2] := e2
  replace e3 : DataW.trod enc Try.prog w base spare held m 9 ((cs.drop 34).take (Try.prog.cellsOf 9)) = some xs[3] := e3
  rw [cellsHash] at e0
  rw [cellsU64] at e1 e2
  rw [cellsStr] at e3
  obtain ⟨hot, hhot, hl⟩ := hash_cells e0 (by rw [List.length_take, List.length_drop]; omega)
  obtain ⟨c, hc, _, wc⟩ := DataW.trod_int Try.underlying46 e1
  obtain ⟨s, hs, _, ws⟩ := DataW.trod_int Try.underlying46 e2
  obtain ⟨g, hg, _, wg⟩ := DataW.trod_string Try.underlying9 e3
  obtain ⟨c', rfl, lc⟩ := u64_of wc
  obtain ⟨s', rfl, ls⟩ := u64_of ws
  refine ⟨⟨hot, c', s', g⟩, ?_, ⟨hl, lc, ls⟩, wg⟩
  have h0 : cs = (cs.drop 0) := rfl
  rw [h0, cut_at cs 0 32 32 rfl, cut_at cs 32 1 33 rfl, cut_at cs 33 1 34 rfl, cut_at cs 34 1 35 rfl, hhot, hc, hs, hg, List.drop_of_length_le (i := 35) (by omega)]
  rfl
set_option maxRecDepth 100000 in
theorem open_head {H : Type} {enc : TypeId × Value → H} {w : World} {base b0 : Nat} {spare : Nat → Bool} {held : Bool} {r : Reach} {v : Value} {d : DataW H} {ps : List MemPlace}
    (hval : Value.okWide Try.prog w r b0 50 v) (hd : DataW.Trod enc Try.prog w base spare held 50 v d ps) : ∃ x : Hd, v = hdV x ∧ x.Ok ∧ x.sig.size ≤ maxLen ∧ x.right.sig.size ≤ maxLen := by
  obtain ⟨cs, rfl, hsz, _⟩ : ∃ cs, v = .agg cs ∧ cs.size = Try.prog.cellsOf 50 ∧ Row.okWide Try.prog w r b0 50 cs := by
    simpa [Value.okWide, Try.underlying50] using hval
  obtain ⟨fuel, hf⟩ := hd
  rw [cellsHd] at hsz
  have hcl : cs.toList.length = 136 := by simpa using hsz
  obtain ⟨xs, m, _, _, hlen, hxs, hel⟩ := DataW.trod_struct Try.underlying50 hf
  have hx9 : xs.length = 9 := hxs
  have e0 := hel 0 _ rfl
  have e1 := hel 1 _ rfl
  have e2 := hel 2 _ rfl
  have e3 := hel 3 _ rfl
  have e4 := hel 4 _ rfl
  have e5 := hel 5 _ rfl
  have e6 := hel 6 _ rfl
  have e7 := hel 7 _ rfl
  have e8 := hel 8 _ rfl
  rw [List.getElem?_eq_getElem (by omega)] at e0 e1 e2 e3 e4 e5 e6 e7 e8
  replace e0 : DataW.trod enc Try.prog w base spare held m 46 ((cs.toList.drop 0).take (Try.prog.cellsOf 46)) = some xs[0] := e0
  replace e1 : DataW.trod enc Try.prog w base spare held m 46 ((cs.toList.drop 1).take (Try.prog.cellsOf 46)) = some xs[1] := e1
  replace e2 : DataW.trod enc Try.prog w base spare held m 23 ((cs.toList.drop 2).take (Try.prog.cellsOf 23)) = some xs[2] := e2
  replace e3 : DataW.trod enc Try.prog w base spare held m 23 ((cs.toList.drop 34).take (Try.prog.cellsOf 23)) = some xs[3] := e3
  replace e4 : DataW.trod enc Try.prog w base spare held m 23 ((cs.toList.drop 66).take (Try.prog.cellsOf 23)) = some xs[4] := e4
  replace e5 : DataW.trod enc Try.prog w base spare held m 46 ((cs.toList.drop 98).take (Try.prog.cellsOf 46)) = some xs[5] := e5
  replace e6 : DataW.trod enc Try.prog w base spare held m 46 ((cs.toList.drop 99).take (Try.prog.cellsOf 46)) = some xs[6] := e6
  replace e7 : DataW.trod enc Try.prog w base spare held m 48 ((cs.toList.drop 100).take (Try.prog.cellsOf 48)) = some xs[7] := e7
  replace e8 : DataW.trod enc Try.prog w base spare held m 9 ((cs.toList.drop 135).take (Try.prog.cellsOf 9)) = some xs[8] := e8
  rw [cellsHash] at e2 e3 e4
  rw [cellsU64] at e0 e1 e5 e6
  rw [cellsStr] at e8
  rw [cellsRt] at e7
  obtain ⟨n0, h0, _, w0⟩ := DataW.trod_int Try.underlying46 e0
  obtain ⟨n1, h1, _, w1⟩ := DataW.trod_int Try.underlying46 e1
  obtain ⟨p, h2, l2⟩ := hash_cells e2 (by rw [List.length_take, List.length_drop]; omega)
  obtain ⟨q, h3, l3⟩ := hash_cells e3 (by rw [List.length_take, List.length_drop]; omega)
  obtain ⟨b, h4, l4⟩ := hash_cells e4 (by rw [List.length_take, List.length_drop]; omega)
  obtain ⟨n5, h5, _, w5⟩ := DataW.trod_int Try.underlying46 e5
  obtain ⟨n6, h6, _, w6⟩ := DataW.trod_int Try.underlying46 e6
  obtain ⟨x, h7, ox, zx⟩ := rt_cells e7 (by rw [List.length_take, List.length_drop]; omega)
  obtain ⟨g, h8, _, w8⟩ := DataW.trod_string Try.underlying9 e8
  obtain ⟨m0, rfl, k0⟩ := u64_of w0
  obtain ⟨m1, rfl, k1⟩ := u64_of w1
  obtain ⟨m5, rfl, k5⟩ := u64_of w5
  obtain ⟨m6, rfl, k6⟩ := u64_of w6
  refine ⟨⟨m0, m1, p, q, b, m5, m6, x, g⟩, ?_, ⟨k0, k1, l2, l3, l4, k5, k6, ox⟩, w8, zx⟩
  unfold hdV
  congr 1
  apply Array.ext'
  have h : cs.toList = cs.toList.drop 0 := rfl
  rw [h, cut_at cs.toList 0 1 1 rfl, cut_at cs.toList 1 1 2 rfl, cut_at cs.toList 2 32 34 rfl, cut_at cs.toList 34 32 66 rfl, cut_at cs.toList 66 32 98 rfl, cut_at cs.toList 98 1 99 rfl, cut_at cs.toList 99 1 100 rfl, cut_at cs.toList 100 35 135 rfl, cut_at cs.toList 135 1 136 rfl, h0, h1, h2, h3, h4, h5, h6, h7, h8, List.drop_of_length_le (i := 136) (by omega)]
  simp [hdCs]
end Go.Proofs.Ytofjjpielkfloaa
