/- Arguments that are deeds, or parts of one: what they hold. -/
import Derived.Test.YtbbfnpfkbbpjgaaGreatQPDeedB
import Derived.Test.YtbbfnpfkbbpjgaaGreatQPElWit
namespace Go.Proofs.YtbbfnpfkbbpjgaaGreat
open Go.ChangeShapes Go.WideShapes Go.RowKit
set_option linter.unusedVariables false
set_option linter.unusedSimpArgs false

theorem u8_of {n : Int} (h : (Lit.int .u8 n).wf = true) : ∃ m : Nat, n = m ∧ m < 256 := by
  have h2 : 0 ≤ n ∧ n ≤ 255 := by simpa [Lit.wf, IntKind.min, IntKind.max, IntKind.signed, IntKind.bits] using h
  exact ⟨n.toNat, by omega, by omega⟩
set_option maxRecDepth 100000 in
theorem in_cells {H : Type} {enc : TypeId × Value → H} {w : World} {base : Nat} {spare : Nat → Bool} {held : Bool} {fuel : Nat} {cs : List Value} {x : DataW H × List MemPlace}
    (hf : DataW.trod enc Tryz.prog w base spare held fuel 80 cs = some x) (hcl : cs.length = 33) : ∃ y : InT, cs = inCs y ∧ y.Ok := by
  obtain ⟨xs, m, _, _, hlen, hxs, hel⟩ := DataW.trod_struct Tryz.underlying80 hf
  have hxn : xs.length = 2 := hxs
  have e0 := hel 0 _ rfl
  have e1 := hel 1 _ rfl
  rw [List.getElem?_eq_getElem (by omega)] at e0 e1
  replace e0 : DataW.trod enc Tryz.prog w base spare held m 34 ((cs.drop 0).take (Tryz.prog.cellsOf 34)) = some xs[0] := e0
  rw [cellsHash] at e0
  replace e1 : DataW.trod enc Tryz.prog w base spare held m 24 ((cs.drop 32).take (Tryz.prog.cellsOf 24)) = some xs[1] := e1
  rw [cellsU64] at e1
  obtain ⟨a0, h0, l0⟩ := hash_cells e0 (by rw [List.length_take, List.length_drop]; omega)
  obtain ⟨c1, h1, _, w1⟩ := DataW.trod_int Tryz.underlying24 e1
  obtain ⟨a1, rfl, l1⟩ := u64_of w1
  refine ⟨⟨a0, a1⟩, ?_, ⟨l0, l1⟩⟩
  have h : cs = cs.drop 0 := rfl
  rw [h, cut_at cs 0 32 32 rfl, cut_at cs 32 1 33 rfl, h0, h1, List.drop_of_length_le (i := 33) (by omega)]
  simp [inCs]
set_option maxRecDepth 100000 in
theorem out_cells {H : Type} {enc : TypeId × Value → H} {w : World} {base : Nat} {spare : Nat → Bool} {held : Bool} {fuel : Nat} {cs : List Value} {x : DataW H × List MemPlace}
    (hf : DataW.trod enc Tryz.prog w base spare held fuel 84 cs = some x) (hcl : cs.length = 65) : ∃ y : OutT, cs = outCs y ∧ y.Ok := by
  obtain ⟨xs, m, _, _, hlen, hxs, hel⟩ := DataW.trod_struct Tryz.underlying84 hf
  have hxn : xs.length = 3 := hxs
  have e0 := hel 0 _ rfl
  have e1 := hel 1 _ rfl
  have e2 := hel 2 _ rfl
  rw [List.getElem?_eq_getElem (by omega)] at e0 e1 e2
  replace e0 : DataW.trod enc Tryz.prog w base spare held m 34 ((cs.drop 0).take (Tryz.prog.cellsOf 34)) = some xs[0] := e0
  rw [cellsHash] at e0
  replace e1 : DataW.trod enc Tryz.prog w base spare held m 34 ((cs.drop 32).take (Tryz.prog.cellsOf 34)) = some xs[1] := e1
  rw [cellsHash] at e1
  replace e2 : DataW.trod enc Tryz.prog w base spare held m 24 ((cs.drop 64).take (Tryz.prog.cellsOf 24)) = some xs[2] := e2
  rw [cellsU64] at e2
  obtain ⟨a0, h0, l0⟩ := hash_cells e0 (by rw [List.length_take, List.length_drop]; omega)
  obtain ⟨a1, h1, l1⟩ := hash_cells e1 (by rw [List.length_take, List.length_drop]; omega)
  obtain ⟨c2, h2, _, w2⟩ := DataW.trod_int Tryz.underlying24 e2
  obtain ⟨a2, rfl, l2⟩ := u64_of w2
  refine ⟨⟨a0, a1, a2⟩, ?_, ⟨l0, l1, l2⟩⟩
  have h : cs = cs.drop 0 := rfl
  rw [h, cut_at cs 0 32 32 rfl, cut_at cs 32 32 64 rfl, cut_at cs 64 1 65 rfl, h0, h1, h2, List.drop_of_length_le (i := 65) (by omega)]
  simp [outCs]
set_option maxRecDepth 100000 in
theorem cert_cells {H : Type} {enc : TypeId × Value → H} {w : World} {base : Nat} {spare : Nat → Bool} {held : Bool} {fuel : Nat} {cs : List Value} {x : DataW H × List MemPlace}
    (hf : DataW.trod enc Tryz.prog w base spare held fuel 87 cs = some x) (hcl : cs.length = 68) : ∃ y : CertT, cs = certCs y ∧ y.Ok := by
  obtain ⟨xs, m, _, _, hlen, hxs, hel⟩ := DataW.trod_struct Tryz.underlying87 hf
  have hxn : xs.length = 6 := hxs
  have e0 := hel 0 _ rfl
  have e1 := hel 1 _ rfl
  have e2 := hel 2 _ rfl
  have e3 := hel 3 _ rfl
  have e4 := hel 4 _ rfl
  have e5 := hel 5 _ rfl
  rw [List.getElem?_eq_getElem (by omega)] at e0 e1 e2 e3 e4 e5
  replace e0 : DataW.trod enc Tryz.prog w base spare held m 5 ((cs.drop 0).take (Tryz.prog.cellsOf 5)) = some xs[0] := e0
  rw [cellsByte] at e0
  replace e1 : DataW.trod enc Tryz.prog w base spare held m 34 ((cs.drop 1).take (Tryz.prog.cellsOf 34)) = some xs[1] := e1
  rw [cellsHash] at e1
  replace e2 : DataW.trod enc Tryz.prog w base spare held m 34 ((cs.drop 33).take (Tryz.prog.cellsOf 34)) = some xs[2] := e2
  rw [cellsHash] at e2
  replace e3 : DataW.trod enc Tryz.prog w base spare held m 24 ((cs.drop 65).take (Tryz.prog.cellsOf 24)) = some xs[3] := e3
  rw [cellsU64] at e3
  replace e4 : DataW.trod enc Tryz.prog w base spare held m 24 ((cs.drop 66).take (Tryz.prog.cellsOf 24)) = some xs[4] := e4
  rw [cellsU64] at e4
  replace e5 : DataW.trod enc Tryz.prog w base spare held m 24 ((cs.drop 67).take (Tryz.prog.cellsOf 24)) = some xs[5] := e5
  rw [cellsU64] at e5
  obtain ⟨c0, h0, _, w0⟩ := DataW.trod_int Tryz.underlying5 e0
  obtain ⟨a0, rfl, l0⟩ := u8_of w0
  obtain ⟨a1, h1, l1⟩ := hash_cells e1 (by rw [List.length_take, List.length_drop]; omega)
  obtain ⟨a2, h2, l2⟩ := hash_cells e2 (by rw [List.length_take, List.length_drop]; omega)
  obtain ⟨c3, h3, _, w3⟩ := DataW.trod_int Tryz.underlying24 e3
  obtain ⟨a3, rfl, l3⟩ := u64_of w3
  obtain ⟨c4, h4, _, w4⟩ := DataW.trod_int Tryz.underlying24 e4
  obtain ⟨a4, rfl, l4⟩ := u64_of w4
  obtain ⟨c5, h5, _, w5⟩ := DataW.trod_int Tryz.underlying24 e5
  obtain ⟨a5, rfl, l5⟩ := u64_of w5
  refine ⟨⟨a0, a1, a2, a3, a4, a5⟩, ?_, ⟨l0, l1, l2, l3, l4, l5⟩⟩
  have h : cs = cs.drop 0 := rfl
  rw [h, cut_at cs 0 1 1 rfl, cut_at cs 1 32 33 rfl, cut_at cs 33 32 65 rfl, cut_at cs 65 1 66 rfl, cut_at cs 66 1 67 rfl, cut_at cs 67 1 68 rfl, h0, h1, h2, h3, h4, h5, List.drop_of_length_le (i := 68) (by omega)]
  simp [certCs]
set_option maxRecDepth 100000 in
theorem pay_cells {H : Type} {enc : TypeId × Value → H} {w : World} {base : Nat} {spare : Nat → Bool} {held : Bool} {fuel : Nat} {cs : List Value} {x : DataW H × List MemPlace}
    (hf : DataW.trod enc Tryz.prog w base spare held fuel 89 cs = some x) (hcl : cs.length = 33) : ∃ y : PayT, cs = payCs y ∧ y.Ok := by
  obtain ⟨xs, m, _, _, hlen, hxs, hel⟩ := DataW.trod_struct Tryz.underlying89 hf
  have hxn : xs.length = 2 := hxs
  have e0 := hel 0 _ rfl
  have e1 := hel 1 _ rfl
  rw [List.getElem?_eq_getElem (by omega)] at e0 e1
  replace e0 : DataW.trod enc Tryz.prog w base spare held m 34 ((cs.drop 0).take (Tryz.prog.cellsOf 34)) = some xs[0] := e0
  rw [cellsHash] at e0
  replace e1 : DataW.trod enc Tryz.prog w base spare held m 24 ((cs.drop 32).take (Tryz.prog.cellsOf 24)) = some xs[1] := e1
  rw [cellsU64] at e1
  obtain ⟨a0, h0, l0⟩ := hash_cells e0 (by rw [List.length_take, List.length_drop]; omega)
  obtain ⟨c1, h1, _, w1⟩ := DataW.trod_int Tryz.underlying24 e1
  obtain ⟨a1, rfl, l1⟩ := u64_of w1
  refine ⟨⟨a0, a1⟩, ?_, ⟨l0, l1⟩⟩
  have h : cs = cs.drop 0 := rfl
  rw [h, cut_at cs 0 32 32 rfl, cut_at cs 32 1 33 rfl, h0, h1, List.drop_of_length_le (i := 33) (by omega)]
  simp [payCs]
set_option maxRecDepth 100000 in
theorem wit_cells {H : Type} {enc : TypeId × Value → H} {w : World} {base : Nat} {spare : Nat → Bool} {held : Bool} {fuel : Nat} {cs : List Value} {x : DataW H × List MemPlace}
    (hf : DataW.trod enc Tryz.prog w base spare held fuel 74 cs = some x) (hcl : cs.length = 33) : ∃ y : WitT, cs = witCs y ∧ y.Ok ∧ y.sig.size ≤ maxLen := by
  obtain ⟨xs, m, _, _, hlen, hxs, hel⟩ := DataW.trod_struct Tryz.underlying74 hf
  have hxn : xs.length = 2 := hxs
  have e0 := hel 0 _ rfl
  have e1 := hel 1 _ rfl
  rw [List.getElem?_eq_getElem (by omega)] at e0 e1
  replace e0 : DataW.trod enc Tryz.prog w base spare held m 34 ((cs.drop 0).take (Tryz.prog.cellsOf 34)) = some xs[0] := e0
  rw [cellsHash] at e0
  replace e1 : DataW.trod enc Tryz.prog w base spare held m 9 ((cs.drop 32).take (Tryz.prog.cellsOf 9)) = some xs[1] := e1
  rw [cellsStr] at e1
  obtain ⟨a0, h0, l0⟩ := hash_cells e0 (by rw [List.length_take, List.length_drop]; omega)
  obtain ⟨a1, h1, _, w1⟩ := DataW.trod_string Tryz.underlying9 e1
  refine ⟨⟨a0, a1⟩, ?_, l0, w1⟩
  have h : cs = cs.drop 0 := rfl
  rw [h, cut_at cs 0 32 32 rfl, cut_at cs 32 1 33 rfl, h0, h1, List.drop_of_length_le (i := 33) (by omega)]
  simp [witCs]
theorem cellsIn : Tryz.prog.cellsOf 80 = 33 := by kernel_rfl
theorem cellsOut : Tryz.prog.cellsOf 84 = 65 := by kernel_rfl
theorem cellsCert : Tryz.prog.cellsOf 87 = 68 := by kernel_rfl
theorem cellsPay : Tryz.prog.cellsOf 89 = 33 := by kernel_rfl
theorem cellsWit : Tryz.prog.cellsOf 74 = 33 := by kernel_rfl
theorem cellsDeed : Tryz.prog.cellsOf 29 = 8 := by kernel_rfl
theorem cellsSlIn : Tryz.prog.cellsOf 22 = 1 := by kernel_rfl
theorem cellsSlOut : Tryz.prog.cellsOf 23 = 1 := by kernel_rfl
theorem cellsSlCert : Tryz.prog.cellsOf 25 = 1 := by kernel_rfl
theorem cellsSlPay : Tryz.prog.cellsOf 26 = 1 := by kernel_rfl
theorem cellsSlWit : Tryz.prog.cellsOf 27 = 1 := by kernel_rfl
theorem open_ins {H : Type} {enc : TypeId × Value → H} {w : World} {base : Nat} {spare : Nat → Bool} {held : Bool} {fuel : Nat} {v : Value} {x : DataW H × List MemPlace} (hd : DataW.trod enc Tryz.prog w base spare held fuel 22 [v] = some x) :
    ∃ l : List InT, Sl w v 33 (l.map inCs) ∧ (∀ y ∈ l, y.Ok) ∧ l.length ≤ maxLen :=
  open_cells inCs (fun y => y.Ok) Tryz.underlying22 cellsIn (by decide) (fun fuel cs x h hl => in_cells h hl) hd
theorem open_outs {H : Type} {enc : TypeId × Value → H} {w : World} {base : Nat} {spare : Nat → Bool} {held : Bool} {fuel : Nat} {v : Value} {x : DataW H × List MemPlace} (hd : DataW.trod enc Tryz.prog w base spare held fuel 23 [v] = some x) :
    ∃ l : List OutT, Sl w v 65 (l.map outCs) ∧ (∀ y ∈ l, y.Ok) ∧ l.length ≤ maxLen :=
  open_cells outCs (fun y => y.Ok) Tryz.underlying23 cellsOut (by decide) (fun fuel cs x h hl => out_cells h hl) hd
theorem open_certs {H : Type} {enc : TypeId × Value → H} {w : World} {base : Nat} {spare : Nat → Bool} {held : Bool} {fuel : Nat} {v : Value} {x : DataW H × List MemPlace} (hd : DataW.trod enc Tryz.prog w base spare held fuel 25 [v] = some x) :
    ∃ l : List CertT, Sl w v 68 (l.map certCs) ∧ (∀ y ∈ l, y.Ok) ∧ l.length ≤ maxLen :=
  open_cells certCs (fun y => y.Ok) Tryz.underlying25 cellsCert (by decide) (fun fuel cs x h hl => cert_cells h hl) hd
theorem open_pays {H : Type} {enc : TypeId × Value → H} {w : World} {base : Nat} {spare : Nat → Bool} {held : Bool} {fuel : Nat} {v : Value} {x : DataW H × List MemPlace} (hd : DataW.trod enc Tryz.prog w base spare held fuel 26 [v] = some x) :
    ∃ l : List PayT, Sl w v 33 (l.map payCs) ∧ (∀ y ∈ l, y.Ok) ∧ l.length ≤ maxLen :=
  open_cells payCs (fun y => y.Ok) Tryz.underlying26 cellsPay (by decide) (fun fuel cs x h hl => pay_cells h hl) hd
theorem open_wits {H : Type} {enc : TypeId × Value → H} {w : World} {base : Nat} {spare : Nat → Bool} {held : Bool} {fuel : Nat} {v : Value} {x : DataW H × List MemPlace} (hd : DataW.trod enc Tryz.prog w base spare held fuel 27 [v] = some x) :
    ∃ l : List WitT, Sl w v 33 (l.map witCs) ∧ (∀ y ∈ l, y.Ok ∧ y.sig.size ≤ maxLen) ∧ l.length ≤ maxLen :=
  open_cells witCs (fun y => y.Ok ∧ y.sig.size ≤ maxLen) Tryz.underlying27 cellsWit (by decide) (fun fuel cs x h hl => wit_cells h hl) hd
theorem one_cell {cs : List Value} (hl : cs.length = 8) (k : Nat) (hk : k < 8) : (cs.drop k).take 1 = [cs[k]'(by omega)] := by
  rw [List.drop_eq_getElem_cons (by omega), List.take_succ_cons, List.take_zero]
set_option maxRecDepth 100000 in
theorem open_deed {H : Type} {enc : TypeId × Value → H} {w : World} {base b0 : Nat} {spare : Nat → Bool} {held : Bool} {r : Reach} {v : Value} {d : DataW H} {ps : List MemPlace}
    (hval : Value.okWide Tryz.prog w r b0 29 v) (hd : DataW.Trod enc Tryz.prog w base spare held 29 v d ps) : ∃ x : Deed, DeedIs w v x ∧ (∀ y ∈ x.wits, y.sig.size ≤ maxLen) ∧ x.ins.length ≤ maxLen ∧ x.outs.length ≤ maxLen ∧ x.certs.length ≤ maxLen ∧ x.pays.length ≤ maxLen ∧ x.wits.length ≤ maxLen := by
  obtain ⟨ca, rfl, hsz, _⟩ : ∃ cs, v = .agg cs ∧ cs.size = Tryz.prog.cellsOf 29 ∧ Row.okWide Tryz.prog w r b0 29 cs := by
    simpa [Value.okWide, Tryz.underlying29] using hval
  obtain ⟨fuel, hf⟩ := hd
  rw [cellsDeed] at hsz
  have hcl : ca.toList.length = 8 := by simpa using hsz
  obtain ⟨cs, hcs⟩ : ∃ cs, cs = ca.toList := ⟨_, rfl⟩
  have hca : ca = cs.toArray := by rw [hcs]
  replace hf : DataW.trod enc Tryz.prog w base spare held fuel 29 cs = some (d, ps) := by rw [hcs]; exact hf
  rw [← hcs] at hcl
  rw [hca]
  clear hcs hca hsz hval
  obtain ⟨xs, m, _, _, hlen, hxs, hel⟩ := DataW.trod_struct Tryz.underlying29 hf
  have hxn : xs.length = 8 := hxs
  have e0 := hel 0 _ rfl
  have e1 := hel 1 _ rfl
  have e2 := hel 2 _ rfl
  have e3 := hel 3 _ rfl
  have e4 := hel 4 _ rfl
  have e5 := hel 5 _ rfl
  have e6 := hel 6 _ rfl
  have e7 := hel 7 _ rfl
  rw [List.getElem?_eq_getElem (by omega)] at e0 e1 e2 e3 e4 e5 e6 e7
  replace e0 : DataW.trod enc Tryz.prog w base spare held m 22 ((cs.drop 0).take (Tryz.prog.cellsOf 22)) = some xs[0] := e0
  rw [cellsSlIn] at e0
  rw [one_cell hcl 0 (by decide)] at e0
  obtain ⟨a0, s0, k0, n0⟩ := open_ins e0
  replace e1 : DataW.trod enc Tryz.prog w base spare held m 23 ((cs.drop 1).take (Tryz.prog.cellsOf 23)) = some xs[1] := e1
  rw [cellsSlOut] at e1
  rw [one_cell hcl 1 (by decide)] at e1
  obtain ⟨a1, s1, k1, n1⟩ := open_outs e1
  replace e2 : DataW.trod enc Tryz.prog w base spare held m 24 ((cs.drop 2).take (Tryz.prog.cellsOf 24)) = some xs[2] := e2
  rw [cellsU64] at e2
  rw [one_cell hcl 2 (by decide)] at e2
  obtain ⟨c2, h2, _, w2⟩ := DataW.trod_int Tryz.underlying24 e2
  obtain ⟨a2, rfl, l2⟩ := u64_of w2
  simp only [List.cons.injEq, and_true] at h2
  replace e3 : DataW.trod enc Tryz.prog w base spare held m 24 ((cs.drop 3).take (Tryz.prog.cellsOf 24)) = some xs[3] := e3
  rw [cellsU64] at e3
  rw [one_cell hcl 3 (by decide)] at e3
  obtain ⟨c3, h3, _, w3⟩ := DataW.trod_int Tryz.underlying24 e3
  obtain ⟨a3, rfl, l3⟩ := u64_of w3
  simp only [List.cons.injEq, and_true] at h3
  replace e4 : DataW.trod enc Tryz.prog w base spare held m 24 ((cs.drop 4).take (Tryz.prog.cellsOf 24)) = some xs[4] := e4
  rw [cellsU64] at e4
  rw [one_cell hcl 4 (by decide)] at e4
  obtain ⟨c4, h4, _, w4⟩ := DataW.trod_int Tryz.underlying24 e4
  obtain ⟨a4, rfl, l4⟩ := u64_of w4
  simp only [List.cons.injEq, and_true] at h4
  replace e5 : DataW.trod enc Tryz.prog w base spare held m 25 ((cs.drop 5).take (Tryz.prog.cellsOf 25)) = some xs[5] := e5
  rw [cellsSlCert] at e5
  rw [one_cell hcl 5 (by decide)] at e5
  obtain ⟨a5, s5, k5, n5⟩ := open_certs e5
  replace e6 : DataW.trod enc Tryz.prog w base spare held m 26 ((cs.drop 6).take (Tryz.prog.cellsOf 26)) = some xs[6] := e6
  rw [cellsSlPay] at e6
  rw [one_cell hcl 6 (by decide)] at e6
  obtain ⟨a6, s6, k6, n6⟩ := open_pays e6
  replace e7 : DataW.trod enc Tryz.prog w base spare held m 27 ((cs.drop 7).take (Tryz.prog.cellsOf 27)) = some xs[7] := e7
  rw [cellsSlWit] at e7
  rw [one_cell hcl 7 (by decide)] at e7
  obtain ⟨a7, s7, k7, n7⟩ := open_wits e7
  refine ⟨⟨a0, a1, a2, a3, a4, a5, a6, a7⟩, ⟨_, _, _, _, _, ?_, s0, s1, s5, s6, s7, ⟨k0, k1, l2, l3, l4, k5, k6, fun x hx => (k7 x hx).1⟩⟩, fun y hy => (k7 y hy).2, n0, n1, n5, n6, n7⟩
  unfold deedV deedCs
  congr 2
  rw [← h2, ← h3, ← h4]
  apply List.ext_getElem
  · simp [hcl]
  · intro i h1 h2
    have hi : i < 8 := by omega
    have : i = 0 ∨ i = 1 ∨ i = 2 ∨ i = 3 ∨ i = 4 ∨ i = 5 ∨ i = 6 ∨ i = 7 := by omega
    rcases this with rfl | rfl | rfl | rfl | rfl | rfl | rfl | rfl <;> rfl
end Go.Proofs.YtbbfnpfkbbpjgaaGreat
