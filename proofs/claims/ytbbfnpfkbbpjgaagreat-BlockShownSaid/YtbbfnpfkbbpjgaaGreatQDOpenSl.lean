/- Arguments that are slices of flat elements: each element's cells are told by a function. Slices of hashes. -/
import Derived.Test.YtbbfnpfkbbpjgaaGreatQDMBase
import Derived.Test.YtbbfnpfkbbpjgaaGreatQDMCells
import Derived.SliceStrings
import Derived.Test.YtbbfnpfkbbpjgaaGreatQDHdAt
import Derived.ChangeArms
import Derived.Test.YtbbfnpfkbbpjgaaGreatQDElCert
import Derived.Test.YtbbfnpfkbbpjgaaGreatQDBlkE
import Derived.Test.YtbbfnpfkbbpjgaaGreatQDDeed5
namespace Go.Proofs.YtbbfnpfkbbpjgaaGreat
open Go.ChangeShapes Go.WideShapes Go.RowKit
set_option linter.unusedVariables false
set_option linter.unusedSimpArgs false
set_option maxRecDepth 100000
set_option maxHeartbeats 4000000
/-- A list that each place of has something. -/
theorem x4t {α : Type} (n : Nat) (R : Nat → α → Prop) (h : ∀ i, i < n → ∃ y, R i y) : ∃ l : List α, l.length = n ∧ ∀ (i : Nat) (y : α), l[i]? = some y → R i y := by
 induction n with
 | zero => exact ⟨[], rfl, fun i y hi => by simp at hi⟩
 | succ n ih =>
  obtain ⟨l, hl, hr⟩ := ih (fun i hi => h i (by omega))
  obtain ⟨y, hy⟩ := h n (by omega)
  refine ⟨l ++ [y], by simp [hl], fun i z hz => ?_⟩
  by_cases hi : i < l.length
  ·rw [List.getElem?_append_left hi] at hz
   exact hr i z hz
  ·rw [List.getElem?_append_right (by omega)] at hz
   have h0 : i - l.length = 0 := by
    have := (List.getElem?_eq_some_iff.1 hz).1
    simp at this
    omega
   rw [h0] at hz
   simp at hz
   subst hz
   rwa [show i = n by omega]
/-- A slice of flat elements, from its cells. -/
theorem q5r {H : Type} {enc : TypeId × Value → H} {w : World} {base : Nat} {spare : Nat → Bool} {held : Bool} {α : Type} (f : α → List Value) (Pr : α → Prop) {t e sz : Nat} (ht : Tryz.prog.underlying t = some (.slice e)) (hc : Tryz.prog.cellsOf e = sz) (hsz : 0 < sz)
    (each : ∀ fuel cs x, DataW.trod enc Tryz.prog w base spare held fuel e cs = some x → cs.length = sz → ∃ y, cs = f y ∧ Pr y) {fuel : Nat} {v : Value} {x : DataW H × List MemPlace}
    (hd : DataW.trod enc Tryz.prog w base spare held fuel t [v] = some x) : ∃ l : List α, Sl w v sz (l.map f) ∧ (∀ y ∈ l, Pr y) ∧ l.length ≤ maxLen := by
  rcases DataW.trod_slice ht hd with ⟨h1, _⟩ | ⟨a, len, cap, elems, rest, n, _, h1, _, hb, hl, hm, hlen, hel, _, _⟩
  · simp only [List.cons.injEq, and_true] at h1
    rw [h1]
    exact ⟨[], Sl.nil w sz, by simp, by simp⟩
  · simp only [List.cons.injEq, and_true] at h1
    rw [h1]
    have key : ∀ i, i < len → ∃ y : α, Pr y ∧ (f y).length = sz ∧ ∀ j, j < sz → w.cell? ((a.add (i * sz)).add j) = (f y)[j]? := by
      intro i hi
      have h2 := hel i hi
      have hi' : i < elems.length := by omega
      rw [List.getElem?_eq_getElem hi', Option.bind_eq_some_iff] at h2
      obtain ⟨cs, hcs, ht'⟩ := h2
      obtain ⟨_, hcl, hcell⟩ := World.cells?_some hcs
      rw [hc] at hcl hcell
      obtain ⟨y, rfl, hp⟩ := each _ _ _ ht' hcl
      exact ⟨y, hp, hcl, hcell⟩
    obtain ⟨l, hl1, hl2⟩ := x4t len _ key
    have hlm : l.length ≤ maxLen := by omega
    refine ⟨l, ⟨some a, cap, by rw [List.length_map, hl1], by rw [List.length_map, hl1]; exact hl, hm, ?_, fun h => (by cases h), fun hne => ?_⟩, ?_, hlm⟩
    · intro e' he
      obtain ⟨y, hy, rfl⟩ := List.mem_map.1 he
      obtain ⟨i, hi⟩ := List.mem_iff_getElem?.1 hy
      exact (hl2 i y hi).2.1
    · have h0 : 0 < l.length := by
        cases l with
        | nil => exact absurd rfl hne
        | cons => simp
      have hc0 := (hl2 0 _ (List.getElem?_eq_getElem h0)).2.2 0 hsz
      have hf0 := (hl2 0 _ (List.getElem?_eq_getElem h0)).2.1
      rw [List.getElem?_eq_getElem (by rw [hf0]; exact hsz)] at hc0
      obtain ⟨g, off, spot⟩ := a
      have hspot : spot = none := by simpa [Addr.add] using World.cell?_spot hc0
      subst hspot
      rw [Cells.add, Cells.add] at hc0
      refine ⟨g, off, rfl, World.block_lt_of_cell? w _ hc0, fun i e' he j u hu => ?_⟩
      rw [List.getElem?_map, Option.map_eq_some_iff] at he
      obtain ⟨y, hy, rfl⟩ := he
      obtain ⟨_, hfl, hcj⟩ := hl2 i y hy
      have := hcj j (by rw [← hfl]; exact (List.getElem?_eq_some_iff.1 hu).1)
      rw [Cells.add, Cells.add, hu] at this
      exact this
    · intro y hy
      obtain ⟨i, hi⟩ := List.mem_iff_getElem?.1 hy
      exact (hl2 i y hi).1
/-- Thirty-two cells that a hash has. -/
theorem q3q {H : Type} {enc : TypeId × Value → H} {w : World} {base : Nat} {spare : Nat → Bool} {held : Bool} {fuel : Nat} {cs : List Value} {x : DataW H × List MemPlace}
  (hf : DataW.trod enc Tryz.prog w base spare held fuel 34 cs = some x) (hcl : cs.length = 32) : ∃ l : List UInt8, cs = bvs l ∧ l.length = 32 := by
 obtain ⟨xs, m, _, _, hlen, hxs, hel⟩ := DataW.trod_array Tryz.underlying34 hf
 rw [cellsByte] at hel
 have hcell : ∀ i, (h : i < cs.length) → ∃ n : UInt8, cs[i] = .int .u8 (n.toNat : Int) := by
  intro i hi
  have h1 := hel i (by omega)
  have hx : i < xs.length := by omega
  rw [List.getElem?_eq_getElem hx] at h1
  obtain ⟨n, hn, _, hw⟩ := DataW.trod_int Tryz.underlying5 h1
  simp only [Nat.mul_one] at hn
  have h2 : ((cs.drop i).take 1)[0]? = some (.int .u8 n) := by rw [hn]; rfl
  have h3 : cs[i]? = some (.int .u8 n) := by
   rw [List.getElem?_take, if_pos (by omega), List.getElem?_drop, Nat.add_zero] at h2
   exact h2
  have hb := bounds_u8 hw
  refine ⟨UInt8.ofNat n.toNat, ?_⟩
  rw [List.getElem?_eq_getElem hi] at h3
  rw [Option.some.inj h3, UInt8.toNat_ofNat']
  congr 1
  omega
 refine ⟨cs.map (fun v => UInt8.ofNat (RowKit.intOf v).toNat), ?_, by simpa using hcl⟩
 apply List.ext_getElem
 ·simp [bvs]
 ·intro i h1 h2
  obtain ⟨n, hn⟩ := hcell i h1
  simp only [bvs, List.getElem_map, hn, RowKit.intOf]
  simp
theorem cellsU64 : Tryz.prog.cellsOf 24 = 1 := by kernel_rfl
theorem cellsStr : Tryz.prog.cellsOf 9 = 1 := by kernel_rfl
theorem cellsRt : Tryz.prog.cellsOf 47 = 35 := by kernel_rfl
theorem cellsHd : Tryz.prog.cellsOf 49 = 136 := by kernel_rfl
theorem q5y {n : Int} (h : (Lit.int .u64 n).wf = true) : ∃ m : Nat, n = m ∧ m < 18446744073709551616 := by
 have h2 : 0 ≤ n ∧ n ≤ 18446744073709551615 := by simpa [Lit.wf, IntKind.min, IntKind.max, IntKind.signed, IntKind.bits] using h
 exact ⟨n.toNat, by omega, by omega⟩
/-- Cut a list in two. -/
theorem q2x {α : Type} (L : List α) (k n m : Nat) (h : k + n = m) : L.drop k = (L.drop k).take n ++ L.drop m := by
 subst h
 rw [← List.drop_drop, List.take_append_drop]
/-- Thirty-five cells that a right has. -/
theorem x9j {H : Type} {enc : TypeId × Value → H} {w : World} {base : Nat} {spare : Nat → Bool} {held : Bool} {fuel : Nat} {cs : List Value} {x : DataW H × List MemPlace}
  (hf : DataW.trod enc Tryz.prog w base spare held fuel 47 cs = some x) (hcl : cs.length = 35) : ∃ r : Rt, cs = rtCs r ∧ r.Ok ∧ r.sig.size ≤ maxLen := by
 obtain ⟨xs, m, _, _, hlen, hxs, hel⟩ := DataW.trod_struct Tryz.underlying47 hf
 have hx4 : xs.length = 4 := hxs
 have e0 := hel 0 _ rfl
 have e1 := hel 1 _ rfl
 have e2 := hel 2 _ rfl
 have e3 := hel 3 _ rfl
 rw [List.getElem?_eq_getElem (by omega)] at e0 e1 e2 e3
 replace e0 : DataW.trod enc Tryz.prog w base spare held m 34 ((cs.drop 0).take (Tryz.prog.cellsOf 34)) = some xs[0] := e0
 replace e1 : DataW.trod enc Tryz.prog w base spare held m 24 ((cs.drop 32).take (Tryz.prog.cellsOf 24)) = some xs[1] := e1
 replace e2 : DataW.trod enc Tryz.prog w base spare held m 24 ((cs.drop 33).take (Tryz.prog.cellsOf 24)) = some xs[2] := e2
 replace e3 : DataW.trod enc Tryz.prog w base spare held m 9 ((cs.drop 34).take (Tryz.prog.cellsOf 9)) = some xs[3] := e3
 rw [cellsHash] at e0
 rw [cellsU64] at e1 e2
 rw [cellsStr] at e3
 obtain ⟨hot, hhot, hl⟩ := q3q e0 (by rw [List.length_take, List.length_drop]; omega)
 obtain ⟨c, hc, _, wc⟩ := DataW.trod_int Tryz.underlying24 e1
 obtain ⟨s, hs, _, ws⟩ := DataW.trod_int Tryz.underlying24 e2
 obtain ⟨g, hg, _, wg⟩ := DataW.trod_string Tryz.underlying9 e3
 obtain ⟨c', rfl, lc⟩ := q5y wc
 obtain ⟨s', rfl, ls⟩ := q5y ws
 refine ⟨⟨hot, c', s', g⟩, ?_, ⟨hl, lc, ls⟩, wg⟩
 have h0 : cs = (cs.drop 0) := rfl
 rw [h0, q2x cs 0 32 32 rfl, q2x cs 32 1 33 rfl, q2x cs 33 1 34 rfl, q2x cs 34 1 35 rfl, hhot, hc, hs, hg, List.drop_of_length_le (i := 35) (by omega)]
 rfl
theorem u8_of {n : Int} (h : (Lit.int .u8 n).wf = true) : ∃ m : Nat, n = m ∧ m < 256 := by
 have h2 : 0 ≤ n ∧ n ≤ 255 := by simpa [Lit.wf, IntKind.min, IntKind.max, IntKind.signed, IntKind.bits] using h
 exact ⟨n.toNat, by omega, by omega⟩
theorem x9q {H : Type} {enc : TypeId × Value → H} {w : World} {base : Nat} {spare : Nat → Bool} {held : Bool} {fuel : Nat} {cs : List Value} {x : DataW H × List MemPlace}
  (hf : DataW.trod enc Tryz.prog w base spare held fuel 80 cs = some x) (hcl : cs.length = 33) : ∃ y : InT, cs = inCs y ∧ y.Ok := by
 obtain ⟨xs, m, _, _, hlen, hxs, hel⟩ := DataW.trod_struct Tryz.underlying80 hf
 have hxn : xs.length = 2 := hxs
 have e0 := hel 0 _ rfl
 have e1 := hel 1 _ rfl
 rw [List.getElem?_eq_getElem (by omega)] at e0 e1
 replace e0 : DataW.trod enc Tryz.prog w base spare held m 34 ((cs.drop 0).take (Tryz.prog.cellsOf 34)) = some xs[0] := e0
 rw [cellsHash] at e0
 replace e1 : DataW.trod enc Tryz.prog w base spare held m 24 ((cs.drop 32).take (Tryz.prog.cellsOf 24)) = some xs[1] := e1
 rw [cellsU64] at e1
 obtain ⟨a0, h0, l0⟩ := q3q e0 (by rw [List.length_take, List.length_drop]; omega)
 obtain ⟨c1, h1, _, w1⟩ := DataW.trod_int Tryz.underlying24 e1
 obtain ⟨a1, rfl, l1⟩ := q5y w1
 refine ⟨⟨a0, a1⟩, ?_, ⟨l0, l1⟩⟩
 have h : cs = cs.drop 0 := rfl
 rw [h, q2x cs 0 32 32 rfl, q2x cs 32 1 33 rfl, h0, h1, List.drop_of_length_le (i := 33) (by omega)]
 simp [inCs]
theorem x6g {H : Type} {enc : TypeId × Value → H} {w : World} {base : Nat} {spare : Nat → Bool} {held : Bool} {fuel : Nat} {cs : List Value} {x : DataW H × List MemPlace}
  (hf : DataW.trod enc Tryz.prog w base spare held fuel 84 cs = some x) (hcl : cs.length = 65) : ∃ y : OutT, cs = outCs y ∧ y.Ok := by
 obtain ⟨xs, m, _, _, hlen, hxs, hel⟩ := DataW.trod_struct Tryz.underlying84 hf
 have hxn : xs.length = 3 := hxs
 have e0 := hel 0 _ rfl
 have e1 := hel 1 _ rfl
 have e2 := hel 2 _ rfl
 rw [List.getElem?_eq_getElem (by omega)] at e0 e1 e2
 replace e0 : DataW.trod enc Tryz.prog w base spare held m 34 ((cs.drop 0).take (Tryz.prog.cellsOf 34)) = some xs[0] := e0
 rw [cellsHash] at e0
 replace e1 : DataW.trod enc Tryz.prog w base spare held m 34 ((cs.drop 32).take (Tryz.prog.cellsOf 34)) = some xs[1] := e1
 rw [cellsHash] at e1
 replace e2 : DataW.trod enc Tryz.prog w base spare held m 24 ((cs.drop 64).take (Tryz.prog.cellsOf 24)) = some xs[2] := e2
 rw [cellsU64] at e2
 obtain ⟨a0, h0, l0⟩ := q3q e0 (by rw [List.length_take, List.length_drop]; omega)
 obtain ⟨a1, h1, l1⟩ := q3q e1 (by rw [List.length_take, List.length_drop]; omega)
 obtain ⟨c2, h2, _, w2⟩ := DataW.trod_int Tryz.underlying24 e2
 obtain ⟨a2, rfl, l2⟩ := q5y w2
 refine ⟨⟨a0, a1, a2⟩, ?_, ⟨l0, l1, l2⟩⟩
 have h : cs = cs.drop 0 := rfl
 rw [h, q2x cs 0 32 32 rfl, q2x cs 32 32 64 rfl, q2x cs 64 1 65 rfl, h0, h1, h2, List.drop_of_length_le (i := 65) (by omega)]
 simp [outCs]
theorem x4b {H : Type} {enc : TypeId × Value → H} {w : World} {base : Nat} {spare : Nat → Bool} {held : Bool} {fuel : Nat} {cs : List Value} {x : DataW H × List MemPlace}
  (hf : DataW.trod enc Tryz.prog w base spare held fuel 87 cs = some x) (hcl : cs.length = 68) : ∃ y : CertT, cs = certCs y ∧ y.Ok := by
 obtain ⟨xs, m, _, _, hlen, hxs, hel⟩ := DataW.trod_struct Tryz.underlying87 hf
 have hxn : xs.length = 6 := hxs
 have e0 := hel 0 _ rfl
 have e1 := hel 1 _ rfl
 have e2 := hel 2 _ rfl
 have e3 := hel 3 _ rfl
 have e4 := hel 4 _ rfl
 have e5 := hel 5 _ rfl
 rw [List.getElem?_eq_getElem (by omega)] at e0 e1 e2 e3 e4 e5
 replace e0 : DataW.trod enc Tryz.prog w base spare held m 5 ((cs.drop 0).take (Tryz.prog.cellsOf 5)) = some xs[0] := e0
 rw [cellsByte] at e0
 replace e1 : DataW.trod enc Tryz.prog w base spare held m 34 ((cs.drop 1).take (Tryz.prog.cellsOf 34)) = some xs[1] := e1
 rw [cellsHash] at e1
 replace e2 : DataW.trod enc Tryz.prog w base spare held m 34 ((cs.drop 33).take (Tryz.prog.cellsOf 34)) = some xs[2] := e2
 rw [cellsHash] at e2
 replace e3 : DataW.trod enc Tryz.prog w base spare held m 24 ((cs.drop 65).take (Tryz.prog.cellsOf 24)) = some xs[3] := e3
 rw [cellsU64] at e3
 replace e4 : DataW.trod enc Tryz.prog w base spare held m 24 ((cs.drop 66).take (Tryz.prog.cellsOf 24)) = some xs[4] := e4
 rw [cellsU64] at e4
 replace e5 : DataW.trod enc Tryz.prog w base spare held m 24 ((cs.drop 67).take (Tryz.prog.cellsOf 24)) = some xs[5] := e5
 rw [cellsU64] at e5
 obtain ⟨c0, h0, _, w0⟩ := DataW.trod_int Tryz.underlying5 e0
 obtain ⟨a0, rfl, l0⟩ := u8_of w0
 obtain ⟨a1, h1, l1⟩ := q3q e1 (by rw [List.length_take, List.length_drop]; omega)
 obtain ⟨a2, h2, l2⟩ := q3q e2 (by rw [List.length_take, List.length_drop]; omega)
 obtain ⟨c3, h3, _, w3⟩ := DataW.trod_int Tryz.underlying24 e3
 obtain ⟨a3, rfl, l3⟩ := q5y w3
 obtain ⟨c4, h4, _, w4⟩ := DataW.trod_int Tryz.underlying24 e4
 obtain ⟨a4, rfl, l4⟩ := q5y w4
 obtain ⟨c5, h5, _, w5⟩ := DataW.trod_int Tryz.underlying24 e5
 obtain ⟨a5, rfl, l5⟩ := q5y w5
 refine ⟨⟨a0, a1, a2, a3, a4, a5⟩, ?_, ⟨l0, l1, l2, l3, l4, l5⟩⟩
 have h : cs = cs.drop 0 := rfl
 rw [h, q2x cs 0 1 1 rfl, q2x cs 1 32 33 rfl, q2x cs 33 32 65 rfl, q2x cs 65 1 66 rfl, q2x cs 66 1 67 rfl, q2x cs 67 1 68 rfl, h0, h1, h2, h3, h4, h5, List.drop_of_length_le (i := 68) (by omega)]
 simp [certCs]
theorem x4v {H : Type} {enc : TypeId × Value → H} {w : World} {base : Nat} {spare : Nat → Bool} {held : Bool} {fuel : Nat} {cs : List Value} {x : DataW H × List MemPlace}
  (hf : DataW.trod enc Tryz.prog w base spare held fuel 89 cs = some x) (hcl : cs.length = 33) : ∃ y : PayT, cs = payCs y ∧ y.Ok := by
 obtain ⟨xs, m, _, _, hlen, hxs, hel⟩ := DataW.trod_struct Tryz.underlying89 hf
 have hxn : xs.length = 2 := hxs
 have e0 := hel 0 _ rfl
 have e1 := hel 1 _ rfl
 rw [List.getElem?_eq_getElem (by omega)] at e0 e1
 replace e0 : DataW.trod enc Tryz.prog w base spare held m 34 ((cs.drop 0).take (Tryz.prog.cellsOf 34)) = some xs[0] := e0
 rw [cellsHash] at e0
 replace e1 : DataW.trod enc Tryz.prog w base spare held m 24 ((cs.drop 32).take (Tryz.prog.cellsOf 24)) = some xs[1] := e1
 rw [cellsU64] at e1
 obtain ⟨a0, h0, l0⟩ := q3q e0 (by rw [List.length_take, List.length_drop]; omega)
 obtain ⟨c1, h1, _, w1⟩ := DataW.trod_int Tryz.underlying24 e1
 obtain ⟨a1, rfl, l1⟩ := q5y w1
 refine ⟨⟨a0, a1⟩, ?_, ⟨l0, l1⟩⟩
 have h : cs = cs.drop 0 := rfl
 rw [h, q2x cs 0 32 32 rfl, q2x cs 32 1 33 rfl, h0, h1, List.drop_of_length_le (i := 33) (by omega)]
 simp [payCs]
theorem x5q {H : Type} {enc : TypeId × Value → H} {w : World} {base : Nat} {spare : Nat → Bool} {held : Bool} {fuel : Nat} {cs : List Value} {x : DataW H × List MemPlace}
  (hf : DataW.trod enc Tryz.prog w base spare held fuel 74 cs = some x) (hcl : cs.length = 33) : ∃ y : WitT, cs = witCs y ∧ y.Ok ∧ y.sig.size ≤ maxLen := by
 obtain ⟨xs, m, _, _, hlen, hxs, hel⟩ := DataW.trod_struct Tryz.underlying74 hf
 have hxn : xs.length = 2 := hxs
 have e0 := hel 0 _ rfl
 have e1 := hel 1 _ rfl
 rw [List.getElem?_eq_getElem (by omega)] at e0 e1
 replace e0 : DataW.trod enc Tryz.prog w base spare held m 34 ((cs.drop 0).take (Tryz.prog.cellsOf 34)) = some xs[0] := e0
 rw [cellsHash] at e0
 replace e1 : DataW.trod enc Tryz.prog w base spare held m 9 ((cs.drop 32).take (Tryz.prog.cellsOf 9)) = some xs[1] := e1
 rw [cellsStr] at e1
 obtain ⟨a0, h0, l0⟩ := q3q e0 (by rw [List.length_take, List.length_drop]; omega)
 obtain ⟨a1, h1, _, w1⟩ := DataW.trod_string Tryz.underlying9 e1
 refine ⟨⟨a0, a1⟩, ?_, l0, w1⟩
 have h : cs = cs.drop 0 := rfl
 rw [h, q2x cs 0 32 32 rfl, q2x cs 32 1 33 rfl, h0, h1, List.drop_of_length_le (i := 33) (by omega)]
 simp [witCs]
theorem cellsIn : Tryz.prog.cellsOf 80 = 33 := by kernel_rfl
theorem cellsOut : Tryz.prog.cellsOf 84 = 65 := by kernel_rfl
theorem cellsCert : Tryz.prog.cellsOf 87 = 68 := by kernel_rfl
theorem cellsPay : Tryz.prog.cellsOf 89 = 33 := by kernel_rfl
theorem cellsWit : Tryz.prog.cellsOf 74 = 33 := by kernel_rfl
theorem cellsDeed : Tryz.prog.cellsOf 29 = 8 := by kernel_rfl
theorem cellsSlIn : Tryz.prog.cellsOf 22 = 1 := by kernel_rfl
theorem cellsSlOut : Tryz.prog.cellsOf 23 = 1 := by kernel_rfl
theorem cellsSlCert : Tryz.prog.cellsOf 25 = 1 := by kernel_rfl
theorem cellsSlPay : Tryz.prog.cellsOf 26 = 1 := by kernel_rfl
theorem cellsSlWit : Tryz.prog.cellsOf 27 = 1 := by kernel_rfl
theorem x8w {H : Type} {enc : TypeId × Value → H} {w : World} {base : Nat} {spare : Nat → Bool} {held : Bool} {fuel : Nat} {v : Value} {x : DataW H × List MemPlace} (hd : DataW.trod enc Tryz.prog w base spare held fuel 22 [v] = some x) :
  ∃ l : List InT, Sl w v 33 (l.map inCs) ∧ (∀ y ∈ l, y.Ok) ∧ l.length ≤ maxLen :=
 q5r inCs (fun y => y.Ok) Tryz.underlying22 cellsIn (by decide) (fun fuel cs x h hl => x9q h hl) hd
theorem x4n {H : Type} {enc : TypeId × Value → H} {w : World} {base : Nat} {spare : Nat → Bool} {held : Bool} {fuel : Nat} {v : Value} {x : DataW H × List MemPlace} (hd : DataW.trod enc Tryz.prog w base spare held fuel 23 [v] = some x) :
  ∃ l : List OutT, Sl w v 65 (l.map outCs) ∧ (∀ y ∈ l, y.Ok) ∧ l.length ≤ maxLen :=
 q5r outCs (fun y => y.Ok) Tryz.underlying23 cellsOut (by decide) (fun fuel cs x h hl => x6g h hl) hd
theorem x2q {H : Type} {enc : TypeId × Value → H} {w : World} {base : Nat} {spare : Nat → Bool} {held : Bool} {fuel : Nat} {v : Value} {x : DataW H × List MemPlace} (hd : DataW.trod enc Tryz.prog w base spare held fuel 25 [v] = some x) :
  ∃ l : List CertT, Sl w v 68 (l.map certCs) ∧ (∀ y ∈ l, y.Ok) ∧ l.length ≤ maxLen :=
 q5r certCs (fun y => y.Ok) Tryz.underlying25 cellsCert (by decide) (fun fuel cs x h hl => x4b h hl) hd
theorem x6k {H : Type} {enc : TypeId × Value → H} {w : World} {base : Nat} {spare : Nat → Bool} {held : Bool} {fuel : Nat} {v : Value} {x : DataW H × List MemPlace} (hd : DataW.trod enc Tryz.prog w base spare held fuel 26 [v] = some x) :
  ∃ l : List PayT, Sl w v 33 (l.map payCs) ∧ (∀ y ∈ l, y.Ok) ∧ l.length ≤ maxLen :=
 q5r payCs (fun y => y.Ok) Tryz.underlying26 cellsPay (by decide) (fun fuel cs x h hl => x4v h hl) hd
theorem x7z {H : Type} {enc : TypeId × Value → H} {w : World} {base : Nat} {spare : Nat → Bool} {held : Bool} {fuel : Nat} {v : Value} {x : DataW H × List MemPlace} (hd : DataW.trod enc Tryz.prog w base spare held fuel 27 [v] = some x) :
  ∃ l : List WitT, Sl w v 33 (l.map witCs) ∧ (∀ y ∈ l, y.Ok ∧ y.sig.size ≤ maxLen) ∧ l.length ≤ maxLen :=
 q5r witCs (fun y => y.Ok ∧ y.sig.size ≤ maxLen) Tryz.underlying27 cellsWit (by decide) (fun fuel cs x h hl => x5q h hl) hd
theorem q6r {cs : List Value} (hl : cs.length = 8) (k : Nat) (hk : k < 8) : (cs.drop k).take 1 = [cs[k]'(by omega)] := by
 rw [List.drop_eq_getElem_cons (by omega), List.take_succ_cons, List.take_zero]
theorem x2b {H : Type} {enc : TypeId × Value → H} {w : World} {base : Nat} {spare : Nat → Bool} {held : Bool} {fuel : Nat} {cs : List Value} {d : DataW H} {ps : List MemPlace}
  (hf : DataW.trod enc Tryz.prog w base spare held fuel 29 cs = some (d, ps)) (hcl : cs.length = 8) : ∃ x : Deed, DeedIs w (.agg cs.toArray) x ∧ (∀ y ∈ x.wits, y.sig.size ≤ maxLen) ∧ x.ins.length ≤ maxLen ∧ x.outs.length ≤ maxLen ∧ x.certs.length ≤ maxLen ∧ x.pays.length ≤ maxLen ∧ x.wits.length ≤ maxLen := by
 obtain ⟨xs, m, _, _, hlen, hxs, hel⟩ := DataW.trod_struct Tryz.underlying29 hf
 have hxn : xs.length = 8 := hxs
 have e0 := hel 0 _ rfl
 have e1 := hel 1 _ rfl
 have e2 := hel 2 _ rfl
 have e3 := hel 3 _ rfl
 have e4 := hel 4 _ rfl
 have e5 := hel 5 _ rfl
 have e6 := hel 6 _ rfl
 have e7 := hel 7 _ rfl
 rw [List.getElem?_eq_getElem (by omega)] at e0 e1 e2 e3 e4 e5 e6 e7
 replace e0 : DataW.trod enc Tryz.prog w base spare held m 22 ((cs.drop 0).take (Tryz.prog.cellsOf 22)) = some xs[0] := e0
 rw [cellsSlIn] at e0
 rw [q6r hcl 0 (by decide)] at e0
 obtain ⟨a0, s0, k0, n0⟩ := x8w e0
 replace e1 : DataW.trod enc Tryz.prog w base spare held m 23 ((cs.drop 1).take (Tryz.prog.cellsOf 23)) = some xs[1] := e1
 rw [cellsSlOut] at e1
 rw [q6r hcl 1 (by decide)] at e1
 obtain ⟨a1, s1, k1, n1⟩ := x4n e1
 replace e2 : DataW.trod enc Tryz.prog w base spare held m 24 ((cs.drop 2).take (Tryz.prog.cellsOf 24)) = some xs[2] := e2
 rw [cellsU64] at e2
 rw [q6r hcl 2 (by decide)] at e2
 obtain ⟨c2, h2, _, w2⟩ := DataW.trod_int Tryz.underlying24 e2
 obtain ⟨a2, rfl, l2⟩ := q5y w2
 simp only [List.cons.injEq, and_true] at h2
 replace e3 : DataW.trod enc Tryz.prog w base spare held m 24 ((cs.drop 3).take (Tryz.prog.cellsOf 24)) = some xs[3] := e3
 rw [cellsU64] at e3
 rw [q6r hcl 3 (by decide)] at e3
 obtain ⟨c3, h3, _, w3⟩ := DataW.trod_int Tryz.underlying24 e3
 obtain ⟨a3, rfl, l3⟩ := q5y w3
 simp only [List.cons.injEq, and_true] at h3
 replace e4 : DataW.trod enc Tryz.prog w base spare held m 24 ((cs.drop 4).take (Tryz.prog.cellsOf 24)) = some xs[4] := e4
 rw [cellsU64] at e4
 rw [q6r hcl 4 (by decide)] at e4
 obtain ⟨c4, h4, _, w4⟩ := DataW.trod_int Tryz.underlying24 e4
 obtain ⟨a4, rfl, l4⟩ := q5y w4
 simp only [List.cons.injEq, and_true] at h4
 replace e5 : DataW.trod enc Tryz.prog w base spare held m 25 ((cs.drop 5).take (Tryz.prog.cellsOf 25)) = some xs[5] := e5
 rw [cellsSlCert] at e5
 rw [q6r hcl 5 (by decide)] at e5
 obtain ⟨a5, s5, k5, n5⟩ := x2q e5
 replace e6 : DataW.trod enc Tryz.prog w base spare held m 26 ((cs.drop 6).take (Tryz.prog.cellsOf 26)) = some xs[6] := e6
 rw [cellsSlPay] at e6
 rw [q6r hcl 6 (by decide)] at e6
 obtain ⟨a6, s6, k6, n6⟩ := x6k e6
 replace e7 : DataW.trod enc Tryz.prog w base spare held m 27 ((cs.drop 7).take (Tryz.prog.cellsOf 27)) = some xs[7] := e7
 rw [cellsSlWit] at e7
 rw [q6r hcl 7 (by decide)] at e7
 obtain ⟨a7, s7, k7, n7⟩ := x7z e7
 refine ⟨⟨a0, a1, a2, a3, a4, a5, a6, a7⟩, ⟨_, _, _, _, _, ?_, s0, s1, s5, s6, s7, ⟨k0, k1, l2, l3, l4, k5, k6, fun x hx => (k7 x hx).1⟩⟩, fun y hy => (k7 y hy).2, n0, n1, n5, n6, n7⟩
 unfold deedV deedCs
 congr 2
 rw [← h2, ← h3, ← h4]
 apply List.ext_getElem
 ·simp [hcl]
 ·intro i h1 h2
  have hi : i < 8 := by omega
  have : i = 0 ∨ i = 1 ∨ i = 2 ∨ i = 3 ∨ i = 4 ∨ i = 5 ∨ i = 6 ∨ i = 7 := by omega
  rcases this with rfl | rfl | rfl | rfl | rfl | rfl | rfl | rfl <;> rfl
theorem j9d {H : Type} {enc : TypeId × Value → H} {w : World} {base : Nat} {spare : Nat → Bool} {held : Bool} {fuel : Nat} {cs : List Value} {x : DataW H × List MemPlace}
  (hf : DataW.trod enc Tryz.prog w base spare held fuel 29 cs = some x) (hcl : cs.length = 8) : ∃ d : Deed, DeedIs w (.agg cs.toArray) d ∧ d.Fit := by
 obtain ⟨x1, x2⟩ := x
 obtain ⟨d, h1, _, h2, h3, h4, h5, h6⟩ := x2b hf hcl
 exact ⟨d, h1, ⟨h2, h3, h4, h5, h6⟩⟩
theorem cellsSlDeed : Tryz.prog.cellsOf 42 = 1 := by kernel_rfl
theorem cellsBlk : Tryz.prog.cellsOf 51 = 137 := by kernel_rfl
theorem j9x {H : Type} {enc : TypeId × Value → H} {w : World} {base : Nat} {spare : Nat → Bool} {held : Bool} {fuel : Nat} {v : Value} {x : DataW H × List MemPlace} (hd : DataW.trod enc Tryz.prog w base spare held fuel 42 [v] = some x) :
  ∃ l : List Deed, DsIs w v l ∧ (∀ y ∈ l, y.Fit) ∧ l.length ≤ maxLen := by
 obtain ⟨vs, h1, h2, h3⟩ := q5r (α := List Value) id (fun cs => ∃ d : Deed, DeedIs w (.agg cs.toArray) d ∧ d.Fit) Tryz.underlying42 cellsDeed (by decide) (fun fuel cs x h hl => ⟨cs, rfl, j9d h hl⟩) hd
 rw [List.map_id] at h1
 obtain ⟨l, hl, hr⟩ := x4t vs.length (fun i (d : Deed) => ∀ cs, vs[i]? = some cs → DeedIs w (.agg cs.toArray) d ∧ d.Fit) (fun i hi => by
  obtain ⟨d, hd⟩ := h2 _ (List.getElem_mem hi)
  refine ⟨d, fun cs hcs => ?_⟩
  rw [List.getElem?_eq_getElem hi] at hcs
  cases hcs
  exact hd)
 refine ⟨l, ⟨vs, h1, hl.symm, fun i cs d hi hd => (hr i d hd cs hi).1⟩, fun d hd => ?_, by rw [hl]; exact h3⟩
 obtain ⟨i, hi⟩ := List.mem_iff_getElem?.1 hd
 have hlt : i < vs.length := by rw [← hl]; exact (List.getElem?_eq_some_iff.1 hi).1
 exact (hr i d hi _ (List.getElem?_eq_getElem hlt)).2
theorem x8t {H : Type} {enc : TypeId × Value → H} {w : World} {base : Nat} {spare : Nat → Bool} {held : Bool} {fuel : Nat} {cs : List Value} {x : DataW H × List MemPlace}
  (hf : DataW.trod enc Tryz.prog w base spare held fuel 49 cs = some x) (hcl : cs.length = 136) : ∃ x : Hd, cs = hdCs x ∧ x.Ok ∧ x.sig.size ≤ maxLen ∧ x.right.sig.size ≤ maxLen := by
 obtain ⟨xs, m, _, _, hlen, hxs, hel⟩ := DataW.trod_struct Tryz.underlying49 hf
 have hx9 : xs.length = 9 := hxs
 have e0 := hel 0 _ rfl
 have e1 := hel 1 _ rfl
 have e2 := hel 2 _ rfl
 have e3 := hel 3 _ rfl
 have e4 := hel 4 _ rfl
 have e5 := hel 5 _ rfl
 have e6 := hel 6 _ rfl
 have e7 := hel 7 _ rfl
 have e8 := hel 8 _ rfl
 rw [List.getElem?_eq_getElem (by omega)] at e0 e1 e2 e3 e4 e5 e6 e7 e8
 replace e0 : DataW.trod enc Tryz.prog w base spare held m 24 ((cs.drop 0).take (Tryz.prog.cellsOf 24)) = some xs[0] := e0
 replace e1 : DataW.trod enc Tryz.prog w base spare held m 24 ((cs.drop 1).take (Tryz.prog.cellsOf 24)) = some xs[1] := e1
 replace e2 : DataW.trod enc Tryz.prog w base spare held m 34 ((cs.drop 2).take (Tryz.prog.cellsOf 34)) = some xs[2] := e2
 replace e3 : DataW.trod enc Tryz.prog w base spare held m 34 ((cs.drop 34).take (Tryz.prog.cellsOf 34)) = some xs[3] := e3
 replace e4 : DataW.trod enc Tryz.prog w base spare held m 34 ((cs.drop 66).take (Tryz.prog.cellsOf 34)) = some xs[4] := e4
 replace e5 : DataW.trod enc Tryz.prog w base spare held m 24 ((cs.drop 98).take (Tryz.prog.cellsOf 24)) = some xs[5] := e5
 replace e6 : DataW.trod enc Tryz.prog w base spare held m 24 ((cs.drop 99).take (Tryz.prog.cellsOf 24)) = some xs[6] := e6
 replace e7 : DataW.trod enc Tryz.prog w base spare held m 47 ((cs.drop 100).take (Tryz.prog.cellsOf 47)) = some xs[7] := e7
 replace e8 : DataW.trod enc Tryz.prog w base spare held m 9 ((cs.drop 135).take (Tryz.prog.cellsOf 9)) = some xs[8] := e8
 rw [cellsHash] at e2 e3 e4
 rw [cellsU64] at e0 e1 e5 e6
 rw [cellsStr] at e8
 rw [cellsRt] at e7
 obtain ⟨n0, h0, _, w0⟩ := DataW.trod_int Tryz.underlying24 e0
 obtain ⟨n1, h1, _, w1⟩ := DataW.trod_int Tryz.underlying24 e1
 obtain ⟨p, h2, l2⟩ := q3q e2 (by rw [List.length_take, List.length_drop]; omega)
 obtain ⟨q, h3, l3⟩ := q3q e3 (by rw [List.length_take, List.length_drop]; omega)
 obtain ⟨b, h4, l4⟩ := q3q e4 (by rw [List.length_take, List.length_drop]; omega)
 obtain ⟨n5, h5, _, w5⟩ := DataW.trod_int Tryz.underlying24 e5
 obtain ⟨n6, h6, _, w6⟩ := DataW.trod_int Tryz.underlying24 e6
 obtain ⟨x, h7, ox, zx⟩ := x9j e7 (by rw [List.length_take, List.length_drop]; omega)
 obtain ⟨g, h8, _, w8⟩ := DataW.trod_string Tryz.underlying9 e8
 obtain ⟨m0, rfl, k0⟩ := q5y w0
 obtain ⟨m1, rfl, k1⟩ := q5y w1
 obtain ⟨m5, rfl, k5⟩ := q5y w5
 obtain ⟨m6, rfl, k6⟩ := q5y w6
 refine ⟨⟨m0, m1, p, q, b, m5, m6, x, g⟩, ?_, ⟨k0, k1, l2, l3, l4, k5, k6, ox⟩, w8, zx⟩
 have h : cs = cs.drop 0 := rfl
 rw [h, q2x cs 0 1 1 rfl, q2x cs 1 1 2 rfl, q2x cs 2 32 34 rfl, q2x cs 34 32 66 rfl, q2x cs 66 32 98 rfl, q2x cs 98 1 99 rfl, q2x cs 99 1 100 rfl, q2x cs 100 35 135 rfl, q2x cs 135 1 136 rfl, h0, h1, h2, h3, h4, h5, h6, h7, h8, List.drop_of_length_le (i := 136) (by omega)]
 simp [hdCs]
theorem j0t {H : Type} {enc : TypeId × Value → H} {w : World} {base b0 : Nat} {spare : Nat → Bool} {held : Bool} {r : Reach} {v : Value} {d : DataW H} {ps : List MemPlace}
  (hval : Value.okWide Tryz.prog w r b0 51 v) (hd : DataW.Trod enc Tryz.prog w base spare held 51 v d ps) : ∃ x : Blk, BlkIs w v x ∧ (∀ y ∈ x.deeds, y.Fit) ∧ x.deeds.length ≤ maxLen ∧ x.head.sig.size ≤ maxLen ∧ x.head.right.sig.size ≤ maxLen := by
 obtain ⟨ca, rfl, hsz, _⟩ : ∃ cs, v = .agg cs ∧ cs.size = Tryz.prog.cellsOf 51 ∧ Row.okWide Tryz.prog w r b0 51 cs := by
  simpa [Value.okWide, Tryz.underlying51] using hval
 obtain ⟨fuel, hf⟩ := hd
 rw [cellsBlk] at hsz
 have hcl : ca.toList.length = 137 := by simpa using hsz
 obtain ⟨cs, hcs⟩ : ∃ cs, cs = ca.toList := ⟨_, rfl⟩
 have hca : ca = cs.toArray := by rw [hcs]
 replace hf : DataW.trod enc Tryz.prog w base spare held fuel 51 cs = some (d, ps) := by rw [hcs]; exact hf
 rw [← hcs] at hcl
 rw [hca]
 clear hcs hca hsz hval
 obtain ⟨xs, m, _, _, hlen, hxs, hel⟩ := DataW.trod_struct Tryz.underlying51 hf
 have hxn : xs.length = 2 := hxs
 have e0 := hel 0 _ rfl
 have e1 := hel 1 _ rfl
 rw [List.getElem?_eq_getElem (by omega)] at e0 e1
 replace e0 : DataW.trod enc Tryz.prog w base spare held m 49 ((cs.drop 0).take (Tryz.prog.cellsOf 49)) = some xs[0] := e0
 rw [cellsHd] at e0
 replace e1 : DataW.trod enc Tryz.prog w base spare held m 42 ((cs.drop 136).take (Tryz.prog.cellsOf 42)) = some xs[1] := e1
 rw [cellsSlDeed] at e1
 obtain ⟨h, h0, ok, z1, z2⟩ := x8t e0 (by rw [List.length_take, List.length_drop]; omega)
 have hv1 : ∃ u, (cs.drop 136).take 1 = [u] := ⟨cs[136]'(by omega), by rw [List.drop_eq_getElem_cons (by omega), List.take_succ_cons, List.take_zero]⟩
 obtain ⟨u, hv1⟩ := hv1
 rw [hv1] at e1
 obtain ⟨l, D, hf, hn⟩ := j9x e1
 refine ⟨⟨h, l⟩, ⟨u, ?_, D, ok⟩, hf, hn, z1, z2⟩
 unfold blkV blkCs
 congr 2
 have h9 : cs = cs.drop 0 := rfl
 rw [h9, q2x cs 0 136 136 rfl, q2x cs 136 1 137 rfl, h0, hv1, List.drop_of_length_le (i := 137) (by omega), List.append_nil]
end Go.Proofs.YtbbfnpfkbbpjgaaGreat
