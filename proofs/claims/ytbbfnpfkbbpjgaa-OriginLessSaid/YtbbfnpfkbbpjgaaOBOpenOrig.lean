/- Arguments that are origins: what they hold, how large they may be. -/
import Derived.Test.YtbbfnpfkbbpjgaaOBOpenSl
import Derived.Test.YtbbfnpfkbbpjgaaOBOrigM
import Derived.SizedLaws
namespace Go.Proofs.Ytbbfnpfkbbpjgaa
open Go.ChangeShapes Go.WideShapes Go.RowKit
set_option linter.unusedVariables false
set_option linter.unusedSimpArgs false

set_option maxRecDepth 100000 in
theorem seat_cells {H : Type} {enc : TypeId × Value → H} {w : World} {base : Nat} {spare : Nat → Bool} {held : Bool} {fuel : Nat} {cs : List Value} {x : DataW H × List MemPlace}
    (hf : DataW.trod enc Try.prog w base spare held fuel 93 cs = some x) (hcl : cs.length = 67) : ∃ y : SeatT, cs = seatCs y ∧ y.Ok := by
  obtain ⟨xs, m, _, _, hlen, hxs, hel⟩ := DataW.trod_struct Try.underlying93 hf
  have hxn : xs.length = 5 := hxs
  have e0 := hel 0 _ rfl
  have e1 := hel 1 _ rfl
  have e2 := hel 2 _ rfl
  have e3 := hel 3 _ rfl
  have e4 := hel 4 _ rfl
  rw [List.getElem?_eq_getElem (by omega)] at e0 e1 e2 e3 e4
  replace e0 : DataW.trod enc Try.prog w base spare held m 27 ((cs.drop 0).take (Try.prog.cellsOf 27)) = some xs[0] := e0
  rw [cellsHash] at e0
  replace e1 : DataW.trod enc Try.prog w base spare held m 27 ((cs.drop 32).take (Try.prog.cellsOf 27)) = some xs[1] := e1
  rw [cellsHash] at e1
  replace e2 : DataW.trod enc Try.prog w base spare held m 23 ((cs.drop 64).take (Try.prog.cellsOf 23)) = some xs[2] := e2
  rw [cellsU64] at e2
  replace e3 : DataW.trod enc Try.prog w base spare held m 23 ((cs.drop 65).take (Try.prog.cellsOf 23)) = some xs[3] := e3
  rw [cellsU64] at e3
  replace e4 : DataW.trod enc Try.prog w base spare held m 23 ((cs.drop 66).take (Try.prog.cellsOf 23)) = some xs[4] := e4
  rw [cellsU64] at e4
  obtain ⟨a0, h0, l0⟩ := hash_cells e0 (by rw [List.length_take, List.length_drop]; omega)
  obtain ⟨a1, h1, l1⟩ := hash_cells e1 (by rw [List.length_take, List.length_drop]; omega)
  obtain ⟨c2, h2, _, w2⟩ := DataW.trod_int Try.underlying23 e2
  obtain ⟨a2, rfl, l2⟩ := u64_of w2
  obtain ⟨c3, h3, _, w3⟩ := DataW.trod_int Try.underlying23 e3
  obtain ⟨a3, rfl, l3⟩ := u64_of w3
  obtain ⟨c4, h4, _, w4⟩ := DataW.trod_int Try.underlying23 e4
  obtain ⟨a4, rfl, l4⟩ := u64_of w4
  refine ⟨⟨a0, a1, a2, a3, a4⟩, ?_, ⟨l0, l1, l2, l3, l4⟩⟩
  have h : cs = cs.drop 0 := rfl
  rw [h, cut_at cs 0 32 32 rfl, cut_at cs 32 32 64 rfl, cut_at cs 64 1 65 rfl, cut_at cs 65 1 66 rfl, cut_at cs 66 1 67 rfl, h0, h1, h2, h3, h4, List.drop_of_length_le (i := 67) (by omega)]
  simp [seatCs]
set_option maxRecDepth 100000 in
theorem trust_cells {H : Type} {enc : TypeId × Value → H} {w : World} {base : Nat} {spare : Nat → Bool} {held : Bool} {fuel : Nat} {cs : List Value} {x : DataW H × List MemPlace}
    (hf : DataW.trod enc Try.prog w base spare held fuel 97 cs = some x) (hcl : cs.length = 64) : ∃ y : TrustT, cs = trustCs y ∧ y.Ok := by
  obtain ⟨xs, m, _, _, hlen, hxs, hel⟩ := DataW.trod_struct Try.underlying97 hf
  have hxn : xs.length = 2 := hxs
  have e0 := hel 0 _ rfl
  have e1 := hel 1 _ rfl
  rw [List.getElem?_eq_getElem (by omega)] at e0 e1
  replace e0 : DataW.trod enc Try.prog w base spare held m 27 ((cs.drop 0).take (Try.prog.cellsOf 27)) = some xs[0] := e0
  rw [cellsHash] at e0
  replace e1 : DataW.trod enc Try.prog w base spare held m 27 ((cs.drop 32).take (Try.prog.cellsOf 27)) = some xs[1] := e1
  rw [cellsHash] at e1
  obtain ⟨a0, h0, l0⟩ := hash_cells e0 (by rw [List.length_take, List.length_drop]; omega)
  obtain ⟨a1, h1, l1⟩ := hash_cells e1 (by rw [List.length_take, List.length_drop]; omega)
  refine ⟨⟨a0, a1⟩, ?_, ⟨l0, l1⟩⟩
  have h : cs = cs.drop 0 := rfl
  rw [h, cut_at cs 0 32 32 rfl, cut_at cs 32 32 64 rfl, h0, h1, List.drop_of_length_le (i := 64) (by omega)]
  simp [trustCs]
theorem cellsSeat : Try.prog.cellsOf 93 = 67 := by kernel_rfl
theorem cellsTrust : Try.prog.cellsOf 97 = 64 := by kernel_rfl
theorem cellsOrigin : Try.prog.cellsOf 32 = 50 := by kernel_rfl
theorem cellsParams : Try.prog.cellsOf 25 = 8 := by kernel_rfl
theorem cellsSlSeat : Try.prog.cellsOf 29 = 1 := by kernel_rfl
theorem cellsSlTrust : Try.prog.cellsOf 30 = 1 := by kernel_rfl
theorem open_seats {H : Type} {enc : TypeId × Value → H} {w : World} {base : Nat} {spare : Nat → Bool} {held : Bool} {fuel : Nat} {v : Value} {x : DataW H × List MemPlace} (hd : DataW.trod enc Try.prog w base spare held fuel 29 [v] = some x) :
    ∃ l : List SeatT, Sl w v 67 (l.map seatCs) ∧ (∀ y ∈ l, y.Ok) ∧ l.length ≤ maxLen :=
  open_cells seatCs (fun y => y.Ok) Try.underlying29 cellsSeat (by decide) (fun fuel cs x h hl => seat_cells h hl) hd
theorem open_trusts {H : Type} {enc : TypeId × Value → H} {w : World} {base : Nat} {spare : Nat → Bool} {held : Bool} {fuel : Nat} {v : Value} {x : DataW H × List MemPlace} (hd : DataW.trod enc Try.prog w base spare held fuel 30 [v] = some x) :
    ∃ l : List TrustT, Sl w v 64 (l.map trustCs) ∧ (∀ y ∈ l, y.Ok) ∧ l.length ≤ maxLen :=
  open_cells trustCs (fun y => y.Ok) Try.underlying30 cellsTrust (by decide) (fun fuel cs x h hl => trust_cells h hl) hd
theorem one_cellN {cs : List Value} {N : Nat} (hl : cs.length = N) (k : Nat) (hk : k < N) : ∃ v, (cs.drop k).take 1 = [v] := ⟨cs[k]'(by omega), by rw [List.drop_eq_getElem_cons (by omega), List.take_succ_cons, List.take_zero]⟩
set_option maxRecDepth 100000 in
theorem params_cells {H : Type} {enc : TypeId × Value → H} {w : World} {base : Nat} {spare : Nat → Bool} {held : Bool} {fuel : Nat} {cs : List Value} {x : DataW H × List MemPlace}
    (hf : DataW.trod enc Try.prog w base spare held fuel 25 cs = some x) (hcl : cs.length = 8) : ∃ l : List Nat, cs = numCs l ∧ l.length = 8 ∧ ∀ y ∈ l, U64 y := by
  obtain ⟨xs, m, _, _, hlen, hxs, hel⟩ := DataW.trod_array Try.underlying25 hf
  rw [cellsU64] at hel
  have hcell : ∀ i, (h : i < cs.length) → ∃ n : Nat, cs[i] = .int .u64 (n : Int) ∧ U64 n := by
    intro i hi
    have h1 := hel i (by omega)
    have hx : i < xs.length := by omega
    rw [List.getElem?_eq_getElem hx] at h1
    obtain ⟨n, hn, _, hw⟩ := DataW.trod_int Try.underlying23 h1
    simp only [Nat.mul_one] at hn
    have h2 : ((cs.drop i).take 1)[0]? = some (.int .u64 n) := by rw [hn]; rfl
    have h3 : cs[i]? = some (.int .u64 n) := by
      rw [List.getElem?_take, if_pos (by omega), List.getElem?_drop, Nat.add_zero] at h2
      exact h2
    obtain ⟨k, rfl, hk⟩ := u64_of hw
    rw [List.getElem?_eq_getElem hi] at h3
    exact ⟨k, Option.some.inj h3, hk⟩
  refine ⟨cs.map (fun v => (RowKit.intOf v).toNat), ?_, by simpa using hcl, ?_⟩
  · apply List.ext_getElem
    · simp [numCs]
    · intro i h1 h2
      obtain ⟨n, hn, _⟩ := hcell i h1
      simp only [numCs, List.getElem_map, hn, RowKit.intOf]
      simp
  · intro y hy
    obtain ⟨v, hv, rfl⟩ := List.mem_map.1 hy
    obtain ⟨i, hi, rfl⟩ := List.getElem_of_mem hv
    obtain ⟨n, hn, hk⟩ := hcell i hi
    rw [hn]
    exact hk
theorem slice_sized {H : Type} {enc : TypeId × Value → H} {w : World} {base : Nat} {spare : Nat → Bool} {held : Bool} {fuel : Nat} {P : Program} {t e : TypeId} {v : Value} {x : DataW H × List MemPlace} (ht : P.underlying t = some (.slice e)) (hd : DataW.trod enc P w base spare held fuel t [v] = some x) {R : Nat} (hR : ∀ m ∈ x.1.weights P t, m ≤ R) {a : Option Addr} {n c : Nat} (hv : v = .slice a n c) : n * P.bytesOf e ≤ R := by
  rcases DataW.trod_slice ht hd with ⟨h1, h2⟩ | ⟨b, len, cap, elems, rest, m, _, h1, h2, _, _, _, hlen, _, _, _⟩
  · simp only [List.cons.injEq, and_true] at h1
    subst hv
    simp only [Value.slice.injEq] at h1
    rw [h1.2.1]
    omega
  · simp only [List.cons.injEq, and_true] at h1
    subst hv
    simp only [Value.slice.injEq] at h1
    obtain ⟨_, rfl, _⟩ := h1
    subst h2
    have h3 := hR ((elems.length + rest.length) * P.bytesOf e) (by simp [DataW.weights, ht])
    have h4 : elems.length * P.bytesOf e ≤ (elems.length + rest.length) * P.bytesOf e := Nat.mul_le_mul_right _ (by omega)
    rw [← hlen]
    omega
theorem struct_sized {H : Type} {P : Program} {t ty : TypeId} {fs : Array Field} (ht : P.underlying t = some (.struct fs)) {xs : List (DataW H × List MemPlace)} {R : Nat} (hR : ∀ m ∈ (DataW.agg (xs.map (·.1))).weights P t, m ≤ R) {i : Nat} (hi : (fs.toList.map (·.type))[i]? = some ty) {x : DataW H × List MemPlace} (hx : xs[i]? = some x) : ∀ m ∈ x.1.weights P ty, m ≤ R := by
  intro m hm
  refine hR m ?_
  have h1 : (xs.map (·.1))[i]? = some x.1 := by rw [List.getElem?_map, hx]; rfl
  have := DataW.weights_mem_each hi h1 m hm
  simpa [DataW.weights, ht] using this
theorem bytesOut : Try.prog.bytesOf 48 = 72 := by kernel_rfl
theorem bytesSeat : Try.prog.bytesOf 93 = 88 := by kernel_rfl
theorem bytesTrust : Try.prog.bytesOf 97 = 64 := by kernel_rfl
set_option maxRecDepth 100000 in
set_option maxHeartbeats 800000 in
theorem open_orig {H : Type} {enc : TypeId × Value → H} {w : World} {base b0 : Nat} {spare : Nat → Bool} {held : Bool} {r : Reach} {v : Value} {d : DataW H} {ps : List MemPlace}
    (hval : Value.okWide Try.prog w r b0 32 v) (hd : DataW.Trod enc Try.prog w base spare held 32 v d ps) : ∃ x : Orig, OrigIs w v x ∧ ∀ R, (∀ m ∈ d.weights Try.prog 32, m ≤ R) → x.coins.length * 72 ≤ R ∧ x.seats.length * 88 ≤ R ∧ x.trusts.length * 64 ≤ R := by
  obtain ⟨ca, rfl, hsz, _⟩ : ∃ cs, v = .agg cs ∧ cs.size = Try.prog.cellsOf 32 ∧ Row.okWide Try.prog w r b0 32 cs := by
    simpa [Value.okWide, Try.underlying32] using hval
  obtain ⟨fuel, hf⟩ := hd
  rw [cellsOrigin] at hsz
  have hcl : ca.toList.length = 50 := by simpa using hsz
  obtain ⟨cs, hcs⟩ : ∃ cs, cs = ca.toList := ⟨_, rfl⟩
  have hca : ca = cs.toArray := by rw [hcs]
  replace hf : DataW.trod enc Try.prog w base spare held fuel 32 cs = some (d, ps) := by rw [hcs]; exact hf
  rw [← hcs] at hcl
  rw [hca]
  clear hcs hca hsz hval
  obtain ⟨xs, m, _, hx, hlen, hxs, hel⟩ := DataW.trod_struct Try.underlying32 hf
  have hd1 : d = .agg (xs.map (·.1)) := congrArg Prod.fst hx
  have hxn : xs.length = 12 := hxs
  have e0 := hel 0 _ rfl
  have e1 := hel 1 _ rfl
  have e2 := hel 2 _ rfl
  have e3 := hel 3 _ rfl
  have e4 := hel 4 _ rfl
  have e5 := hel 5 _ rfl
  have e6 := hel 6 _ rfl
  have e7 := hel 7 _ rfl
  have e8 := hel 8 _ rfl
  have e9 := hel 9 _ rfl
  have e10 := hel 10 _ rfl
  have e11 := hel 11 _ rfl
  rw [List.getElem?_eq_getElem (by omega)] at e0 e1 e2 e3 e4 e5 e6 e7 e8 e9 e10 e11
  replace e0 : DataW.trod enc Try.prog w base spare held m 23 ((cs.drop 0).take (Try.prog.cellsOf 23)) = some xs[0] := e0
  rw [cellsU64] at e0
  obtain ⟨c0, h0, _, w0⟩ := DataW.trod_int Try.underlying23 e0
  obtain ⟨a0, rfl, l0⟩ := u64_of w0
  replace e1 : DataW.trod enc Try.prog w base spare held m 23 ((cs.drop 1).take (Try.prog.cellsOf 23)) = some xs[1] := e1
  rw [cellsU64] at e1
  obtain ⟨c1, h1, _, w1⟩ := DataW.trod_int Try.underlying23 e1
  obtain ⟨a1, rfl, l1⟩ := u64_of w1
  replace e2 : DataW.trod enc Try.prog w base spare held m 23 ((cs.drop 2).take (Try.prog.cellsOf 23)) = some xs[2] := e2
  rw [cellsU64] at e2
  obtain ⟨c2, h2, _, w2⟩ := DataW.trod_int Try.underlying23 e2
  obtain ⟨a2, rfl, l2⟩ := u64_of w2
  replace e3 : DataW.trod enc Try.prog w base spare held m 23 ((cs.drop 3).take (Try.prog.cellsOf 23)) = some xs[3] := e3
  rw [cellsU64] at e3
  obtain ⟨c3, h3, _, w3⟩ := DataW.trod_int Try.underlying23 e3
  obtain ⟨a3, rfl, l3⟩ := u64_of w3
  replace e4 : DataW.trod enc Try.prog w base spare held m 23 ((cs.drop 4).take (Try.prog.cellsOf 23)) = some xs[4] := e4
  rw [cellsU64] at e4
  obtain ⟨c4, h4, _, w4⟩ := DataW.trod_int Try.underlying23 e4
  obtain ⟨a4, rfl, l4⟩ := u64_of w4
  replace e5 : DataW.trod enc Try.prog w base spare held m 25 ((cs.drop 5).take (Try.prog.cellsOf 25)) = some xs[5] := e5
  rw [cellsParams] at e5
  obtain ⟨a5, h5, l5, k5⟩ := params_cells e5 (by rw [List.length_take, List.length_drop]; omega)
  replace e6 : DataW.trod enc Try.prog w base spare held m 23 ((cs.drop 13).take (Try.prog.cellsOf 23)) = some xs[6] := e6
  rw [cellsU64] at e6
  obtain ⟨c6, h6, _, w6⟩ := DataW.trod_int Try.underlying23 e6
  obtain ⟨a6, rfl, l6⟩ := u64_of w6
  replace e7 : DataW.trod enc Try.prog w base spare held m 23 ((cs.drop 14).take (Try.prog.cellsOf 23)) = some xs[7] := e7
  rw [cellsU64] at e7
  obtain ⟨c7, h7, _, w7⟩ := DataW.trod_int Try.underlying23 e7
  obtain ⟨a7, rfl, l7⟩ := u64_of w7
  replace e8 : DataW.trod enc Try.prog w base spare held m 27 ((cs.drop 15).take (Try.prog.cellsOf 27)) = some xs[8] := e8
  rw [cellsHash] at e8
  obtain ⟨a8, h8, l8⟩ := hash_cells e8 (by rw [List.length_take, List.length_drop]; omega)
  replace e9 : DataW.trod enc Try.prog w base spare held m 28 ((cs.drop 47).take (Try.prog.cellsOf 28)) = some xs[9] := e9
  rw [cellsSlOut] at e9
  obtain ⟨v9, hv9⟩ := one_cellN hcl 47 (by decide)
  rw [hv9] at e9
  obtain ⟨a9, s9, k9, n9⟩ := open_outs e9
  replace e10 : DataW.trod enc Try.prog w base spare held m 29 ((cs.drop 48).take (Try.prog.cellsOf 29)) = some xs[10] := e10
  rw [cellsSlSeat] at e10
  obtain ⟨v10, hv10⟩ := one_cellN hcl 48 (by decide)
  rw [hv10] at e10
  obtain ⟨a10, s10, k10, n10⟩ := open_seats e10
  replace e11 : DataW.trod enc Try.prog w base spare held m 30 ((cs.drop 49).take (Try.prog.cellsOf 30)) = some xs[11] := e11
  rw [cellsSlTrust] at e11
  obtain ⟨v11, hv11⟩ := one_cellN hcl 49 (by decide)
  rw [hv11] at e11
  obtain ⟨a11, s11, k11, n11⟩ := open_trusts e11
  refine ⟨⟨a0, a1, a2, a3, a4, a5, a6, a7, a8, a9, a10, a11⟩, ⟨v9, v10, v11, ?_, s9, s10, s11, ⟨l0, l1, l2, l3, l4, l5, k5, l6, l7, l8, k9, k10, k11⟩⟩, fun R hR => ?_⟩
  · unfold origV
    congr 2
    have h : cs = cs.drop 0 := rfl
    rw [h, cut_at cs 0 1 1 rfl, cut_at cs 1 1 2 rfl, cut_at cs 2 1 3 rfl, cut_at cs 3 1 4 rfl, cut_at cs 4 1 5 rfl, cut_at cs 5 8 13 rfl, cut_at cs 13 1 14 rfl, cut_at cs 14 1 15 rfl, cut_at cs 15 32 47 rfl, cut_at cs 47 1 48 rfl, cut_at cs 48 1 49 rfl, cut_at cs 49 1 50 rfl, h0, h1, h2, h3, h4, h5, h6, h7, h8, hv9, hv10, hv11, List.drop_of_length_le (i := 50) (by omega)]
    simp [origCs, origNs, numCs]
  · rw [hd1] at hR
    have z9 := struct_sized Try.underlying32 hR (i := 9) (ty := 28) rfl (List.getElem?_eq_getElem (by omega))
    have z10 := struct_sized Try.underlying32 hR (i := 10) (ty := 29) rfl (List.getElem?_eq_getElem (by omega))
    have z11 := struct_sized Try.underlying32 hR (i := 11) (ty := 30) rfl (List.getElem?_eq_getElem (by omega))
    obtain ⟨b9, c9, q9, _⟩ := s9.shape
    obtain ⟨b10, c10, q10, _⟩ := s10.shape
    obtain ⟨b11, c11, q11, _⟩ := s11.shape
    have y9 := slice_sized Try.underlying28 e9 z9 q9
    have y10 := slice_sized Try.underlying29 e10 z10 q10
    have y11 := slice_sized Try.underlying30 e11 z11 q11
    rw [bytesOut] at y9
    rw [bytesSeat] at y10
    rw [bytesTrust] at y11
    exact ⟨y9, y10, y11⟩
end Go.Proofs.Ytbbfnpfkbbpjgaa
