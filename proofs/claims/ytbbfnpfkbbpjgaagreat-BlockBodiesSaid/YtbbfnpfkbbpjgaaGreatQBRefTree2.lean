/- The reference's Root (mintageref04). -/
import Derived.Test.YtbbfnpfkbbpjgaaGreatQBRefTree
import Derived.Test.YtbbfnpfkbbpjgaaGreatQBBlk3
import Derived.Test.YtbbfnpfkbbpjgaaGreatQBDeedP
import Derived.Test.YtbbfnpfkbbpjgaaGreatQBDeedMR
namespace Go.Proofs.YtbbfnpfkbbpjgaaGreat
open Go.RowKit Go.Lib
set_option linter.unusedVariables false
set_option linter.unusedSimpArgs false
set_option maxRecDepth 100000
set_option maxHeartbeats 4000000
/-- What stands in rows handed back. -/
theorem z0i {w : World} {B B' : Nat} {v : Value} {vs : List Value} {rs : List (List H32)} (h1 : OutOwn w B v vs) (h2 : RowsOwn w B' vs rs) (hne : 0 < rs.length) :
    ∃ g cap, v = .slice (some ⟨g, 0, none⟩) rs.length cap ∧ rs.length ≤ cap ∧ ∀ i r, rs[i]? = some r → ∃ a c, w.cell? ⟨g, i, none⟩ = some (.slice a r.length c) ∧ Hs w (.slice a r.length c) r := by
  have hlen := h2.1
  rcases h1.2 with ⟨_, h0⟩ | ⟨g, cap, cur, hv, _, hg, hn, hm, hs, ht⟩
  · omega
  · refine ⟨g, cap, by rw [← hlen]; exact hv, by omega, fun i r hi => ?_⟩
    have hil : i < vs.length := by rw [hlen]; exact (List.getElem?_eq_some_iff.1 hi).1
    obtain ⟨u, hu⟩ : ∃ u, vs[i]? = some u := ⟨_, List.getElem?_eq_getElem hil⟩
    obtain ⟨ho, h32⟩ := h2.2 i u r hu hi
    obtain ⟨a, c, rfl⟩ := q6w ho
    refine ⟨a, c, ?_, ho.hs h32⟩
    rw [Nat.mul_one] at ht
    have hgi : cur[i]? = some (.slice a r.length c) := by
      rw [← ht, List.getElem?_take_of_lt hil] at hu
      simpa using hu
    simp [World.cell?, hg, hgi]
theorem j2k : ∀ (f : Nat) (r : List H32), r.length ≤ f → ∃ A r', rowsOf f r = A ++ [r'] ∧ r'.getD 0 [] = topF f r ∧ (0 < r.length → 0 < r'.length) ∧ A.length ≤ f
  | 0, r, h => ⟨[], r, rfl, rfl, fun h => h, by simp⟩
  | f + 1, r, h => by
    by_cases h1 : r.length ≤ 1
    · exact ⟨[], r, by rw [rowsOf, if_pos h1]; rfl, by rw [topF, if_pos h1], fun h => h, by simp⟩
    · have hl := q4o r
      obtain ⟨A, r', h2, h3, h4, h5⟩ := j2k f (upL r) (by omega)
      exact ⟨r :: A, r', by rw [rowsOf, if_neg h1, h2]; rfl, by rw [topF, if_neg h1]; exact h3, fun _ => h4 (by omega), by simp; omega⟩
theorem x1e (l : List H32) : ∃ A r', rowsL l = A ++ [r'] ∧ r'.getD 0 [] = topL l ∧ 0 < r'.length ∧ A.length ≤ l.length := by
  unfold rowsL topL
  by_cases h : l = []
  · rw [if_pos h, if_pos h]
    exact ⟨[], [noneL], rfl, rfl, by simp, by simp⟩
  · rw [if_neg h, if_neg h]
    obtain ⟨A, r', h2, h3, h4, h5⟩ := j2k l.length (l.map leafL) (by simp)
    exact ⟨A, r', h2, h3, h4 (by rw [List.length_map]; exact List.length_pos_iff.2 h), h5⟩
theorem j7t (v : Value) (l : List H32) (w : World) (hv0 : Hs w v l) (hm : l.length ≤ 300000) :
    Calls Tryz.prog 65 #[v] w fun e w' => e = .returned (hv (treeL l)) ∧ Below w.heap.size w w' := by
  obtain ⟨a, cap, rfl, hc1, hc2, hc0⟩ := hv0.shape
  obtain ⟨R, hR⟩ : ∃ R, R = treeL l := ⟨_, rfl⟩
  obtain ⟨T, hT⟩ : ∃ T, T = topL l := ⟨_, rfl⟩
  have HRR : Hid (∀ w, Calls Tryz.prog 137 #[.int .i64 l.length, hv T] w fun e w' => e = .returned (hv R) ∧ Below w.heap.size w w') := fun w => by rw [hR, hT]; exact j8k l.length _ (by omega) (q7d l) w
  have HL : Hid (R.length = 32) := by rw [hR]; exact q4l _ _
  have HTL : Hid (T.length = 32) := by rw [hT]; exact q7d _
  obtain ⟨A, r', hA, htop, hr0, hAl⟩ := x1e l
  have z := HashAt.zero w
  have b := below1 w (.cells (bvs zero32).toArray 34)
  have hv1 := hv0.later b
  rw [← hT] at htop
  have HTOP := hide htop
  rw [← hR]
  clear hR hT htop
  go_enter Tryz.func65, Tryz.ntmps65
  go_wp2_with fail
  show Calls _ _ _ (w.alloc (.cells (bvs zero32).toArray 34)) _
  generalize w.alloc (.cells (bvs zero32).toArray 34) = W at *
  refine (j7k _ l _ hv1 hm).mono ?_
  rintro _ w1 ⟨v1, vs, rfl, hout, hrows, hb1⟩
  rw [hA] at hrows
  obtain ⟨g, c1, rfl, hgc, hcell⟩ := z0i hout hrows (by simp)
  obtain ⟨a2, c2, hc, hh⟩ := hcell A.length r' (by simp)
  obtain ⟨bb, k0, cap', hve, _, _, _, hcs0⟩ := hh.block hr0
  simp only [Value.slice.injEq] at hve
  obtain ⟨rfl, -, rfl⟩ := hve
  have c0 := hcs0 0 hr0
  rw [Nat.zero_mul, Nat.add_zero, HTOP.out] at c0
  obtain ⟨m, hm'⟩ : ∃ m, m = A.length := ⟨_, rfl⟩
  obtain ⟨q, hq⟩ : ∃ q, q = r'.length := ⟨_, rfl⟩
  have en : (A ++ [r']).length = m + 1 := by rw [List.length_append, hm']; rfl
  rw [en] at hgc ⊢
  rw [← hm'] at hc hAl
  rw [← hq] at hc hr0
  have z1 := z.later hb1
  have b1 := later b hb1
  have ei : ((m : Int) + 1 - 1) = m := by omega
  clear hb1 z b hv0 hv1 hout hrows hcell hh hcs0 en hm' hq hA HTOP
  go_wp2_with (first | (refine q0j rfl _ rfl rfl c0 HTL.out ?_))
  refine (HRR.out _).mono ?_
  rintro _ wc1 ⟨rfl, hc1⟩
  replace z1 := z1.later hc1
  replace b1 := later b1 hc1
  clear hc1
  have zr := z1.row R HL.out
  have br := q0s (b := w.heap.size) b1 (Nat.le_refl _) (bvs R).toArray
  go_wp2_with (refine q0x rfl _ _ rfl rfl rfl HL.out z1 ?_)
  exact bodyPost_ret (v := hv R) (q3f rfl _ _ rfl zr) rfl ⟨rfl, br⟩
end Go.Proofs.YtbbfnpfkbbpjgaaGreat
/- The reference of layer 15: Size, Fulls, Body. -/
namespace Go.Proofs.YtbbfnpfkbbpjgaaGreat
open Go.RowKit Go.Lib
set_option linter.unusedVariables false
set_option linter.unusedSimpArgs false
set_option maxRecDepth 100000
set_option maxHeartbeats 4000000
theorem x7v {l : List Deed} {k : Nat} {d : Deed} (h : l[k]? = some d) : sizB (l.take (k + 1)) = sizB (l.take k) + (fullL d).length := by
  obtain ⟨hk, rfl⟩ := List.getElem?_eq_some_iff.1 h
  unfold sizB
  rw [List.take_succ_eq_append_getElem hk, List.map_append, List.sum_append]
  simp
theorem x6u (l : List Deed) (k : Nat) : sizB (l.take k) ≤ sizB l := by
  unfold sizB
  conv => rhs; rw [← List.take_append_drop k l, List.map_append, List.sum_append]
  omega
theorem x5x {l : List Deed} (h : l.all mayD = true) {k : Nat} {d : Deed} (hd : l[k]? = some d) : mayD d = true := List.all_eq_true.1 h d (List.mem_of_getElem? hd)
theorem x4n (v : Value) (l : List Deed) (w : World) (h : DsIs w v l) (hn : l.length ≤ 1000) (hm : l.all mayD = true) :
    Calls Tryz.prog 64 #[v] w fun e w' => e = .returned (.int .i64 ((sizB l : Nat) : Int)) ∧ Below w.heap.size w w' := by
  have hok := h.ok
  have hsm := q9b l hok hm
  have HOKS := hide hok
  have HALL := hide hm
  have HNX := hide (fun k d (h : l[k]? = some d) => x7v h)
  have HPT := hide (x6u l)
  obtain ⟨a1, c1, rfl⟩ := h.shape
  have hz40 : sizB l ≤ 14400000 := by omega
  obtain ⟨n, hn'⟩ : ∃ n, n = l.length := ⟨_, rfl⟩
  have HN := hide hn'
  rw [← hn'] at h hn ⊢
  clear hn' hok hsm hm
  have b := Below.refl w.heap.size w
  go_enter Tryz.func64, Tryz.ntmps64
  go_wp2_with fail
  go_loopw [3, 4] (fun q i wr => ∃ k : Nat, i = .int .i64 k ∧ k ≤ n ∧ q = .int .i64 (((sizB (l.take k) : Nat)) : Int) ∧ Below w.heap.size w wr) (fun _ i _ => n - (RowKit.intOf i).toNat)
  case atStart => exact ⟨0, rfl, by omega, by simp [sizB], b⟩
  clear b
  obtain ⟨k, rfl, hk, rfl, b⟩ := hrel
  by_cases hlt : k < n
  case pos =>
    obtain ⟨d, hd⟩ : ∃ d, l[k]? = some d := ⟨_, List.getElem?_eq_getElem (by rw [← HN.out]; exact hlt)⟩
    obtain ⟨bb, k0, c', he, _, hcs⟩ := (h.later b).block (by rw [← HN.out]; omega)
    rw [← HN.out] at he
    simp only [Value.slice.injEq] at he
    obtain ⟨rfl, -, rfl⟩ := he
    obtain ⟨v1, v2, v3, v4, v5, d1, hD, o1, o2, o3, o4, o5⟩ := hcs k d hd
    have hfw := q7g (HOKS.out d (List.mem_of_getElem? hd)) (x5x HALL.out hd)
    have HRB := hide (fun (w' : World) (hb : Below wr.heap.size wr w') => q9u _ d w' (hD.later hb) hfw)
    have HX := hide (HNX.out k d hd)
    have hp := HPT.out (k + 1)
    have hp0 := HX.out
    rw [hp0] at hp
    have k2 := Below.refl wr.heap.size wr
    obtain ⟨sF, hsF⟩ : ∃ u : ByteArray, u = ⟨(fullL d).toArray⟩ := ⟨_, rfl⟩
    have hFZ : sF.size = (fullL d).length := by rw [hsF]; show (fullL d).toArray.size = _; rw [List.size_toArray]
    rw [← hsF] at HRB
    rw [← hFZ] at HX hp
    generalize sizB (l.take k) = S at *
    clear hcs hd hD hfw hp0 hsF hFZ
    have z1 : S + sF.size ≤ 14400000 := by omega
    generalize d.fee = f at *
    generalize d.frm = s at *
    generalize d.til = t at *
    go_wp2_with (first | (with_reducible refine w10g ?_; refine q3k rfl _ rfl rfl d1 ?_) | (go_at_call 15; refine (HRB.out _ k2).mono ?_; rintro _ _ ⟨rfl, hc⟩; (try replace b := later b hc); clear hc))
    go_roundw
    case rel => exact ⟨k + 1, by simp, by omega, by rw [HX.out]; simp, b⟩
    case measure => simp [RowKit.intOf]; omega
  obtain rfl : n = k := by omega
  have HT : Hid (l.take n = l) := List.take_of_length_le (by rw [← HN.out]; exact Nat.le_refl _)
  rw [HT.out]
  clear hlt hk
  go_wp2_with fail
  go_ret
  exact ⟨rfl, b⟩
theorem x0s (v : Value) (l : List Deed) (w : World) (h : DsIs w v l) (hn : l.length ≤ 1000) (hm : l.all mayD = true) :
    Calls Tryz.prog 43 #[v] w fun e w' => (∃ fv, e = .returned fv ∧ Hs w' fv (fulsB l)) ∧ Below w.heap.size w w' := by
  have hok := h.ok
  have HOKS := hide hok
  have HALL := hide hm
  obtain ⟨a1, c1, rfl⟩ := h.shape
  obtain ⟨n, hn'⟩ : ∃ n, n = l.length := ⟨_, rfl⟩
  have HN := hide hn'
  rw [← hn'] at h hn ⊢
  clear hn' hok hm
  have b := Below.refl w.heap.size w
  have qB := Nat.le_refl w.heap.size
  have U1 := OwnR.nil w w.heap.size 34 32
  go_enter Tryz.func43, Tryz.ntmps43
  go_wp2_with fail
  go_loopw [3, 4] (fun fv i wr => ∃ k : Nat, i = .int .i64 k ∧ k ≤ n ∧ OwnR wr w.heap.size 34 32 fv ((l.take k).map fuC) [] ∧ Below w.heap.size w wr ∧ w.heap.size ≤ wr.heap.size) (fun _ i _ => n - (RowKit.intOf i).toNat)
  case atStart => exact ⟨0, rfl, by omega, by simpa using U1, b, qB⟩
  clear b U1 qB
  obtain ⟨k, rfl, hk, U1, b, qB⟩ := hrel
  by_cases hlt : k < n
  case pos =>
    obtain ⟨d, hd⟩ : ∃ d, l[k]? = some d := ⟨_, List.getElem?_eq_getElem (by rw [← HN.out]; exact hlt)⟩
    obtain ⟨bb, k0, c', he, _, hcs⟩ := (h.later b).block (by rw [← HN.out]; omega)
    rw [← HN.out] at he
    simp only [Value.slice.injEq] at he
    obtain ⟨rfl, -, rfl⟩ := he
    obtain ⟨v1, v2, v3, v4, v5, d1, hD, o1, o2, o3, o4, o5⟩ := hcs k d hd
    have hfw := q7g (HOKS.out d (List.mem_of_getElem? hd)) (x5x HALL.out hd)
    have HRF : Hid (∀ (w' : World) (hb : Below wr.heap.size wr w'), Calls Tryz.prog 17 #[deedV v1 v2 v3 v4 v5 d.fee d.frm d.til] w' fun e w'' => e = .returned (hv (fulB d)) ∧ Below w'.heap.size w' w'') := fun w' hb => j5j _ d w' (hD.later hb) hfw
    have HUL : Hid (((l.take k).map fuC).length = k) := by rw [List.length_map, List.length_take]; exact Nat.min_eq_left (by rw [← HN.out]; omega)
    have HUX := hide (map_take fuC hd)
    have e2 : fuC d = bvs (fulB d) := rfl
    rw [e2] at HUX
    have HL : Hid ((fulB d).length = 32) := q9a d
    obtain ⟨aU, cU, rfl⟩ := U1.shape
    rw [HUL.out] at U1 ⊢
    have k2 := Below.refl wr.heap.size wr
    clear hcs hd hD hfw e2
    generalize fulB d = R at *
    generalize d.fee = f at *
    generalize d.frm = s at *
    generalize d.til = t at *
    go_wp2_with (first | (with_reducible refine w10g ?_; refine q3k rfl _ rfl rfl d1 ?_) | (go_at_call 17; refine (HRF.out _ k2).mono ?_; rintro _ _ ⟨rfl, hb⟩; replace U1 := U1.later hb; replace b := later b hb; replace qB := Nat.le_trans qB hb.size; clear hb) | ((with_reducible refine w8g ?_); refine q3n rfl hashElem (by decide) _ rfl (v := hv R) (el := bvs R) rfl (by simp [hv, Value.cells]) (by rw [q0e]; exact HL.out) (fun u hu => List.all_eq_true.1 (q1v R) u hu) ?_; intro _ g9 _ O9 hb; replace U1 := U1.later hb; replace b := later b hb; replace qB := Nat.le_trans qB hb.size; clear hb) | ((with_reducible refine w14g ?_); refine q1e rfl _ _ hashElem rfl rfl U1 rfl O9.sl (Els.one (by rw [q0e]; exact HL.out) (fun u hu => List.all_eq_true.1 (q1v R) u hu)) (k + 1) (by rw [HUL.out]; rfl) (by omega) (by omega) qB ?_; intro a8 c8 w8 U2 ht hbk; replace b := b.trans (ht.below (B := w.heap.size) b.size (fun y hy => U1.ge y hy)); replace qB := Nat.le_trans qB ht.size; clear hbk ht U1 O9))
    go_roundw
    case rel => exact ⟨k + 1, by simp, by omega, by rw [HUX.out]; exact U2, b, qB⟩
    case measure => simp [RowKit.intOf]; omega
  obtain rfl : n = k := by omega
  have HT : Hid (l.take n = l) := List.take_of_length_le (by rw [← HN.out]; exact Nat.le_refl _)
  rw [HT.out] at U1
  clear hlt hk
  go_wp2_with fail
  go_ret
  exact ⟨⟨_, rfl, x9i U1.sl⟩, b⟩
end Go.Proofs.YtbbfnpfkbbpjgaaGreat
