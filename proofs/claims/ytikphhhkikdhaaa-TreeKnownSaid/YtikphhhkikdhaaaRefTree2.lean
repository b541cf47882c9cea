/- The reference's Root (mintageref04). -/
import Derived.Test.YtikphhhkikdhaaaRefTree
namespace Go.Proofs.Ytikphhhkikdhaaa
open Go.RowKit Go.Lib
set_option linter.unusedVariables false
set_option linter.unusedSimpArgs false

/-- What stands in rows handed back. -/
theorem rows_at {w : World} {B B' : Nat} {v : Value} {vs : List Value} {rs : List (List H32)} (h1 : OutOwn w B v vs) (h2 : RowsOwn w B' vs rs) (hne : 0 < rs.length) :
    ∃ g cap, v = .slice (some ⟨g, 0, none⟩) rs.length cap ∧ rs.length ≤ cap ∧ ∀ i r, rs[i]? = some r → ∃ a c, w.cell? ⟨g, i, none⟩ = some (.slice a r.length c) ∧ Hs w (.slice a r.length c) r := by
  have hlen := h2.1
  rcases h1.2 with ⟨_, h0⟩ | ⟨g, cap, cur, hv, _, hg, hn, hm, hs, ht⟩
  · omega
  · refine ⟨g, cap, by rw [← hlen]; exact hv, by omega, fun i r hi => ?_⟩
    have hil : i < vs.length := by rw [hlen]; exact (List.getElem?_eq_some_iff.1 hi).1
    obtain ⟨u, hu⟩ : ∃ u, vs[i]? = some u := ⟨_, List.getElem?_eq_getElem hil⟩
    obtain ⟨ho, h32⟩ := h2.2 i u r hu hi
    obtain ⟨a, c, rfl⟩ := owns_shape ho
    refine ⟨a, c, ?_, ho.hs h32⟩
    rw [Nat.mul_one] at ht
    have hgi : cur[i]? = some (.slice a r.length c) := by
      rw [← ht, List.getElem?_take_of_lt hil] at hu
      simpa using hu
    simp [World.cell?, hg, hgi]
theorem rowsOf_last : ∀ (f : Nat) (r : List H32), r.length ≤ f → ∃ A r', rowsOf f r = A ++ [r'] ∧ r'.getD 0 [] = topF f r ∧ (0 < r.length → 0 < r'.length) ∧ A.length ≤ f
  | 0, r, h => ⟨[], r, rfl, rfl, fun h => h, by simp⟩
  | f + 1, r, h => by
    by_cases h1 : r.length ≤ 1
    · exact ⟨[], r, by rw [rowsOf, if_pos h1]; rfl, by rw [topF, if_pos h1], fun h => h, by simp⟩
    · have hl := upL_length r
      obtain ⟨A, r', h2, h3, h4, h5⟩ := rowsOf_last f (upL r) (by omega)
      exact ⟨r :: A, r', by rw [rowsOf, if_neg h1, h2]; rfl, by rw [topF, if_neg h1]; exact h3, fun _ => h4 (by omega), by simp; omega⟩
theorem rowsL_last (l : List H32) : ∃ A r', rowsL l = A ++ [r'] ∧ r'.getD 0 [] = topL l ∧ 0 < r'.length ∧ A.length ≤ l.length := by
  unfold rowsL topL
  by_cases h : l = []
  · rw [if_pos h, if_pos h]
    exact ⟨[], [noneL], rfl, rfl, by simp, by simp⟩
  · rw [if_neg h, if_neg h]
    obtain ⟨A, r', h2, h3, h4, h5⟩ := rowsOf_last l.length (l.map leafL) (by simp)
    exact ⟨A, r', h2, h3, h4 (by rw [List.length_map]; exact List.length_pos_iff.2 h), h5⟩

set_option maxRecDepth 100000 in
set_option maxHeartbeats 800000 in
theorem refRoot_any (v : Value) (l : List H32) (w : World) (hv0 : Hs w v l) (hm : l.length ≤ 300000) :
    Calls Try.prog 29 #[v] w fun e w' => e = .returned (hv (treeL l)) ∧ Below w.heap.size w w' := by
  obtain ⟨a, cap, rfl, hc1, hc2, hc0⟩ := hv0.shape
  obtain ⟨R, hR⟩ : ∃ R, R = treeL l := ⟨_, rfl⟩
  obtain ⟨T, hT⟩ : ∃ T, T = topL l := ⟨_, rfl⟩
  have HRR : Hid (∀ w, Calls Try.prog 55 #[.int .i64 l.length, hv T] w fun e w' => e = .returned (hv R) ∧ Below w.heap.size w w') := fun w => by rw [hR, hT]; exact refOver_any l.length _ (by omega) (topL_length l) w
  have HL : Hid (R.length = 32) := by rw [hR]; exact rootL_length _ _
  have HTL : Hid (T.length = 32) := by rw [hT]; exact topL_length _
  obtain ⟨A, r', hA, htop, hr0, hAl⟩ := rowsL_last l
  have z := HashAt.zero w
  have b := below1 w (.cells (bvs zero32).toArray 23)
  have hv1 := hv0.later b
  rw [← hT] at htop
  have HTOP := hide htop
  rw [← hR]
  clear hR hT htop
  go_enter Try.func29, Try.ntmps29
  go_wp2_with fail
  show Calls _ _ _ (w.alloc (.cells (bvs zero32).toArray 23)) _
  generalize w.alloc (.cells (bvs zero32).toArray 23) = W at *
  refine (refRows_any _ l _ hv1 hm).mono ?_
  rintro _ w1 ⟨v1, vs, rfl, hout, hrows, hb1⟩
  rw [hA] at hrows
  obtain ⟨g, c1, rfl, hgc, hcell⟩ := rows_at hout hrows (by simp)
  obtain ⟨a2, c2, hc, hh⟩ := hcell A.length r' (by simp)
  obtain ⟨bb, k0, cap', hve, _, _, _, hcs0⟩ := hh.block hr0
  simp only [Value.slice.injEq] at hve
  obtain ⟨rfl, -, rfl⟩ := hve
  have c0 := hcs0 0 hr0
  rw [Nat.zero_mul, Nat.add_zero, HTOP.out] at c0
  obtain ⟨m, hm'⟩ : ∃ m, m = A.length := ⟨_, rfl⟩
  obtain ⟨q, hq⟩ : ∃ q, q = r'.length := ⟨_, rfl⟩
  have en : (A ++ [r']).length = m + 1 := by rw [List.length_append, hm']; rfl
  rw [en] at hgc ⊢
  rw [← hm'] at hc hAl
  rw [← hq] at hc hr0
  have z1 := z.later hb1
  have b1 := later b hb1
  have ei : ((m : Int) + 1 - 1) = m := by omega
  clear hb1 z b hv0 hv1 hout hrows hcell hh hcs0 en hm' hq hA HTOP
  go_wp2_with (first | (refine wpl_load_elem rfl _ rfl rfl c0 HTL.out ?_))
  refine (HRR.out _).mono ?_
  rintro _ wc1 ⟨rfl, hc1⟩
  replace z1 := z1.later hc1
  replace b1 := later b1 hc1
  clear hc1
  have zr := z1.row R HL.out
  have br := below_setRow (b := w.heap.size) b1 (Nat.le_refl _) (bvs R).toArray
  go_wp2_with (refine wpl_store_hash rfl _ _ rfl rfl rfl HL.out z1 ?_)
  exact bodyPost_ret (v := hv R) (ret_hash rfl _ _ rfl zr) rfl ⟨rfl, br⟩
end Go.Proofs.Ytikphhhkikdhaaa
