/- The reference's Prove (mintageref04). -/
import Derived.Test.YtikphhhkikdhaaaRefTree2
namespace Go.Proofs.Ytikphhhkikdhaaa
open Go.RowKit Go.Lib
set_option linter.unusedVariables false
set_option linter.unusedSimpArgs false

/-- Where rows stand. -/
def RowsAt (w : World) (g : Nat) (rs : List (List H32)) : Prop := ∀ i r, rs[i]? = some r → ∃ a c, w.cell? ⟨g, i, none⟩ = some (.slice a r.length c) ∧ Hs w (.slice a r.length c) r
theorem RowsAt.later {w w' : World} {g : Nat} {rs : List (List H32)} (h : RowsAt w g rs) (hb : Below w.heap.size w w') : RowsAt w' g rs := fun i r hi => by
  obtain ⟨a, c, h1, h2⟩ := h i r hi
  exact ⟨a, c, (hb.cell (p := ⟨g, i, none⟩) (World.block_lt_of_cell? w _ h1)).trans h1, h2.later hb⟩
theorem rowsOf_pos (f : Nat) (r : List H32) : 0 < (rowsOf f r).length := by
  cases f with
  | zero => simp [rowsOf]
  | succ f => unfold rowsOf; split <;> simp
theorem rowsOf_two (f : Nat) (r : List H32) (h : 1 < r.length) (hf : r.length ≤ f) : 1 < (rowsOf f r).length := by
  have := rowsOf_pos (f - 1) (upL r)
  rw [rowsOf_up f r h hf, List.length_cons]
  omega

set_option maxRecDepth 100000 in
set_option maxHeartbeats 800000 in
theorem refProve_out (v : Value) (l : List H32) (i : Int) (w : World) (hv0 : Hs w v l) (hi : i < 0 ∨ (l.length : Int) ≤ i) :
    Calls Try.prog 37 #[v, .int .i64 i] w fun e w' => e = .returned (.tuple #[.slice none 0 0, .int .i64 5]) ∧ Below w.heap.size w w' := by
  obtain ⟨a, cap, rfl, hc1, hc2, hc0⟩ := hv0.shape
  have b := Below.refl w.heap.size w
  rcases hi with hi | hi
  · go_enter Try.func37, Try.ntmps37
    go_wp2_with fail
    go_ret2
    exact ⟨rfl, b⟩
  · go_enter Try.func37, Try.ntmps37
    by_cases h0 : i < 0
    · go_wp2_with fail
      go_ret2
      exact ⟨rfl, b⟩
    · go_wp2_with fail
      go_ret2
      exact ⟨rfl, b⟩
set_option maxRecDepth 100000 in
set_option maxHeartbeats 1600000 in
theorem refProve_in (v : Value) (l : List H32) (i : Nat) (w : World) (hv0 : Hs w v l) (hm : l.length ≤ 300000) (hi : i < l.length) :
    Calls Try.prog 37 #[v, .int .i64 i] w (HsOk w (provL l i)) := by
  obtain ⟨a, cap, rfl, hc1, hc2, hc0⟩ := hv0.shape
  obtain ⟨P, hP⟩ : ∃ P, P = provL l i := ⟨_, rfl⟩
  obtain ⟨rs, hrs⟩ : ∃ rs, rs = rowsL l := ⟨_, rfl⟩
  have HR : Hid (∀ w, Hs w (.slice a l.length cap) l → Calls Try.prog 54 #[.slice a l.length cap] w (RowsVal w rs)) := fun w h => by rw [hrs]; exact refRows_any _ l w h hm
  have HP0 : Hid ([] ++ proofF l.length (l.map leafL) i = P) := by rw [hP]; rfl
  have HRS : Hid (rs = [] ++ rowsOf l.length (l.map leafL)) := by
    rw [hrs]
    unfold Hid rowsL
    rw [if_neg (by intro h; rw [h] at hi; simp at hi)]
    rfl
  obtain ⟨A0, r0, hA0, _, _, hAl⟩ := rowsL_last l
  have hr1 : 0 < rs.length := by rw [hrs, hA0]; simp
  have hr2 : rs.length ≤ 300001 := by rw [hrs, hA0]; simp; omega
  obtain ⟨M, hM⟩ : ∃ M, M = rs.length := ⟨_, rfl⟩
  have HM := hide hM
  have hlm : (l.map leafL).length = l.length := List.length_map ..
  have h32 : ∀ h ∈ l.map leafL, h.length = 32 := fun h hh => by obtain ⟨y, _, rfl⟩ := List.mem_map.1 hh; exact leafL_length y
  rw [← hP]
  rw [← hM] at hr1 hr2
  clear hP hrs hA0 hAl hM
  have hq0 : (l.map leafL).length ≤ l.length := by rw [hlm]; exact Nat.le_refl _
  have hq1 : i < (l.map leafL).length := by rw [hlm]; exact hi
  generalize l.map leafL = L0 at *
  clear hlm
  generalize l.length = n at *
  have b0 := Below.refl w.heap.size w
  have hi1 : (i : Int) < n := by omega
  go_enter Try.func37, Try.ntmps37
  go_wp2_with fail
  refine (HR.out _ hv0).mono ?_
  rintro _ w1 ⟨v1, vs, rfl, hout, hrows, b⟩
  obtain ⟨g, c1, rfl, hgc, hat⟩ := rows_at hout hrows (by rw [← HM.out]; exact hr1)
  have hat : RowsAt w1 g rs := hat
  clear hout hrows hv0 b0 HR
  rw [← HM.out] at hgc ⊢
  go_wp2_with fail
  go_loopw [1, 7, 8] (fun i out k wr => ∃ (m j f : Nat) (vo : Value) (acc A : List (List UInt8)) (As : List (List H32)) (r : List H32), i = .int .i64 m ∧ out = vo ∧ k = .int .i64 j ∧ OwnHs wr w1.heap.size vo acc ∧ (∀ h ∈ acc, h.length = 32) ∧ (∀ h ∈ r, h.length = 32) ∧ Hid (rs = As ++ rowsOf f r) ∧ As.length = j ∧ r.length ≤ f ∧ f ≤ n ∧ m < r.length ∧ acc.length ≤ j ∧ Hid (acc ++ proofF f r m = P) ∧ Below w1.heap.size w1 wr) (fun _ _ k _ => M - (RowKit.intOf k).toNat)
  case atStart => exact ⟨i, 0, n, _, [], [], [], L0, rfl, rfl, rfl, World.ownsRow_nil _ _ _ _, by simp, h32, HRS, rfl, hq0, Nat.le_refl _, hq1, by simp, HP0, Below.refl _ _⟩
  case round =>
    obtain ⟨m, j, f, vo, acc, _, As, r, rfl, hvo, rfl, ho, ha32, hr32, HRS, hAj, hrf, hfn, hmr, haj, HP, hbq⟩ := hrel
    have hvo' := hvo.symm
    clear hvo
    subst hvo'
    have htot : M = j + (rowsOf f r).length := by rw [HM.out, HRS.out, List.length_append, hAj]
    by_cases hj : j + 1 < M
    · have hr1' : 1 < r.length := by
        by_cases h1 : 1 < r.length
        · exact h1
        · rw [rowsOf_one f r (by omega)] at htot; simp at htot; omega
      have hup := rowsOf_up f r hr1' hrf
      have hget : rs[j]? = some r := by rw [HRS.out, hup, List.getElem?_append_right (by omega), hAj, Nat.sub_self]; rfl
      have HRS2 : Hid (rs = (As ++ [r]) ++ rowsOf (f - 1) (upL r)) := by unfold Hid; rw [HRS.out, hup, List.append_assoc]; rfl
      obtain ⟨a2, c2, hc, hh⟩ := hat.later hbq j r hget
      have hpf := proofF_up f r m hr1' hrf
      have hul := upL_length r
      have hj1 : (j : Int) < (M : Int) - 1 := by omega
      have hpf2 : acc ++ ((if oth m < r.length then [r.getD (oth m) []] else []) ++ proofF (f - 1) (upL r) (m / 2)) = P := by rw [← hpf]; exact HP.out
      have hu32 := upL_32 r hr32
      have hAj2 : (As ++ [r]).length = j + 1 := by simp [hAj]
      have hum : m / 2 < (upL r).length := by rw [hul]; omega
      have huf : (upL r).length ≤ f - 1 := by rw [hul]; omega
      have hf1 : f - 1 ≤ n := by omega
      obtain ⟨bb, k0, cap', hve, hrc, hrm, _, hcs0⟩ := hh.block (by omega)
      simp only [Value.slice.injEq] at hve
      obtain ⟨rfl, -, rfl⟩ := hve
      obtain ⟨R, hR⟩ : ∃ R, R = r.length := ⟨_, rfl⟩
      have HR := hide hR
      have harl : acc.length ≤ 300001 := by omega
      clear htot hup hget HRS HP hpf hul hh
      obtain ⟨q5, hq5⟩ : ∃ q5, q5 = acc.length := ⟨_, rfl⟩
      have HQ5 := hide hq5
      clear hq5
      by_cases hodd : m % 2 = 1
      · obtain ⟨q, rfl⟩ : ∃ q, m = q + 1 := ⟨m - 1, by omega⟩
        have ho' : oth (q + 1) = q := by unfold oth; rw [if_neg (by omega)]; rfl
        rw [ho', if_pos (by omega), ← List.append_assoc] at hpf2
        have HPF := hide hpf2
        have hbe : (((q : Int) + 1) % 2 == 1) = true := beq_iff_eq.2 (by omega)
        clear ho'
        have c0 := hcs0 q (by omega)
        have l0 : (r.getD q []).length = 32 := by rw [List.getD_eq_getElem?_getD, List.getElem?_eq_getElem (by omega)]; exact hr32 _ (List.getElem_mem _)
        have L0 := hide l0
        rw [← hR] at hmr hrc hc
        clear hcs0 hR l0 hpf2
        generalize r.getD q [] = x at *
        have h32x : ∀ h ∈ acc ++ [x], h.length = 32 := fun h hh => by rcases List.mem_append.1 hh with h1 | h1; exact ha32 h h1; simp at h1; subst h1; exact L0.out
        have hax : (acc ++ [x]).length ≤ j + 1 := by simp; omega
        go_wp2_with (first | (refine wpl_load_elem rfl _ rfl rfl c0 L0.out ?_) | (refine wpl_hashes rfl 1 _ rfl [x] rfl (by simp only [List.map_toArray, List.map_cons, List.map_nil]; rfl) (by intro h hh; simp at hh; subst hh; exact L0.out) (by decide) (by decide) ?_; intro w4 hs4 hb4 hz4; replace ho := ho.later hb4; replace hbq := later hbq hb4; clear hb4 hz4) | (refine wpl_append_hash (v := vo) rfl _ _ rfl rfl ho rfl hs4 q5 HQ5.out.symm (by omega) hbq.size ?_; intro a5 c5 w5 ho5 ht5 _))
        have hb5 := hbq.trans (ht5.below hbq.size (fun x hx => (World.ownsRow.lt ho x hx).1))
        clear ho hs4 hbq ht5 c0
        go_roundw
        case rel => exact ⟨(q + 1) / 2, j + 1, f - 1, _, acc ++ [x], [], As ++ [r], upL r, by simp, rfl, by simp, ho5, h32x, hu32, HRS2, hAj2, huf, hf1, hum, hax, HPF, hb5⟩
        case measure => simp [RowKit.intOf]; omega
      · have hbe : ((m : Int) % 2 == 1) = false := beq_eq_false_iff_ne.2 (by omega)
        have ho' : oth m = m + 1 := by unfold oth; rw [if_pos (by omega)]
        rw [ho'] at hpf2
        clear ho'
        by_cases hlt : m + 1 < r.length
        · rw [if_pos hlt, ← List.append_assoc] at hpf2
          have HPF := hide hpf2
          rw [← hR] at hlt
          have c0 := hcs0 (m + 1) (by omega)
          have l0 : (r.getD (m + 1) []).length = 32 := by rw [List.getD_eq_getElem?_getD, List.getElem?_eq_getElem (by omega)]; exact hr32 _ (List.getElem_mem _)
          have L0 := hide l0
          rw [← hR] at hmr hrc hc
          clear hcs0 hR l0 hpf2
          generalize r.getD (m + 1) [] = x at *
          have h32x : ∀ h ∈ acc ++ [x], h.length = 32 := fun h hh => by rcases List.mem_append.1 hh with h1 | h1; exact ha32 h h1; simp at h1; subst h1; exact L0.out
          have hax : (acc ++ [x]).length ≤ j + 1 := by simp; omega
          go_wp2_with (first | (refine wpl_load_elem rfl _ rfl rfl c0 L0.out ?_) | (refine wpl_hashes rfl 1 _ rfl [x] rfl (by simp only [List.map_toArray, List.map_cons, List.map_nil]; rfl) (by intro h hh; simp at hh; subst hh; exact L0.out) (by decide) (by decide) ?_; intro w4 hs4 hb4 hz4; replace ho := ho.later hb4; replace hbq := later hbq hb4; clear hb4 hz4) | (refine wpl_append_hash (v := vo) rfl _ _ rfl rfl ho rfl hs4 q5 HQ5.out.symm (by omega) hbq.size ?_; intro a5 c5 w5 ho5 ht5 _))
          have hb5 := hbq.trans (ht5.below hbq.size (fun x hx => (World.ownsRow.lt ho x hx).1))
          clear ho hs4 hbq ht5 c0
          go_roundw
          case rel => exact ⟨(m) / 2, j + 1, f - 1, _, acc ++ [x], [], As ++ [r], upL r, by simp, rfl, by simp, ho5, h32x, hu32, HRS2, hAj2, huf, hf1, hum, hax, HPF, hb5⟩
          case measure => simp [RowKit.intOf]; omega
        · rw [if_neg hlt, List.nil_append] at hpf2
          have HPF := hide hpf2
          rw [← hR] at hlt hmr hrc hc
          have haj1 : acc.length ≤ j + 1 := by omega
          clear hcs0 hR hpf2
          go_wp2_with fail
          go_roundw
          case rel => exact ⟨m / 2, j + 1, f - 1, _, acc, [], As ++ [r], upL r, by simp, rfl, by simp, ho, ha32, hu32, HRS2, hAj2, huf, hf1, hum, haj1, HPF, hbq⟩
          case measure => simp [RowKit.intOf]; omega
    · have hone : r.length ≤ 1 := by
        by_cases h1 : 1 < r.length
        · have := rowsOf_two f r h1 hrf; omega
        · omega
      have hacc : acc = P := by rw [← HP.out, proofF_one f r m hone, List.append_nil]
      have hres : Hs wr vo P := by rw [← hacc]; exact OwnHs.hs ho ha32
      have hj1 : ¬ ((j : Int) < (M : Int) - 1) := by omega
      have b2 := later b hbq
      clear ho HP HRS htot hacc
      go_wp2_with fail
      go_ret2
      exact ⟨_, rfl, hres, b2⟩
end Go.Proofs.Ytikphhhkikdhaaa
