/- The reference's Prove (mintageref04). -/
import Derived.Test.YtbbfnpfkbbpjgaaGreatQDRefTree
import Derived.Test.YtbbfnpfkbbpjgaaGreatQDMCells
import Derived.Test.YtbbfnpfkbbpjgaaGreatQDBlkX
import Derived.Test.YtbbfnpfkbbpjgaaGreatQDBkR4
import Derived.Test.YtbbfnpfkbbpjgaaGreatQDBkR1
namespace Go.Proofs.YtbbfnpfkbbpjgaaGreat
open Go.RowKit Go.Lib
set_option linter.unusedVariables false
set_option linter.unusedSimpArgs false
set_option maxRecDepth 100000
set_option maxHeartbeats 4000000
/-- Where rows stand. -/
def RowsAt (w : World) (g : Nat) (rs : List (List H32)) : Prop := ∀ i r, rs[i]? = some r → ∃ a c, w.cell? ⟨g, i, none⟩ = some (.slice a r.length c) ∧ Hs w (.slice a r.length c) r
theorem RowsAt.later {w w' : World} {g : Nat} {rs : List (List H32)} (h : RowsAt w g rs) (hb : Below w.heap.size w w') : RowsAt w' g rs := fun i r hi => by
 obtain ⟨a, c, h1, h2⟩ := h i r hi
 exact ⟨a, c, (hb.cell (p := ⟨g, i, none⟩) (World.block_lt_of_cell? w _ h1)).trans h1, h2.later hb⟩
theorem x1v (f : Nat) (r : List H32) : 0 < (rowsOf f r).length := by
 cases f with
 | zero => simp [rowsOf]
 | succ f => unfold rowsOf; split <;> simp
theorem x1l (f : Nat) (r : List H32) (h : 1 < r.length) (hf : r.length ≤ f) : 1 < (rowsOf f r).length := by
 have := x1v (f - 1) (upL r)
 rw [j3p f r h hf, List.length_cons]
 omega
theorem j7x (v : Value) (l : List H32) (i : Int) (w : World) (hv0 : Hs w v l) (hi : i < 0 ∨ (l.length : Int) ≤ i) :
  Calls Tryz.prog 44 #[v, .int .i64 i] w fun e w' => e = .returned (.tuple #[.slice none 0 0, .int .i64 5]) ∧ Below w.heap.size w w' := by
 obtain ⟨a, cap, rfl, hc1, hc2, hc0⟩ := hv0.shape
 have b := Below.refl w.heap.size w
 rcases hi with hi | hi
 ·go_enter Tryz.func44, Tryz.ntmps44
  go_wp2_with fail
  go_ret2
  exact ⟨rfl, b⟩
 ·go_enter Tryz.func44, Tryz.ntmps44
  by_cases h0 : i < 0
  ·go_wp2_with fail
   go_ret2
   exact ⟨rfl, b⟩
  ·go_wp2_with fail
   go_ret2
   exact ⟨rfl, b⟩
theorem j9f (v : Value) (l : List H32) (i : Nat) (w : World) (hv0 : Hs w v l) (hm : l.length ≤ 300000) (hi : i < l.length) :
    Calls Tryz.prog 44 #[v, .int .i64 i] w (HsOk w (provL l i)) := by
  obtain ⟨a, cap, rfl, hc1, hc2, hc0⟩ := hv0.shape
  obtain ⟨P, hP⟩ : ∃ P, P = provL l i := ⟨_, rfl⟩
  obtain ⟨rs, hrs⟩ : ∃ rs, rs = rowsL l := ⟨_, rfl⟩
  have HR : Hid (∀ w, Hs w (.slice a l.length cap) l → Calls Tryz.prog 92 #[.slice a l.length cap] w (RowsVal w rs)) := fun w h => by rw [hrs]; exact j2y _ l w h hm
  have HP0 : Hid ([] ++ proofF l.length (l.map leafL) i = P) := by rw [hP]; rfl
  have HRS : Hid (rs = [] ++ rowsOf l.length (l.map leafL)) := by
    rw [hrs]
    unfold Hid rowsL
    rw [if_neg (by intro h; rw [h] at hi; simp at hi)]
    rfl
  obtain ⟨A0, r0, hA0, _, _, hAl⟩ := j4u l
  have hr1 : 0 < rs.length := by rw [hrs, hA0]; simp
  have hr2 : rs.length ≤ 300001 := by rw [hrs, hA0]; simp; omega
  obtain ⟨M, hM⟩ : ∃ M, M = rs.length := ⟨_, rfl⟩
  have HM := hide hM
  have hlm : (l.map leafL).length = l.length := List.length_map ..
  have h32 : ∀ h ∈ l.map leafL, h.length = 32 := fun h hh => by obtain ⟨y, _, rfl⟩ := List.mem_map.1 hh; exact q1u y
  rw [← hP]
  rw [← hM] at hr1 hr2
  clear hP hrs hA0 hAl hM
  have hq0 : (l.map leafL).length ≤ l.length := by rw [hlm]; exact Nat.le_refl _
  have hq1 : i < (l.map leafL).length := by rw [hlm]; exact hi
  generalize l.map leafL = L0 at *
  clear hlm
  generalize l.length = n at *
  have b0 := Below.refl w.heap.size w
  have hi1 : (i : Int) < n := by omega
  go_enter Tryz.func44, Tryz.ntmps44
  go_wp2_with fail
  refine (HR.out _ hv0).mono ?_
  rintro _ w1 ⟨v1, vs, rfl, hout, hrows, b⟩
  obtain ⟨g, c1, rfl, hgc, hat⟩ := x7m hout hrows (by rw [← HM.out]; exact hr1)
  have hat : RowsAt w1 g rs := hat
  clear hout hrows hv0 b0 HR
  rw [← HM.out] at hgc ⊢
  go_wp2_with fail
  go_loopw [1, 7, 8] (fun i out k wr => ∃ (m j f : Nat) (vo : Value) (acc A : List (List UInt8)) (As : List (List H32)) (r : List H32), i = .int .i64 m ∧ out = vo ∧ k = .int .i64 j ∧ OwnHs wr w1.heap.size vo acc ∧ (∀ h ∈ acc, h.length = 32) ∧ (∀ h ∈ r, h.length = 32) ∧ Hid (rs = As ++ rowsOf f r) ∧ As.length = j ∧ r.length ≤ f ∧ f ≤ n ∧ m < r.length ∧ acc.length ≤ j ∧ Hid (acc ++ proofF f r m = P) ∧ Below w1.heap.size w1 wr) (fun _ _ k _ => M - (RowKit.intOf k).toNat)
  case atStart => exact ⟨i, 0, n, _, [], [], [], L0, rfl, rfl, rfl, World.ownsRow_nil _ _ _ _, by simp, h32, HRS, rfl, hq0, Nat.le_refl _, hq1, by simp, HP0, Below.refl _ _⟩
  case round =>
    obtain ⟨m, j, f, vo, acc, _, As, r, rfl, hvo, rfl, ho, ha32, hr32, HRS, hAj, hrf, hfn, hmr, haj, HP, hbq⟩ := hrel
    have hvo' := hvo.symm
    clear hvo
    subst hvo'
    have htot : M = j + (rowsOf f r).length := by rw [HM.out, HRS.out, List.length_append, hAj]
    by_cases hj : j + 1 < M
    · have hr1' : 1 < r.length := by
        by_cases h1 : 1 < r.length
        · exact h1
        · rw [j4s f r (by omega)] at htot; simp at htot; omega
      have hup := j3p f r hr1' hrf
      have hget : rs[j]? = some r := by rw [HRS.out, hup, List.getElem?_append_right (by omega), hAj, Nat.sub_self]; rfl
      have HRS2 : Hid (rs = (As ++ [r]) ++ rowsOf (f - 1) (upL r)) := by unfold Hid; rw [HRS.out, hup, List.append_assoc]; rfl
      obtain ⟨a2, c2, hc, hh⟩ := hat.later hbq j r hget
      have hpf := j3e f r m hr1' hrf
      have hul := q3l r
      have hj1 : (j : Int) < (M : Int) - 1 := by omega
      have hpf2 : acc ++ ((if oth m < r.length then [r.getD (oth m) []] else []) ++ proofF (f - 1) (upL r) (m / 2)) = P := by rw [← hpf]; exact HP.out
      have hu32 := j7s r hr32
      have hAj2 : (As ++ [r]).length = j + 1 := by simp [hAj]
      have hum : m / 2 < (upL r).length := by rw [hul]; omega
      have huf : (upL r).length ≤ f - 1 := by rw [hul]; omega
      have hf1 : f - 1 ≤ n := by omega
      obtain ⟨bb, k0, cap', hve, hrc, hrm, _, hcs0⟩ := hh.block (by omega)
      simp only [Value.slice.injEq] at hve
      obtain ⟨rfl, -, rfl⟩ := hve
      obtain ⟨R, hR⟩ : ∃ R, R = r.length := ⟨_, rfl⟩
      have HR := hide hR
      have harl : acc.length ≤ 300001 := by omega
      clear htot hup hget HRS HP hpf hul hh
      obtain ⟨q5, hq5⟩ : ∃ q5, q5 = acc.length := ⟨_, rfl⟩
      have HQ5 := hide hq5
      clear hq5
      by_cases hodd : m % 2 = 1
      · obtain ⟨q, rfl⟩ : ∃ q, m = q + 1 := ⟨m - 1, by omega⟩
        have ho' : oth (q + 1) = q := by unfold oth; rw [if_neg (by omega)]; rfl
        rw [ho', if_pos (by omega), ← List.append_assoc] at hpf2
        have HPF := hide hpf2
        have hbe : (((q : Int) + 1) % 2 == 1) = true := beq_iff_eq.2 (by omega)
        clear ho'
        have c0 := hcs0 q (by omega)
        have l0 : (r.getD q []).length = 32 := by rw [List.getD_eq_getElem?_getD, List.getElem?_eq_getElem (by omega)]; exact hr32 _ (List.getElem_mem _)
        have L0 := hide l0
        rw [← hR] at hmr hrc hc
        clear hcs0 hR l0 hpf2
        generalize r.getD q [] = x at *
        have h32x : ∀ h ∈ acc ++ [x], h.length = 32 := fun h hh => by rcases List.mem_append.1 hh with h1 | h1; exact ha32 h h1; simp at h1; subst h1; exact L0.out
        have hax : (acc ++ [x]).length ≤ j + 1 := by simp; omega
        go_wp2_with (first | (refine q0g rfl _ rfl rfl c0 L0.out ?_) | (refine q4w rfl 1 _ rfl [x] rfl (by simp only [List.map_toArray, List.map_cons, List.map_nil]; rfl) (by intro h hh; simp at hh; subst hh; exact L0.out) (by decide) (by decide) ?_; intro w4 hs4 hb4 hz4; replace ho := ho.later hb4; replace hbq := later hbq hb4; clear hb4 hz4) | (refine q3i (v := vo) rfl _ _ rfl rfl ho rfl hs4 q5 HQ5.out.symm (by omega) hbq.size ?_; intro a5 c5 w5 ho5 ht5 _))
        have hb5 := hbq.trans (ht5.below hbq.size (fun x hx => (World.ownsRow.lt ho x hx).1))
        clear ho hs4 hbq ht5 c0
        go_roundw
        case rel => exact ⟨(q + 1) / 2, j + 1, f - 1, _, acc ++ [x], [], As ++ [r], upL r, by simp, rfl, by simp, ho5, h32x, hu32, HRS2, hAj2, huf, hf1, hum, hax, HPF, hb5⟩
        case measure => simp [RowKit.intOf]; omega
      · have hbe : ((m : Int) % 2 == 1) = false := beq_eq_false_iff_ne.2 (by omega)
        have ho' : oth m = m + 1 := by unfold oth; rw [if_pos (by omega)]
        rw [ho'] at hpf2
        clear ho'
        by_cases hlt : m + 1 < r.length
        · rw [if_pos hlt, ← List.append_assoc] at hpf2
          have HPF := hide hpf2
          rw [← hR] at hlt
          have c0 := hcs0 (m + 1) (by omega)
          have l0 : (r.getD (m + 1) []).length = 32 := by rw [List.getD_eq_getElem?_getD, List.getElem?_eq_getElem (by omega)]; exact hr32 _ (List.getElem_mem _)
          have L0 := hide l0
          rw [← hR] at hmr hrc hc
          clear hcs0 hR l0 hpf2
          generalize r.getD (m + 1) [] = x at *
          have h32x : ∀ h ∈ acc ++ [x], h.length = 32 := fun h hh => by rcases List.mem_append.1 hh with h1 | h1; exact ha32 h h1; simp at h1; subst h1; exact L0.out
          have hax : (acc ++ [x]).length ≤ j + 1 := by simp; omega
          go_wp2_with (first | (refine q0g rfl _ rfl rfl c0 L0.out ?_) | (refine q4w rfl 1 _ rfl [x] rfl (by simp only [List.map_toArray, List.map_cons, List.map_nil]; rfl) (by intro h hh; simp at hh; subst hh; exact L0.out) (by decide) (by decide) ?_; intro w4 hs4 hb4 hz4; replace ho := ho.later hb4; replace hbq := later hbq hb4; clear hb4 hz4) | (refine q3i (v := vo) rfl _ _ rfl rfl ho rfl hs4 q5 HQ5.out.symm (by omega) hbq.size ?_; intro a5 c5 w5 ho5 ht5 _))
          have hb5 := hbq.trans (ht5.below hbq.size (fun x hx => (World.ownsRow.lt ho x hx).1))
          clear ho hs4 hbq ht5 c0
          go_roundw
          case rel => exact ⟨(m) / 2, j + 1, f - 1, _, acc ++ [x], [], As ++ [r], upL r, by simp, rfl, by simp, ho5, h32x, hu32, HRS2, hAj2, huf, hf1, hum, hax, HPF, hb5⟩
          case measure => simp [RowKit.intOf]; omega
        · rw [if_neg hlt, List.nil_append] at hpf2
          have HPF := hide hpf2
          rw [← hR] at hlt hmr hrc hc
          have haj1 : acc.length ≤ j + 1 := by omega
          clear hcs0 hR hpf2
          go_wp2_with fail
          go_roundw
          case rel => exact ⟨m / 2, j + 1, f - 1, _, acc, [], As ++ [r], upL r, by simp, rfl, by simp, ho, ha32, hu32, HRS2, hAj2, huf, hf1, hum, haj1, HPF, hbq⟩
          case measure => simp [RowKit.intOf]; omega
    · have hone : r.length ≤ 1 := by
        by_cases h1 : 1 < r.length
        · have := x1l f r h1 hrf; omega
        · omega
      have hacc : acc = P := by rw [← HP.out, j0z f r m hone, List.append_nil]
      have hres : Hs wr vo P := by rw [← hacc]; exact OwnHs.hs ho ha32
      have hj1 : ¬ ((j : Int) < (M : Int) - 1) := by omega
      have b2 := later b hbq
      clear ho HP HRS htot hacc
      go_wp2_with fail
      go_ret2
      exact ⟨_, rfl, hres, b2⟩
theorem j1i (v1 v2 : Value) (l : List (List UInt8)) (w : World) (h1 : Hs w v1 l) (h2 : Hs w v2 l) :
  Calls Tryz.prog 45 #[v1, v2] w fun e w' => e = .returned (.bool true) ∧ Below w.heap.size w w' := by
 obtain ⟨a1, cap1, rfl, hc1, hm1, _⟩ := h1.shape
 obtain ⟨a2, cap2, rfl, hc2, hm2, _⟩ := h2.shape
 obtain ⟨n, hn⟩ : ∃ n, n = l.length := ⟨_, rfl⟩
 have HN := hide hn
 rw [← hn] at hc1 hc2 ⊢
 have hcap : n ≤ maxLen := by omega
 unfold maxLen at hcap
 clear hn hm1 hm2
 have b := Below.refl w.heap.size w
 go_enter Tryz.func45, Tryz.ntmps45
 go_wp2_with fail
 go_loopw [13] (fun i wr => ∃ k : Nat, i = .int .i64 k ∧ k ≤ n ∧ Below w.heap.size w wr) (fun i _ => n - (RowKit.intOf i).toNat)
 case atStart => exact ⟨0, rfl, by omega, b⟩
 case round =>
  obtain ⟨k, rfl, hk, b⟩ := hrel
  by_cases hlt : k < n
  ·obtain ⟨b1, k1, p1, e1, _, _, _, c1⟩ := (h1.later b).block (by rw [← HN.out]; omega)
   obtain ⟨b2, k2, p2, e2, _, _, _, c2⟩ := (h2.later b).block (by rw [← HN.out]; omega)
   simp only [Value.slice.injEq] at e1 e2
   obtain ⟨rfl, -, rfl⟩ := e1
   obtain ⟨rfl, -, rfl⟩ := e2
   have d1 := c1 k (by rw [← HN.out]; omega)
   have d2 := c2 k (by rw [← HN.out]; omega)
   have l0 : (l.getD k []).length = 32 := h1.2 _ (by rw [List.getD_eq_getElem?_getD, List.getElem?_eq_getElem (by rw [← HN.out]; omega)]; exact List.getElem_mem _)
   have L0 := hide l0
   clear c1 c2 l0
   generalize l.getD k [] = x at *
   go_wp2_with fail
   refine q0e (by kernel_rfl) (by kernel_rfl) ?_
   repeat ((go_big_quiet_want; first | ((first | (refine q0j _ rfl rfl d1 L0.out ?_) | (refine q0j _ rfl rfl d2 L0.out ?_) | (refine x8q _ _ rfl rfl rfl L0.out L0.out ?_; simp only [decide_true, Bool.not_true])); simp only [pS]; go_big_quiet_on) | (go_big_quiet_op; go_big_quiet_on)))
   refine wpQuiet_nil ?_
   intro w2 hb2
   replace b := later b hb2
   clear d1 d2 hb2
   go_wp2_with fail
   go_roundw
   case rel => exact ⟨k + 1, by simp, by omega, b⟩
   case measure => simp [RowKit.intOf]; omega
  ·have hkn : k = n := by omega
   subst hkn
   go_wp2_with fail
   go_ret
   exact ⟨rfl, b⟩
section
variable {w : World} {v : Value} {x : Blk} {i : Int}
theorem z1u (h : BlkIs w v x) (hn : x.deeds.length ≤ 1000) (hf : ∀ d ∈ x.deeds, d.Fit) (hm : mayB x = false) :
  Calls Tryz.prog 40 #[v, .int .i64 i] w fun e w' => e = .returned (.tuple #[hv zero32, .slice none 0 0, .int .i64 2]) ∧ Below w.heap.size w w' := by
 refine (j0l v x i w h hn hf).mono ?_
 rintro e w' ⟨⟨_, h1⟩ | ⟨h1, _⟩ | ⟨h1, _⟩, hb⟩
 ·exact ⟨h1, hb⟩
 ·rw [hm] at h1; cases h1
 ·rw [hm] at h1; cases h1
theorem z2c (h : BlkIs w v x) (hn : x.deeds.length ≤ 1000) (hf : ∀ d ∈ x.deeds, d.Fit) (hm : mayB x = true) (ho : i < 0 ∨ (x.deeds.length : Int) ≤ i) :
  Calls Tryz.prog 40 #[v, .int .i64 i] w fun e w' => e = .returned (.tuple #[hv zero32, .slice none 0 0, .int .i64 5]) ∧ Below w.heap.size w w' := by
 refine (j0l v x i w h hn hf).mono ?_
 rintro e w' ⟨⟨h1, _⟩ | ⟨_, _, h1⟩ | ⟨_, k, pv, h1, h2, _⟩, hb⟩
 ·rw [hm] at h1; cases h1
 ·exact ⟨h1, hb⟩
 ·omega
theorem x7w {k : Nat} (h : BlkIs w v x) (hn : x.deeds.length ≤ 1000) (hf : ∀ d ∈ x.deeds, d.Fit) (hm : mayB x = true) (hk : k < x.deeds.length) :
  Calls Tryz.prog 40 #[v, .int .i64 (k : Int)] w fun e w' => (∃ pv, e = .returned (.tuple #[hv ((fulsB x.deeds).getD k []), pv, .int .i64 0]) ∧ Hs w' pv (provL (fulsB x.deeds) k)) ∧ Below w.heap.size w w' := by
 refine (j0l v x k w h hn hf).mono ?_
 rintro e w' ⟨⟨h1, _⟩ | ⟨_, h1, _⟩ | ⟨_, j, pv, h1, h2, h3, h4⟩, hb⟩
 ·rw [hm] at h1; cases h1
 ·omega
 ·have : j = k := by omega
  subst this
  exact ⟨⟨pv, h3, h4⟩, hb⟩
end
theorem q3e (l : List Deed) : (fulsB l).length = l.length := by unfold fulsB; rw [List.length_map]
theorem j2r (w : World) (v : Value) (x : Blk) (h : BlkIs w v x) (hf : ∀ d ∈ x.deeds, d.Fit) (hn : x.deeds.length ≤ 9223372036854775807) (v2 : Value) (y : Blk) (k : BlkIs w v2 y) (kf : ∀ d ∈ y.deeds, d.Fit) (kn : y.deeds.length ≤ 9223372036854775807) (i : Int) (hi : (Lit.int .i64 i).wf = true) :
  Calls Tryz.prog 9 #[v, v2, .int .i64 i] w fun e w' => e = .returned (.bool true) ∧ Below w.heap.size w w' := by
 have HG := hide (fun (w' : World) (hb : Below w.heap.size w w') => q8u v x w' (h.later hb) hf hn)
 have HG2 := hide (fun (w' : World) (hb : Below w.heap.size w w') => q8u v2 y w' (k.later hb) kf kn)
 have HS := hide (fun (w' : World) (hb : Below w.heap.size w w') => j8g v v2 x y w' (h.later hb) (k.later hb))
 have HRS := hide (fun (w' : World) (hb : Below w.heap.size w w') => x7j v v2 x y w' (h.later hb) (k.later hb))
 have HRM := hide (fun (hk : x.deeds.length ≤ 60) (w' : World) (hb : Below w.heap.size w w') => x8m v x w' (h.later hb) (by omega))
 have HW := hide works15
 obtain ⟨u, rfl, hD, hok⟩ := id h
 obtain ⟨u2, rfl, kD, kok⟩ := id k
 have o1 : u.oneCell' = true := by obtain ⟨a, c, rfl⟩ := hD.shape; rfl
 have o2 : u2.oneCell' = true := by obtain ⟨a, c, rfl⟩ := kD.shape; rfl
 have HOK := hide hok
 have KOK := hide kok
 have HZ : Hid (zero32.length = 32) := rfl
 have b := Below.refl w.heap.size w
 generalize samB x y = SB at *
 clear hi k kf kn kD kok
 by_cases hm : mayB x = true
 ·have HF := hide (fun (hk : x.deeds.length ≤ 60) (w' : World) (hb : Below w.heap.size w w') => j4g u x.deeds w' (hD.later hb) (by omega) (by simp only [mayB, fewB, Bool.and_eq_true] at hm; exact hm.2.1))
  rw [hm] at HRM
  have fin : ∀ (hO : i < 0 ∨ (x.deeds.length : Int) ≤ i), Calls Tryz.prog 9 #[blkV x.head u, blkV y.head u2, .int .i64 i] w fun e w' => e = .returned (.bool true) ∧ Below w.heap.size w w' := by
   intro hO
   have HP := hide (fun (hk : x.deeds.length ≤ 60) (w' : World) (hb : Below w.heap.size w w') => z2c (i := i) (h.later hb) (by omega) hf hm hO)
   have HRP := hide (fun (hk : x.deeds.length ≤ 60) (w' : World) (fv : Value) (hs : Hs w' fv (fulsB x.deeds)) => j7x fv (fulsB x.deeds) i w' hs (by rw [q3e]; omega))
   have HEQ := hide (fun (w' : World) => j1i (.slice none 0 0) (.slice none 0 0) [] w' (Hs.nil w') (Hs.nil w'))
   clear hm h hf hn hD hok hO
   generalize fulsB x.deeds = fs at *
   generalize x.deeds.length = n at *
   generalize y.deeds.length = n2 at *
   generalize x.head = d at *
   generalize y.head = e at *
   clear x y
   cases SB <;> skip
   all_goals
    have mF3 := True.intro
    have mF4 := True.intro
    have mF7 := True.intro
    go_enter Tryz.func9, Tryz.ntmps9
    go_wp2_with (first | (with_reducible refine w2g ?_; first | (clear mF3; refine q0l rfl _ rfl rfl HOK.out o1 ?_; intro _ g3 hg3 F3 hb; replace b := later b hb; clear hb) | (clear mF4; refine q0l rfl _ rfl rfl KOK.out o2 ?_; have q3 := F3.lt; intro _ g4 hg4 F4 hb; replace F3 := F3.later hb; replace b := later b hb; clear hb)) | (with_reducible refine w16g ?_; first | refine q0p rfl _ rfl rfl F3 ?_ | refine q0p rfl _ rfl rfl F4 ?_) | (go_at_call 30; first | ((with_reducible show Calls _ _ #[blkV d u] _ _); refine (HG.out _ b).mono ?_; rintro _ _ ⟨⟨B, rfl, hB⟩, hc⟩; replace F3 := F3.later hc; replace F4 := F4.later hc; replace b := later b hc; clear hc; cases B) | ((with_reducible show Calls _ _ #[blkV e u2] _ _); refine (HG2.out _ b).mono ?_; rintro _ _ ⟨⟨B2, rfl, -⟩, hc⟩; replace F3 := F3.later hc; replace F4 := F4.later hc; replace b := later b hc; clear hc; cases B2)) | (go_at_call 40; refine (HP.out (by simpa using hB) _ b).mono ?_; rintro _ _ ⟨rfl, hc⟩; replace F3 := F3.later hc; replace F4 := F4.later hc; replace b := later b hc; clear hc) | (go_at_call 24; refine (HW.out _).mono ?_; rintro _ _ ⟨rfl, hc⟩; replace F3 := F3.later hc; replace F4 := F4.later hc; replace b := later b hc; clear hc) | (with_reducible show Code.wp _ (Code.region _ _ true) _ _ _; fail) | (with_reducible refine w3g ?_; clear mF7; refine q0k rfl rfl ?_; intro _ g7 hg7 F7 hb; (try have := F3.lt); (try have := F4.lt); (try have := F7.lt); (try have := b.size); (try replace F3 := F3.later hb); (try replace F4 := F4.later hb); (try replace b := later b hb); clear hb) | (with_reducible refine w4g ?_; refine q0i rfl _ _ rfl rfl rfl HZ.out F7 ?_; intro _ t1 ht; (try replace F3 := F3.tt ht); (try replace F4 := F4.tt ht); (try replace b := q0b b ht (by omega) (by omega)); replace F7 := t1; clear ht))
    rotate_left
    ·go_ret
     exact ⟨rfl, b⟩
    ·go_ret
     exact ⟨rfl, b⟩
    refine q0e (by kernel_rfl) (by kernel_rfl) ?_
    repeat ((go_big_quiet_want; first | ((with_reducible refine w28g ?_); first | (refine q3d _ rfl rfl F3 ?_; simp only [pS]; go_big_quiet_on) | (refine q3d _ rfl rfl F4 ?_; simp only [pS]; go_big_quiet_on)) | (go_big_quiet_op; first | go_big_quiet_on | (refine ⟨_, fun s => q0f (HS.out _ (later b s.ok)), ?_⟩; go_big_quiet_on) | (refine ⟨_, fun s => q0f (HRS.out _ (later b s.ok)), ?_⟩; go_big_quiet_on))))
    refine wpQuiet_nil ?_
    intro _ hc
    replace F3 := F3.later hc; replace F4 := F4.later hc; (try replace F7 := F7.later hc); replace b := later b hc
    clear hc
    go_wp2_with (first | (with_reducible refine w16g ?_; first | refine q0p rfl _ rfl rfl F3 ?_) | (with_reducible refine w0g ?_; refine q0a rfl 42 _ rfl rfl (KAt.ds F3) (by kernel_rfl) ?_) | (go_at_call 32; refine (HRM.out (by simpa using hB) _ b).mono ?_; rintro _ _ ⟨rfl, hc⟩; replace F3 := F3.later hc; replace F4 := F4.later hc; (try replace F7 := F7.later hc); replace b := later b hc; clear hc) | (with_reducible show Code.wp _ (Code.region _ _ true) _ _ _; fail) | (go_at_call 43; refine (HF.out (by simpa using hB) _ b).mono ?_; rintro _ _ ⟨⟨fv, rfl, hF⟩, hc⟩; replace F3 := F3.later hc; replace F4 := F4.later hc; (try replace F7 := F7.later hc); replace b := later b hc; clear hc) | (go_at_call 44; refine (HRP.out (by simpa using hB) _ _ hF).mono ?_; rintro _ _ ⟨rfl, hc⟩; replace F3 := F3.later hc; replace F4 := F4.later hc; (try replace F7 := F7.later hc); (try replace hF := hF.later hc); replace b := later b hc; clear hc))
    refine q0e (by kernel_rfl) (by kernel_rfl) ?_
    repeat (first | go_big_quiet_skip | (go_big_quiet_want; first | (go_big_quiet_op; first | go_big_quiet_on | ((refine ⟨_, fun s => q0f (HEQ.out _), ?_⟩); go_big_quiet_on) | (refine ⟨_, fun s => q0f (HW.out _), ?_⟩; go_big_quiet_on))))
    refine wpQuiet_nil ?_
    intro _ hc
    replace F3 := F3.later hc; replace F4 := F4.later hc; (try replace F7 := F7.later hc); (try replace hF := hF.later hc); replace b := later b hc
    clear hc
    go_wp2_with fail
    go_ret
    exact ⟨rfl, b⟩
  rcases int3 i x.deeds.length with ho | ho | ⟨k, rfl, hk⟩
  ·exact fin (.inl ho)
  ·exact fin (.inr ho)
  ·have HPC := hide (fun (hk' : x.deeds.length ≤ 60) (w' : World) (hb : Below w.heap.size w w') => x7w (k := k) (h.later hb) (by omega) hf hm hk)
   have HRP := hide (fun (hk' : x.deeds.length ≤ 60) (w' : World) (fv : Value) (hs : Hs w' fv (fulsB x.deeds)) => j9f fv (fulsB x.deeds) k w' hs (by rw [q3e]; omega) (by rw [q3e]; exact hk))
   have hl0 := j5n x.deeds hk
   have hfl := q3e x.deeds
   obtain ⟨g0, hg0⟩ : ∃ g, g = (fulsB x.deeds).getD k [] := ⟨_, rfl⟩
   have HGK := hide hg0
   rw [← hg0] at HPC hl0
   have L0 := hide hl0
   clear hm h hf hn hD hok fin hg0 hl0
   generalize provL (fulsB x.deeds) k = PR at *
   generalize fulsB x.deeds = fs at *
   generalize x.deeds.length = n at *
   generalize y.deeds.length = n2 at *
   generalize x.head = d at *
   generalize y.head = e at *
   clear x y
   cases SB <;> skip
   all_goals
    have mF3 := True.intro
    have mF4 := True.intro
    have mF7 := True.intro
    go_enter Tryz.func9, Tryz.ntmps9
    go_wp2_with (first | (go_at_call 40; refine (HPC.out (by simpa using hB) _ b).mono ?_; rintro _ _ ⟨⟨pv, rfl, hP⟩, hc⟩; replace F3 := F3.later hc; replace F4 := F4.later hc; replace b := later b hc; clear hc) | (with_reducible refine w2g ?_; first | (clear mF3; refine q0l rfl _ rfl rfl HOK.out o1 ?_; intro _ g3 hg3 F3 hb; replace b := later b hb; clear hb) | (clear mF4; refine q0l rfl _ rfl rfl KOK.out o2 ?_; have q3 := F3.lt; intro _ g4 hg4 F4 hb; replace F3 := F3.later hb; replace b := later b hb; clear hb)) | (with_reducible refine w16g ?_; first | refine q0p rfl _ rfl rfl F3 ?_ | refine q0p rfl _ rfl rfl F4 ?_) | (go_at_call 30; first | ((with_reducible show Calls _ _ #[blkV d u] _ _); refine (HG.out _ b).mono ?_; rintro _ _ ⟨⟨B, rfl, hB⟩, hc⟩; replace F3 := F3.later hc; replace F4 := F4.later hc; replace b := later b hc; clear hc; cases B) | ((with_reducible show Calls _ _ #[blkV e u2] _ _); refine (HG2.out _ b).mono ?_; rintro _ _ ⟨⟨B2, rfl, -⟩, hc⟩; replace F3 := F3.later hc; replace F4 := F4.later hc; replace b := later b hc; clear hc; cases B2)) | (go_at_call 24; refine (HW.out _).mono ?_; rintro _ _ ⟨rfl, hc⟩; replace F3 := F3.later hc; replace F4 := F4.later hc; replace b := later b hc; clear hc) | (with_reducible show Code.wp _ (Code.region _ _ true) _ _ _; fail) | (with_reducible refine w3g ?_; clear mF7; refine q0k rfl rfl ?_; intro _ g7 hg7 F7 ha) | (with_reducible refine w4g ?_; refine q0i rfl _ _ rfl rfl rfl L0.out F7 ?_; intro _ t1 ht1; have hc := q0b ha ht1 hg7 (Nat.le_refl _); clear F7; replace F3 := F3.later hc; replace F4 := F4.later hc; replace hP := hP.later hc; replace b := later b hc; have F7 := t1; clear t1 ha ht1 hc))
    rotate_left
    ·go_ret
     exact ⟨rfl, b⟩
    ·go_ret
     exact ⟨rfl, b⟩
    refine q0e (by kernel_rfl) (by kernel_rfl) ?_
    repeat ((go_big_quiet_want; first | ((with_reducible refine w28g ?_); first | (refine q3d _ rfl rfl F3 ?_; simp only [pS]; go_big_quiet_on) | (refine q3d _ rfl rfl F4 ?_; simp only [pS]; go_big_quiet_on)) | (go_big_quiet_op; first | go_big_quiet_on | (refine ⟨_, fun s => q0f (HS.out _ (later b s.ok)), ?_⟩; go_big_quiet_on) | (refine ⟨_, fun s => q0f (HRS.out _ (later b s.ok)), ?_⟩; go_big_quiet_on))))
    refine wpQuiet_nil ?_
    intro _ hc
    replace F3 := F3.later hc; replace F4 := F4.later hc; (try replace F7 := F7.later hc); (try replace hP := hP.later hc); replace b := later b hc
    clear hc
    go_wp2_with (first | (with_reducible refine w16g ?_; first | refine q0p rfl _ rfl rfl F3 ?_) | (with_reducible refine w0g ?_; refine q0a rfl 42 _ rfl rfl (KAt.ds F3) (by kernel_rfl) ?_) | (go_at_call 32; refine (HRM.out (by simpa using hB) _ b).mono ?_; rintro _ _ ⟨rfl, hc⟩; replace F3 := F3.later hc; replace F4 := F4.later hc; (try replace F7 := F7.later hc); (try replace hP := hP.later hc); replace b := later b hc; clear hc) | (with_reducible show Code.wp _ (Code.region _ _ true) _ _ _; fail) | (go_at_call 43; refine (HF.out (by simpa using hB) _ b).mono ?_; rintro _ _ ⟨⟨fv, rfl, hF⟩, hc⟩; replace F3 := F3.later hc; replace F4 := F4.later hc; (try replace F7 := F7.later hc); (try replace hP := hP.later hc); replace b := later b hc; clear hc) | (go_at_call 44; refine (HRP.out (by simpa using hB) _ _ hF).mono ?_; rintro _ _ ⟨wv, rfl, hQ, hc⟩; replace F3 := F3.later hc; replace F4 := F4.later hc; (try replace F7 := F7.later hc); (try replace hP := hP.later hc); (try replace hF := hF.later hc); replace b := later b hc; clear hc))
    obtain ⟨bb, kk, cap, rfl, -, -, -, hcs⟩ := hF.block (by omega)
    have d1 := hcs k (by omega)
    rw [← HGK.out] at d1
    rw [hfl]
    clear hcs hF
    refine q0e (by kernel_rfl) (by kernel_rfl) ?_
    repeat ((go_big_quiet_want; first | ((with_reducible refine w25g ?_); first | (refine q0j _ rfl rfl d1 L0.out ?_; simp only [pS]; go_big_quiet_on) | (refine q1b _ rfl rfl F7 ?_; simp only [pS]; go_big_quiet_on)) | ((with_reducible show Oper.quiet _ ⟨_, Op.binOp _ 34 _ _ _, _, _, _, _⟩ _ _ _); refine j2h _ _ rfl _ L0.out rfl rfl ?_; simp only [pS]; go_big_quiet_on) | (go_big_quiet_op; first | go_big_quiet_on | ((refine ⟨_, fun s => q0f (j1i _ _ _ _ (hP.later s.ok) (hQ.later s.ok)), ?_⟩); go_big_quiet_on) | (refine ⟨_, fun s => q0f (HW.out _), ?_⟩; go_big_quiet_on))))
    refine wpQuiet_nil ?_
    intro _ hc
    replace F3 := F3.later hc; replace F4 := F4.later hc; (try replace F7 := F7.later hc); (try replace hP := hP.later hc); (try replace hQ := hQ.later hc); replace b := later b hc
    clear hc
    go_wp2_with fail
    go_ret
    exact ⟨rfl, b⟩
 ·have hm' : mayB x = false := by simpa using hm
  have HP := hide (fun (hk : x.deeds.length ≤ 60) (w' : World) (hb : Below w.heap.size w w') => z1u (i := i) (h.later hb) (by omega) hf hm')
  rw [hm'] at HRM
  clear hm hm' h hf hn hD hok
  generalize x.deeds.length = n at *
  generalize x.head = d at *
  generalize y.head = e at *
  generalize y.deeds.length = n2 at *
  clear x y
  cases SB <;> skip
  all_goals
   have mF3 := True.intro
   have mF4 := True.intro
   have mF7 := True.intro
   go_enter Tryz.func9, Tryz.ntmps9
   go_wp2_with (first | (with_reducible refine w2g ?_; first | (clear mF3; refine q0l rfl _ rfl rfl HOK.out o1 ?_; intro _ g3 hg3 F3 hb; replace b := later b hb; clear hb) | (clear mF4; refine q0l rfl _ rfl rfl KOK.out o2 ?_; have q3 := F3.lt; intro _ g4 hg4 F4 hb; replace F3 := F3.later hb; replace b := later b hb; clear hb)) | (with_reducible refine w16g ?_; first | refine q0p rfl _ rfl rfl F3 ?_ | refine q0p rfl _ rfl rfl F4 ?_) | (go_at_call 30; first | ((with_reducible show Calls _ _ #[blkV d u] _ _); refine (HG.out _ b).mono ?_; rintro _ _ ⟨⟨B, rfl, hB⟩, hc⟩; replace F3 := F3.later hc; replace F4 := F4.later hc; replace b := later b hc; clear hc; cases B) | ((with_reducible show Calls _ _ #[blkV e u2] _ _); refine (HG2.out _ b).mono ?_; rintro _ _ ⟨⟨B2, rfl, -⟩, hc⟩; replace F3 := F3.later hc; replace F4 := F4.later hc; replace b := later b hc; clear hc; cases B2)) | (go_at_call 40; refine (HP.out (by simpa using hB) _ b).mono ?_; rintro _ _ ⟨rfl, hc⟩; replace F3 := F3.later hc; replace F4 := F4.later hc; replace b := later b hc; clear hc) | (go_at_call 24; refine (HW.out _).mono ?_; rintro _ _ ⟨rfl, hc⟩; replace F3 := F3.later hc; replace F4 := F4.later hc; replace b := later b hc; clear hc) | (with_reducible show Code.wp _ (Code.region _ _ true) _ _ _; fail) | (with_reducible refine w3g ?_; clear mF7; refine q0k rfl rfl ?_; intro _ g7 hg7 F7 hb; (try have := F3.lt); (try have := F4.lt); (try have := F7.lt); (try have := b.size); (try replace F3 := F3.later hb); (try replace F4 := F4.later hb); (try replace b := later b hb); clear hb) | (with_reducible refine w4g ?_; refine q0i rfl _ _ rfl rfl rfl HZ.out F7 ?_; intro _ t1 ht; (try replace F3 := F3.tt ht); (try replace F4 := F4.tt ht); (try replace b := q0b b ht (by omega) (by omega)); replace F7 := t1; clear ht))
   rotate_left
   ·go_ret
    exact ⟨rfl, b⟩
   ·go_ret
    exact ⟨rfl, b⟩
   refine q0e (by kernel_rfl) (by kernel_rfl) ?_
   repeat ((go_big_quiet_want; first | ((with_reducible refine w28g ?_); first | (refine q3d _ rfl rfl F3 ?_; simp only [pS]; go_big_quiet_on) | (refine q3d _ rfl rfl F4 ?_; simp only [pS]; go_big_quiet_on)) | (go_big_quiet_op; first | go_big_quiet_on | (refine ⟨_, fun s => q0f (HS.out _ (later b s.ok)), ?_⟩; go_big_quiet_on) | (refine ⟨_, fun s => q0f (HRS.out _ (later b s.ok)), ?_⟩; go_big_quiet_on))))
   refine wpQuiet_nil ?_
   intro _ hc
   replace F3 := F3.later hc; replace F4 := F4.later hc; (try replace F7 := F7.later hc); replace b := later b hc
   clear hc
   go_wp2_with (first | (with_reducible refine w16g ?_; first | refine q0p rfl _ rfl rfl F3 ?_) | (go_at_call 32; refine (HRM.out (by simpa using hB) _ b).mono ?_; rintro _ _ ⟨rfl, hc⟩; replace F3 := F3.later hc; replace F4 := F4.later hc; (try replace F7 := F7.later hc); replace b := later b hc; clear hc) | (go_at_call 24; refine (HW.out _).mono ?_; rintro _ _ ⟨rfl, hc⟩; replace F3 := F3.later hc; replace F4 := F4.later hc; (try replace F7 := F7.later hc); replace b := later b hc; clear hc) | (with_reducible show Code.wp _ (Code.region _ _ true) _ _ _; fail))
   go_ret
   exact ⟨rfl, b⟩
end Go.Proofs.YtbbfnpfkbbpjgaaGreat
