/- Package evolve: down, Make. -/
import Derived.Test.YtofjjpielkfloaaQEvo3
namespace Go.Proofs.Ytofjjpielkfloaa
open Go.RowKit Go.Lib
set_option linter.unusedVariables false
set_option linter.unusedSimpArgs false

/-- What stands while a row is laid. -/
def DownK (g2 g3 g6 : Nat) (d p : Int) (leaf : List UInt8) (rv sv : Value) (s r : List UInt8) (x : World) : Prop := EvoAt x g2 d p leaf rv sv ∧ HashAt x g3 s ∧ HashAt x g6 r
theorem downK_lasts (g2 g3 g6 : Nat) (d p : Int) (leaf : List UInt8) (rv sv : Value) (s r : List UInt8) : Lasts (DownK g2 g3 g6 d p leaf rv sv s r) :=
  fun _ _ h hb => ⟨h.1.later hb, h.2.1.later hb, h.2.2.later hb⟩
theorem one_hash {x : List UInt8} (h : x.length = 32) : ∀ y ∈ [x], y.length = 32 := by intro y hy; simp at hy; subst hy; exact h
theorem more_hash {l : List (List UInt8)} {x : List UInt8} (hl : ∀ y ∈ l, y.length = 32) (h : x.length = 32) : ∀ y ∈ l ++ [x], y.length = 32 := by
  intro y hy
  rcases List.mem_append.1 hy with h1 | h1
  · exact hl y h1
  · simp at h1; subst h1; exact h
set_option maxRecDepth 100000 in
set_option maxHeartbeats 3200000 in
theorem down_any (d r0 : Nat) (p : Int) (leaf seed : List UInt8) (rv sv : Value) (right side : List (List UInt8)) (B : Nat) (w : World) (hd : d ≤ 4) (hrl : right.length = r0) (hsl : side.length = r0) (hr0 : r0 ≤ d) (hl : leaf.length = 32) (hs : seed.length = 32)
    (hor : OwnU w B rv right []) (hos : OwnU w B sv side []) (hB : B ≤ w.heap.size) (hdis : ∀ b, rv.ownBlock = some b → sv.ownBlock ≠ some b) :
    Calls Try.prog 55 #[evV d p leaf rv sv, hv seed] w fun e w' => ∃ v, e = .returned v ∧ EvoOwn w' B v ⟨d, p, (downE (d - r0) seed).2.2, right ++ (downE (d - r0) seed).1, side ++ (downE (d - r0) seed).2.1⟩ ∧ Below B w w' := by
  obtain ⟨RR, hRR⟩ : ∃ x, x = right ++ (downE (d - r0) seed).1 := ⟨_, rfl⟩
  obtain ⟨SS, hSS⟩ : ∃ x, x = side ++ (downE (d - r0) seed).2.1 := ⟨_, rfl⟩
  obtain ⟨LL, hLL⟩ : ∃ x, x = (downE (d - r0) seed).2.2 := ⟨_, rfl⟩
  rw [← hRR, ← hSS, ← hLL]
  have HE : Hid (right ++ (downE (d - r0) seed).1 = RR ∧ side ++ (downE (d - r0) seed).2.1 = SS ∧ (downE (d - r0) seed).2.2 = LL) := ⟨hRR.symm, hSS.symm, hLL.symm⟩
  clear hRR hSS hLL
  have HL := hide hl
  have HS := hide hs
  have F5 := hor
  have F6 := hos
  have b := Below.refl w.heap.size w
  obtain ⟨ar, cr, hrv⟩ := hor.shape
  obtain ⟨as', cs', hsv⟩ := hos.shape
  rw [hrl] at hrv
  rw [hsl] at hsv
  subst hrv
  subst hsv
  have HDIS := hide hdis
  have HLR := hide (OwnU.lt hor)
  have HLS := hide (OwnU.lt hos)
  have HRL := hide hrl
  have HSL := hide hsl
  clear hor hos hdis hl hs hrl hsl
  unfold evV hv
  have mF1 := True.intro
  have mF2 := True.intro
  have mF4 := True.intro
  go_enter Try.func55, Try.ntmps55
  go_wp2_with (first | (with_reducible show wpList _ _ _ (⟨_, Op.load _ _, _, _, _, _⟩ :: _) _ _; first | (refine wpl_load_hash rfl _ rfl rfl (by assumption) ?_) | (refine wpl_load_one rfl 3 _ rfl rfl (EvoAt.cd (by assumption)) (by kernel_rfl) ?_) | (refine wpl_load_one rfl 3 _ rfl rfl (EvoAt.cp (by assumption)) (by kernel_rfl) ?_) | (refine wpl_load_one rfl 24 _ rfl rfl (EvoAt.cr (by assumption)) (by kernel_rfl) ?_) | (refine wpl_load_one rfl 24 _ rfl rfl (EvoAt.cs (by assumption)) (by kernel_rfl) ?_) | (refine wpl_load_leaf rfl _ rfl rfl (by assumption) ?_) | (refine wpl_load_evo rfl _ rfl rfl (by assumption) ?_)) | (with_reducible show wpList _ _ _ (⟨_, Op.box _ _, _, _, _, _⟩ :: _) _ _; clear mF1; refine wpl_box_evo rfl _ rfl rfl HL.out rfl rfl ?_; intro _ g2 hg2 F1 hb; (try have := F1.lt); (try have := F2.lt); (try have := F3.lt); (try have := F4.lt); (try have := F5.lt); (try have := F6.lt); (try have := F7.lt); (try have := F8.lt); (try have := F9.lt); (try have := z.lt); (try have := G1.lt); (try have := G2.lt); (try have := G3.lt); (try have := b.size); (try replace F1 := F1.later hb); (try replace F2 := F2.later hb); (try replace F3 := F3.later hb); (try replace F4 := F4.later hb); (try replace F5 := F5.later hb); (try replace F6 := F6.later hb); (try replace F7 := F7.later hb); (try replace F8 := F8.later hb); (try replace F9 := F9.later hb); (try replace G1 := G1.later hb); (try replace G2 := G2.later hb); (try replace G3 := G3.later hb); (try replace z := z.later hb); (try replace b := later b hb); (try replace bB := mixed hB bB hb); clear hb) | (with_reducible show wpList _ _ _ (⟨_, Op.box _ _, _, _, _, _⟩ :: _) _ _; clear mF2; refine wpl_box_hash rfl _ rfl rfl HS.out ?_; intro _ g3 hg3 F2 hb; (try have := F1.lt); (try have := F2.lt); (try have := F3.lt); (try have := F4.lt); (try have := F5.lt); (try have := F6.lt); (try have := F7.lt); (try have := F8.lt); (try have := F9.lt); (try have := z.lt); (try have := G1.lt); (try have := G2.lt); (try have := G3.lt); (try have := b.size); (try replace F1 := F1.later hb); (try replace F2 := F2.later hb); (try replace F3 := F3.later hb); (try replace F4 := F4.later hb); (try replace F5 := F5.later hb); (try replace F6 := F6.later hb); (try replace F7 := F7.later hb); (try replace F8 := F8.later hb); (try replace F9 := F9.later hb); (try replace G1 := G1.later hb); (try replace G2 := G2.later hb); (try replace G3 := G3.later hb); (try replace z := z.later hb); (try replace b := later b hb); (try replace bB := mixed hB bB hb); clear hb) | (with_reducible show wpList _ _ _ (⟨_, Op.alloc _, _, _, _, _⟩ :: _) _ _; clear mF4; refine wpl_mk_evo rfl rfl ?_; intro _ g4 hg4 F4 hb; (try have := F1.lt); (try have := F2.lt); (try have := F3.lt); (try have := F4.lt); (try have := F5.lt); (try have := F6.lt); (try have := F7.lt); (try have := F8.lt); (try have := F9.lt); (try have := z.lt); (try have := G1.lt); (try have := G2.lt); (try have := G3.lt); (try have := b.size); (try replace F1 := F1.later hb); (try replace F2 := F2.later hb); (try replace F3 := F3.later hb); (try replace F4 := F4.later hb); (try replace F5 := F5.later hb); (try replace F6 := F6.later hb); (try replace F7 := F7.later hb); (try replace F8 := F8.later hb); (try replace F9 := F9.later hb); (try replace G1 := G1.later hb); (try replace G2 := G2.later hb); (try replace G3 := G3.later hb); (try replace z := z.later hb); (try replace b := later b hb); (try replace bB := mixed hB bB hb); clear hb))
  replace F5 := ((F5.more HLR.out hg2).more HLR.out (show w.heap.size ≤ g3 by omega)).more HLR.out (show w.heap.size ≤ g4 by omega)
  replace F6 := ((F6.more HLS.out hg2).more HLS.out (show w.heap.size ≤ g3 by omega)).more HLS.out (show w.heap.size ≤ g4 by omega)
  have bB := b.mono hB
  have k2 : B ≤ g2 := by omega
  have k3 : B ≤ g3 := by omega
  have k4 : B ≤ g4 := by omega
  have n23 : g2 < g3 := by omega
  have n24 : g2 < g4 := by omega
  have n34 : g3 < g4 := by omega
  clear b
  go_loopw [5] (fun i wr => ∃ (r : Nat) (ra : Option Addr) (rc : Nat) (sa : Option Addr) (sc : Nat) (R S : List (List UInt8)) (s : List UInt8), i = .int .i64 r ∧ r ≤ d ∧ Hid (R.length = r) ∧ Hid (S.length = r) ∧
    Hid (R ++ (downE (d - r) s).1 = RR ∧ S ++ (downE (d - r) s).2.1 = SS ∧ (downE (d - r) s).2.2 = LL) ∧ EvoAt wr g2 d p leaf (.slice ra r rc) (.slice sa r sc) ∧ HashAt wr g3 s ∧ EvoAt wr g4 0 0 zero32 (.slice none 0 0) (.slice none 0 0) ∧
    OwnU wr B (.slice ra r rc) R [g4, g3, g2] ∧ OwnU wr B (.slice sa r sc) S [g4, g3, g2] ∧ Hid (∀ b, (Value.slice ra r rc).ownBlock = some b → (Value.slice sa r sc).ownBlock ≠ some b) ∧ Below B w wr) (fun i _ => d - (RowKit.intOf i).toNat)
  case atStart => exact ⟨r0, ar, cr, as', cs', right, side, seed, rfl, hr0, HRL, HSL, HE, F1, F2, F4, F5, F6, HDIS, bB⟩
  case round =>
    clear F1 F2 F4 F5 F6 bB HDIS HLR HLS HRL HSL HE HS HL
    obtain ⟨r, ra, rc, sa, sc, R, S, s, rfl, hrd, HRL, HSL, HE, F1, F2, F4, F5, F6, HDIS, bB⟩ := hrel
    have SL := hide F2.1
    by_cases hlt : r < d
    · have hx32 := rightL_length s
      have hy32 := leftL_length s
      obtain ⟨n, hn⟩ : ∃ n, n = d - 1 - r := ⟨_, rfl⟩
      have HE' : Hid ((R ++ [rightL s]) ++ (downE n (leftL s)).1 = RR ∧ (S ++ [pubE n (rightL s)]) ++ (downE n (leftL s)).2.1 = SS ∧ (downE n (leftL s)).2.2 = LL) := by
        have h := HE.out
        rw [show d - r = n + 1 by omega] at h
        simp only [downE] at h
        simpa [Hid, List.append_assoc] using h
      have HA : Hid (∀ w, Calls Try.prog 99 #[hv s, .string ⟨#[114, 105, 103, 104, 116]⟩] w fun e w' => e = .returned (hv (rightL s)) ∧ Below w.heap.size w w') := fun w => half_any tagRight s SL.out (by decide) w
      have HB : Hid (∀ w, Calls Try.prog 99 #[hv s, .string ⟨#[108, 101, 102, 116]⟩] w fun e w' => e = .returned (hv (leftL s)) ∧ Below w.heap.size w w') := fun w => half_any tagLeft s SL.out (by decide) w
      have HP : Hid (∀ w, Calls Try.prog 100 #[hv (rightL s), .int .i64 ((d : Int) - 1 - (r : Int))] w fun e w' => e = .returned (hv (pubE n (rightL s))) ∧ Below w.heap.size w w') := fun w => by
        have := evoPub_any n (rightL s) hx32 (by omega) w
        rwa [show (n : Int) = (d : Int) - 1 - (r : Int) by omega] at this
      have HPL := hide (pubE_length n (rightL s))
      have XL := hide hx32
      have YL := hide hy32
      have HNN := hide (show n = d - (r + 1) by omega)
      clear hx32 hy32 HE hn
      generalize pubE n (rightL s) = q at *
      generalize rightL s = x at *
      generalize leftL s = y at *
      have HLR := hide (OwnU.lt F5)
      have HLS := hide (OwnU.lt F6)
      have b := Below.refl wr.heap.size wr
      have hBr : B ≤ wr.heap.size := by have := bB.size; omega
      have mF7 := True.intro
      go_wp2_with (first | (with_reducible show wpList _ _ _ (⟨_, Op.load _ _, _, _, _, _⟩ :: _) _ _; first | (refine wpl_load_hash rfl _ rfl rfl (by assumption) ?_) | (refine wpl_load_one rfl 3 _ rfl rfl (EvoAt.cd (by assumption)) (by kernel_rfl) ?_) | (refine wpl_load_one rfl 3 _ rfl rfl (EvoAt.cp (by assumption)) (by kernel_rfl) ?_) | (refine wpl_load_one rfl 24 _ rfl rfl (EvoAt.cr (by assumption)) (by kernel_rfl) ?_) | (refine wpl_load_one rfl 24 _ rfl rfl (EvoAt.cs (by assumption)) (by kernel_rfl) ?_) | (refine wpl_load_leaf rfl _ rfl rfl (by assumption) ?_) | (refine wpl_load_evo rfl _ rfl rfl (by assumption) ?_)) | (go_at_call 99; refine (HA.out _).mono ?_; rintro _ _ ⟨rfl, hc⟩; (try replace F1 := F1.later hc); (try replace F2 := F2.later hc); (try replace F3 := F3.later hc); (try replace F4 := F4.later hc); (try replace F5 := F5.later hc); (try replace F6 := F6.later hc); (try replace F7 := F7.later hc); (try replace F8 := F8.later hc); (try replace F9 := F9.later hc); (try replace G1 := G1.later hc); (try replace G2 := G2.later hc); (try replace G3 := G3.later hc); (try replace z := z.later hc); (try replace b := later b hc); (try replace bB := mixed hB bB hc); clear hc) | (with_reducible show wpList _ _ _ (⟨_, Op.alloc _, _, _, _, _⟩ :: _) _ _; clear mF7; refine wpl_mk_hash rfl rfl ?_; intro _ g6 hg6 F7 hb; (try have := F1.lt); (try have := F2.lt); (try have := F3.lt); (try have := F4.lt); (try have := F5.lt); (try have := F6.lt); (try have := F7.lt); (try have := F8.lt); (try have := F9.lt); (try have := z.lt); (try have := G1.lt); (try have := G2.lt); (try have := G3.lt); (try have := b.size); (try replace F1 := F1.later hb); (try replace F2 := F2.later hb); (try replace F3 := F3.later hb); (try replace F4 := F4.later hb); (try replace F5 := F5.later hb); (try replace F6 := F6.later hb); (try replace F7 := F7.later hb); (try replace F8 := F8.later hb); (try replace F9 := F9.later hb); (try replace G1 := G1.later hb); (try replace G2 := G2.later hb); (try replace G3 := G3.later hb); (try replace z := z.later hb); (try replace b := later b hb); (try replace bB := mixed hB bB hb); clear hb) | (with_reducible show wpList _ _ _ (⟨_, Op.store _ _ _, _, _, _, _⟩ :: _) _ _; replace F5 := F5.more HLR.out (show wr.heap.size ≤ g6 by omega); replace F6 := F6.more HLS.out (show wr.heap.size ≤ g6 by omega); (with_reducible show wpList _ _ _ (⟨_, Op.store _ _ _, _, _, _, _⟩ :: _) _ _; refine wpl_set_hash rfl _ _ rfl rfl rfl XL.out F7 ?_; intro _ t1 ht; (try replace F1 := F1.tt ht); (try replace F2 := F2.tt ht); (try replace F3 := F3.tt ht); (try replace F4 := F4.tt ht); (try replace F5 := F5.tt ht); (try replace F6 := F6.tt ht); (try replace F7 := F7.tt ht); (try replace F8 := F8.tt ht); (try replace F9 := F9.tt ht); (try replace G1 := G1.tt ht); (try replace G2 := G2.tt ht); (try replace G3 := G3.tt ht); (try replace z := z.tt ht); (try replace b := below_touch b ht (by omega) (by omega)); (try replace bB := below_touch bB ht (by omega) hB); replace F7 := t1; clear ht)) | (with_reducible show Code.wp _ (Code.region _ _ true) _ _ _; (try simp only [Act.put, List.setIfInBounds_toArray, List.set_cons_succ, List.set_cons_zero]); fail))
      have n26 : g2 ≠ g6 := by omega
      have n36 : g3 ≠ g6 := by omega
      have n46 : g4 ≠ g6 := by omega
      simp only [Act.put, List.setIfInBounds_toArray, List.set_cons_succ, List.set_cons_zero]
      refine region_plan (DownK g2 g3 g6 d p leaf (.slice ra r rc) (.slice sa r sc) s x) (.one [0, 1, 2, 5, 6, 7, 8, 9, 10, 11, 12] 3 (.one [] 4 (.fl [16] 13 (.one [] 14 (.one [] 15 (.bar [] 17 (.bar [18] 19 (.stop [])))))))) (by kernel_rfl) (by kernel_rfl) (by kernel_rfl) (by decide) (downK_lasts _ _ _ _ _ _ _ _ _ _) ⟨F1, F2, F7⟩ ?_
      intro wp0 hp0 _ hk0
      have ne0 : Nonempty (Kept (DownK g2 g3 g6 d p leaf (.slice ra r rc) (.slice sa r sc) s x)) := ⟨⟨wp0, hk0⟩⟩
      (try replace F1 := F1.later hp0); (try replace F2 := F2.later hp0); (try replace F3 := F3.later hp0); (try replace F4 := F4.later hp0); (try replace F5 := F5.later hp0); (try replace F6 := F6.later hp0); (try replace F7 := F7.later hp0); (try replace F8 := F8.later hp0); (try replace F9 := F9.later hp0); (try replace G1 := G1.later hp0); (try replace G2 := G2.later hp0); (try replace G3 := G3.later hp0); (try replace z := z.later hp0); (try replace b := later b hp0); (try replace bB := mixed hB bB hp0)
      refine plan_one ?_
      simp only [pickOps, opAt, List.getElem?_cons_succ, List.getElem?_cons_zero, List.nil_append, List.cons_append]
      (repeat (first | go_big_quiet_skip | (go_big_quiet_want; first | (first | (refine quiet_load_cells _ _ rfl rfl (fun w hw => Cells.arr (Kl.out hw).2.2.2) _ Try.underlying23 rfl (by rw [bvs_length, XL.out]; exact hashInfo) ?_; simp only [Act.put, List.setIfInBounds_toArray, List.set_cons_succ, List.set_cons_zero]; go_big_quiet_on) | (refine quiet_load_one 3 _ rfl rfl (fun w hw => ((Kl.out hw).1).cd) (by kernel_rfl) ?_; simp only [Act.put, List.setIfInBounds_toArray, List.set_cons_succ, List.set_cons_zero]; go_big_quiet_on) | (refine quiet_load_one 24 _ rfl rfl (fun w hw => ((Kl.out hw).1).cr) (by kernel_rfl) ?_; simp only [Act.put, List.setIfInBounds_toArray, List.set_cons_succ, List.set_cons_zero]; go_big_quiet_on) | (refine quiet_load_one 24 _ rfl rfl (fun w hw => ((Kl.out hw).1).cs) (by kernel_rfl) ?_; simp only [Act.put, List.setIfInBounds_toArray, List.set_cons_succ, List.set_cons_zero]; go_big_quiet_on)) | (go_big_quiet_op; first | go_big_quiet_on | fail))))
      refine wpQuiet_nil ?_
      intro wp1 hp1 hk1
      (try replace F1 := F1.later hp1); (try replace F2 := F2.later hp1); (try replace F3 := F3.later hp1); (try replace F4 := F4.later hp1); (try replace F5 := F5.later hp1); (try replace F6 := F6.later hp1); (try replace F7 := F7.later hp1); (try replace F8 := F8.later hp1); (try replace F9 := F9.later hp1); (try replace G1 := G1.later hp1); (try replace G2 := G2.later hp1); (try replace G3 := G3.later hp1); (try replace z := z.later hp1); (try replace b := later b hp1); (try replace bB := mixed hB bB hp1)
      refine wpl_hashes rfl 1 _ rfl [x] rfl (by simp only [List.map_toArray, List.map_cons, List.map_nil]; rfl) (one_hash XL.out) (by decide) (by decide) ?_
      intro wp2 hs2 hb2 _
      (try replace F1 := F1.later hb2); (try replace F2 := F2.later hb2); (try replace F3 := F3.later hb2); (try replace F4 := F4.later hb2); (try replace F5 := F5.later hb2); (try replace F6 := F6.later hb2); (try replace F7 := F7.later hb2); (try replace F8 := F8.later hb2); (try replace F9 := F9.later hb2); (try replace G1 := G1.later hb2); (try replace G2 := G2.later hb2); (try replace G3 := G3.later hb2); (try replace z := z.later hb2); (try replace b := later b hb2); (try replace bB := mixed hB bB hb2)
      replace hk1 := downK_lasts _ _ _ _ _ _ _ _ _ _ _ _ hk1 hb2
      clear hk0 hp0 hp1 hb2
      refine goQ_same (downK_lasts _ _ _ _ _ _ _ _ _ _) hk1 ?_
      simp only [Act.put, List.setIfInBounds_toArray, List.set_cons_succ, List.set_cons_zero]
      generalize wp1.heap.size = gx at *
      refine plan_one ?_
      simp only [pickOps, opAt, List.getElem?_cons_succ, List.getElem?_cons_zero, List.nil_append, List.cons_append]
      refine wpQuiet_nil ?_
      intro wp3 hp3 hk3
      (try replace F1 := F1.later hp3); (try replace F2 := F2.later hp3); (try replace F3 := F3.later hp3); (try replace F4 := F4.later hp3); (try replace F5 := F5.later hp3); (try replace F6 := F6.later hp3); (try replace F7 := F7.later hp3); (try replace F8 := F8.later hp3); (try replace F9 := F9.later hp3); (try replace G1 := G1.later hp3); (try replace G2 := G2.later hp3); (try replace G3 := G3.later hp3); (try replace z := z.later hp3); (try replace b := later b hp3); (try replace bB := mixed hB bB hp3)
      replace hs2 := hs2.later hp3
      clear hk1 hp3
      have hB3 : B ≤ wp3.heap.size := by have := bB.size; omega
      have l2 := F1.lt
      have l3 := F2.lt
      have l4 := F4.lt
      have l6 := F7.lt
      have O5 := hide (OwnU.lt F5)
      have O6 := hide (OwnU.lt F6)
      refine wpl_append_hash rfl _ _ rfl rfl F5.1 rfl hs2 r HRL.out (by rw [HRL.out]; omega) hB3 ?_
      intro a4 c4 wp4 own4 ht4 hob4
      have N2 : ¬ (Value.slice ra r rc).ownBlock = some g2 := fun h => F5.2.2 g2 h (by simp)
      have N3 : ¬ (Value.slice ra r rc).ownBlock = some g3 := fun h => F5.2.2 g3 h (by simp)
      have N4 : ¬ (Value.slice ra r rc).ownBlock = some g4 := fun h => F5.2.2 g4 h (by simp)
      have N6 : ¬ (Value.slice ra r rc).ownBlock = some g6 := fun h => F5.2.2 g6 h (by simp)
      have G1 := F1.touch ht4 N2
      have G2 := F2.touch ht4 N3
      have G4 := F4.touch ht4 N4
      have G7 := F7.touch ht4 N6
      have G6 : OwnU wp4 B (.slice sa r sc) S [g6, g4, g3, g2] := ⟨owns_touch F6.1 ht4 (fun b hb hs => HDIS.out b hs hb), F6.2⟩
      have G5 : OwnU wp4 B (.slice a4 (r + 1) c4) (R ++ [x]) [g6, g4, g3, g2] := F5.put own4 (more_hash F5.2.1 XL.out) hob4 (by intro y hy; simp at hy; omega)
      have gB := bB.trans (ht4.below hB3 (fun y hy => (World.ownsRow.lt F5.1 y hy).1))
      have DIS4 : Hid (∀ b, (Value.slice a4 (r + 1) c4).ownBlock = some b → (Value.slice sa r sc).ownBlock ≠ some b) := fun b hb hs => by
        rcases hob4 with h | h
        · exact HDIS.out b (h ▸ hb) hs
        · rw [h] at hb
          have h1 : wp3.heap.size = b := Option.some.inj hb
          have h2 := O6.out b hs
          omega
      clear F1 F2 F4 F5 F6 F7 bB HDIS own4 ht4 hob4 N2 N3 N4 N6 hs2 hk3 O5 O6 l2 l3 l4 l6 b HLR HLS
      have F1 := G1
      have F2 := G2
      have F4 := G4
      have F5 := G5
      have F6 := G6
      have F7 := G7
      have bB := gB
      clear G1 G2 G4 G5 G6 G7 gB
      refine goQ_same (downK_lasts _ _ _ _ _ _ _ _ _ _) ⟨F1, F2, F7⟩ ?_
      simp only [Act.put, List.setIfInBounds_toArray, List.set_cons_succ, List.set_cons_zero]
      refine plan_fl ?_
      simp only [pickOps, opAt, List.getElem?_cons_succ, List.getElem?_cons_zero, List.nil_append, List.cons_append]
      (repeat (first | go_big_quiet_skip | (go_big_quiet_want; first | fail | (go_big_quiet_op; first | go_big_quiet_on | fail))))
      refine wpQuiet_nil ?_
      refine fl_call (args := #[hv x, .int .i64 ((d : Int) - 1 - (r : Int))]) (by rfl) rfl (by kernel_rfl) (by simp only [List.map_toArray, List.map_cons, List.map_nil]; rfl) (fun w' hC => HP.out _) ?_
      simp only [Act.put, List.setIfInBounds_toArray, List.set_cons_succ, List.set_cons_zero]
      refine plan_one ?_
      simp only [pickOps, opAt, List.getElem?_cons_succ, List.getElem?_cons_zero, List.nil_append, List.cons_append]
      refine wpQuiet_nil ?_
      intro wp5 hp5 hk5
      (try replace F1 := F1.later hp5); (try replace F2 := F2.later hp5); (try replace F3 := F3.later hp5); (try replace F4 := F4.later hp5); (try replace F5 := F5.later hp5); (try replace F6 := F6.later hp5); (try replace F7 := F7.later hp5); (try replace F8 := F8.later hp5); (try replace F9 := F9.later hp5); (try replace G1 := G1.later hp5); (try replace G2 := G2.later hp5); (try replace G3 := G3.later hp5); (try replace z := z.later hp5); (try replace b := later b hp5); (try replace bB := mixed hB bB hp5)
      clear hp5
      refine wpl_hashes rfl 1 _ rfl [q] rfl (by simp only [List.map_toArray, List.map_cons, List.map_nil]; rfl) (one_hash HPL.out) (by decide) (by decide) ?_
      intro wp6 hs6 hb6 _
      (try replace F1 := F1.later hb6); (try replace F2 := F2.later hb6); (try replace F3 := F3.later hb6); (try replace F4 := F4.later hb6); (try replace F5 := F5.later hb6); (try replace F6 := F6.later hb6); (try replace F7 := F7.later hb6); (try replace F8 := F8.later hb6); (try replace F9 := F9.later hb6); (try replace G1 := G1.later hb6); (try replace G2 := G2.later hb6); (try replace G3 := G3.later hb6); (try replace z := z.later hb6); (try replace b := later b hb6); (try replace bB := mixed hB bB hb6)
      clear hb6 hk5
      refine goQ_same (downK_lasts _ _ _ _ _ _ _ _ _ _) ⟨F1, F2, F7⟩ ?_
      simp only [Act.put, List.setIfInBounds_toArray, List.set_cons_succ, List.set_cons_zero]
      generalize wp5.heap.size = gy at *
      refine plan_one ?_
      simp only [pickOps, opAt, List.getElem?_cons_succ, List.getElem?_cons_zero, List.nil_append, List.cons_append]
      refine wpQuiet_nil ?_
      intro wp7 hp7 hk7
      (try replace F1 := F1.later hp7); (try replace F2 := F2.later hp7); (try replace F3 := F3.later hp7); (try replace F4 := F4.later hp7); (try replace F5 := F5.later hp7); (try replace F6 := F6.later hp7); (try replace F7 := F7.later hp7); (try replace F8 := F8.later hp7); (try replace F9 := F9.later hp7); (try replace G1 := G1.later hp7); (try replace G2 := G2.later hp7); (try replace G3 := G3.later hp7); (try replace z := z.later hp7); (try replace b := later b hp7); (try replace bB := mixed hB bB hp7)
      replace hs6 := hs6.later hp7
      clear hp7 hk7
      have hB7 : B ≤ wp7.heap.size := by have := bB.size; omega
      have l2 := F1.lt
      have l3 := F2.lt
      have l4 := F4.lt
      have l6 := F7.lt
      have O5 := hide (OwnU.lt F5)
      have O6 := hide (OwnU.lt F6)
      refine wpl_append_hash rfl _ _ rfl rfl F6.1 rfl hs6 r HSL.out (by rw [HSL.out]; omega) hB7 ?_
      intro a8 c8 wp8 own8 ht8 hob8
      have N2 : ¬ (Value.slice sa r sc).ownBlock = some g2 := fun h => F6.2.2 g2 h (by simp)
      have N3 : ¬ (Value.slice sa r sc).ownBlock = some g3 := fun h => F6.2.2 g3 h (by simp)
      have N4 : ¬ (Value.slice sa r sc).ownBlock = some g4 := fun h => F6.2.2 g4 h (by simp)
      have N6 : ¬ (Value.slice sa r sc).ownBlock = some g6 := fun h => F6.2.2 g6 h (by simp)
      have G1 := F1.touch ht8 N2
      have G2 := F2.touch ht8 N3
      have G4 := F4.touch ht8 N4
      have G7 := F7.touch ht8 N6
      have G5 : OwnU wp8 B (.slice a4 (r + 1) c4) (R ++ [x]) [g6, g4, g3, g2] := ⟨owns_touch F5.1 ht8 (fun b hb hs => DIS4.out b hb hs), F5.2⟩
      have G6 : OwnU wp8 B (.slice a8 (r + 1) c8) (S ++ [q]) [g6, g4, g3, g2] := F6.put own8 (more_hash F6.2.1 HPL.out) hob8 (by intro y hy; simp at hy; omega)
      have gB := bB.trans (ht8.below hB7 (fun y hy => (World.ownsRow.lt F6.1 y hy).1))
      have DIS8 : Hid (∀ b, (Value.slice a4 (r + 1) c4).ownBlock = some b → (Value.slice a8 (r + 1) c8).ownBlock ≠ some b) := fun b hb hs => by
        rcases hob8 with h | h
        · exact DIS4.out b hb (h ▸ hs)
        · rw [h] at hs
          have h1 : wp7.heap.size = b := Option.some.inj hs
          have h2 := O5.out b hb
          omega
      clear F1 F2 F4 F5 F6 F7 bB DIS4 own8 ht8 hob8 N2 N3 N4 N6 hs6 O5 O6 l2 l3 l4 l6
      have F1 := G1
      have F2 := G2
      have F4 := G4
      have F5 := G5
      have F6 := G6
      have bB := gB
      have F7 := G7
      clear G1 G2 G4 G5 G6 G7 gB
      refine goQ_same (downK_lasts _ _ _ _ _ _ _ _ _ _) ⟨F1, F2, F7⟩ ?_
      simp only [Act.put, List.setIfInBounds_toArray, List.set_cons_succ, List.set_cons_zero]
      refine plan_bar ?_
      simp only [pickOps, opAt, List.getElem?_cons_succ, List.getElem?_cons_zero, List.nil_append, List.cons_append]
      refine wpQuiet_nil ?_
      intro wp9 hp9 _
      (try replace F1 := F1.later hp9); (try replace F2 := F2.later hp9); (try replace F3 := F3.later hp9); (try replace F4 := F4.later hp9); (try replace F5 := F5.later hp9); (try replace F6 := F6.later hp9); (try replace F7 := F7.later hp9); (try replace F8 := F8.later hp9); (try replace F9 := F9.later hp9); (try replace G1 := G1.later hp9); (try replace G2 := G2.later hp9); (try replace G3 := G3.later hp9); (try replace z := z.later hp9); (try replace b := later b hp9); (try replace bB := mixed hB bB hp9)
      clear hp9
      refine wpl_set_right rfl _ _ rfl rfl rfl F1 ?_
      intro wp10 t1 ht
      (try replace F1 := F1.tt ht); (try replace F2 := F2.tt ht); (try replace F3 := F3.tt ht); (try replace F4 := F4.tt ht); (try replace F5 := F5.tt ht); (try replace F6 := F6.tt ht); (try replace F7 := F7.tt ht); (try replace F8 := F8.tt ht); (try replace F9 := F9.tt ht); (try replace G1 := G1.tt ht); (try replace G2 := G2.tt ht); (try replace G3 := G3.tt ht); (try replace z := z.tt ht); (try replace b := below_touch b ht (by omega) (by omega)); (try replace bB := below_touch bB ht (by omega) hB)
      replace F1 := t1
      clear ht
      refine goB_since ?_
      simp only [Act.put, List.setIfInBounds_toArray, List.set_cons_succ, List.set_cons_zero]
      refine plan_bar ?_
      simp only [pickOps, opAt, List.getElem?_cons_succ, List.getElem?_cons_zero, List.nil_append, List.cons_append]
      (repeat (first | go_big_quiet_skip | (go_big_quiet_want; first | fail | (go_big_quiet_op; first | go_big_quiet_on | fail))))
      refine wpQuiet_nil ?_
      intro wp11 hp11 _
      (try replace F1 := F1.later hp11); (try replace F2 := F2.later hp11); (try replace F3 := F3.later hp11); (try replace F4 := F4.later hp11); (try replace F5 := F5.later hp11); (try replace F6 := F6.later hp11); (try replace F7 := F7.later hp11); (try replace F8 := F8.later hp11); (try replace F9 := F9.later hp11); (try replace G1 := G1.later hp11); (try replace G2 := G2.later hp11); (try replace G3 := G3.later hp11); (try replace z := z.later hp11); (try replace b := later b hp11); (try replace bB := mixed hB bB hp11)
      clear hp11
      refine wpl_set_side rfl _ _ rfl rfl rfl F1 ?_
      intro wp12 t1 ht
      (try replace F1 := F1.tt ht); (try replace F2 := F2.tt ht); (try replace F3 := F3.tt ht); (try replace F4 := F4.tt ht); (try replace F5 := F5.tt ht); (try replace F6 := F6.tt ht); (try replace F7 := F7.tt ht); (try replace F8 := F8.tt ht); (try replace F9 := F9.tt ht); (try replace G1 := G1.tt ht); (try replace G2 := G2.tt ht); (try replace G3 := G3.tt ht); (try replace z := z.tt ht); (try replace b := below_touch b ht (by omega) (by omega)); (try replace bB := below_touch bB ht (by omega) hB)
      replace F1 := t1
      clear ht
      refine goB_since ?_
      simp only [Act.put, List.setIfInBounds_toArray, List.set_cons_succ, List.set_cons_zero]
      refine plan_stop ?_
      simp only [pickOps, opAt, List.getElem?_cons_succ, List.getElem?_cons_zero, List.nil_append, List.cons_append]
      refine wpQuiet_nil ?_
      intro wp13 hp13 _
      (try replace F1 := F1.later hp13); (try replace F2 := F2.later hp13); (try replace F3 := F3.later hp13); (try replace F4 := F4.later hp13); (try replace F5 := F5.later hp13); (try replace F6 := F6.later hp13); (try replace F7 := F7.later hp13); (try replace F8 := F8.later hp13); (try replace F9 := F9.later hp13); (try replace G1 := G1.later hp13); (try replace G2 := G2.later hp13); (try replace G3 := G3.later hp13); (try replace z := z.later hp13); (try replace b := later b hp13); (try replace bB := mixed hB bB hp13)
      clear hp13 F7
      go_wp2_with (first | (with_reducible show wpList _ _ _ (⟨_, Op.load _ _, _, _, _, _⟩ :: _) _ _; first | (refine wpl_load_hash rfl _ rfl rfl (by assumption) ?_) | (refine wpl_load_one rfl 3 _ rfl rfl (EvoAt.cd (by assumption)) (by kernel_rfl) ?_) | (refine wpl_load_one rfl 3 _ rfl rfl (EvoAt.cp (by assumption)) (by kernel_rfl) ?_) | (refine wpl_load_one rfl 24 _ rfl rfl (EvoAt.cr (by assumption)) (by kernel_rfl) ?_) | (refine wpl_load_one rfl 24 _ rfl rfl (EvoAt.cs (by assumption)) (by kernel_rfl) ?_) | (refine wpl_load_leaf rfl _ rfl rfl (by assumption) ?_) | (refine wpl_load_evo rfl _ rfl rfl (by assumption) ?_)) | (go_at_call 99; refine (HB.out _).mono ?_; rintro _ _ ⟨rfl, hc⟩; (try replace F1 := F1.later hc); (try replace F2 := F2.later hc); (try replace F3 := F3.later hc); (try replace F4 := F4.later hc); (try replace F5 := F5.later hc); (try replace F6 := F6.later hc); (try replace F7 := F7.later hc); (try replace F8 := F8.later hc); (try replace F9 := F9.later hc); (try replace G1 := G1.later hc); (try replace G2 := G2.later hc); (try replace G3 := G3.later hc); (try replace z := z.later hc); (try replace b := later b hc); (try replace bB := mixed hB bB hc); clear hc) | (with_reducible show wpList _ _ _ (⟨_, Op.store _ _ _, _, _, _, _⟩ :: _) _ _; refine wpl_set_hash rfl _ _ rfl rfl rfl YL.out F2 ?_; intro _ t1 ht; (try replace F1 := F1.tt ht); (try replace F2 := F2.tt ht); (try replace F3 := F3.tt ht); (try replace F4 := F4.tt ht); (try replace F5 := F5.tt ht); (try replace F6 := F6.tt ht); (try replace F7 := F7.tt ht); (try replace F8 := F8.tt ht); (try replace F9 := F9.tt ht); (try replace G1 := G1.tt ht); (try replace G2 := G2.tt ht); (try replace G3 := G3.tt ht); (try replace z := z.tt ht); (try replace b := below_touch b ht (by omega) (by omega)); (try replace bB := below_touch bB ht (by omega) hB); replace F2 := t1; clear ht))
      go_roundw
      case rel =>
        refine ⟨r + 1, _, _, _, _, _, _, y, rfl, by omega, ?_, ?_, ?_, F1, F2, F4, F5.less (by simp), F6.less (by simp), DIS8, bB⟩
        · unfold Hid; rw [List.length_append, HRL.out]; rfl
        · unfold Hid; rw [List.length_append, HSL.out]; rfl
        · have h := HE'.out; rw [HNN.out] at h; exact h
      case measure => simp [RowKit.intOf]; omega
    · obtain rfl : r = d := by omega
      obtain ⟨e1, e2, e3⟩ := HE.out
      have e4 : downE (r - r) s = ([], [], s) := by rw [Nat.sub_self]; rfl
      rw [e4] at e1 e2 e3
      simp only [List.append_nil] at e1 e2 e3
      subst e1
      subst e2
      subst e3
      clear HE e4
      go_wp2_with (first | (with_reducible show wpList _ _ _ (⟨_, Op.load _ _, _, _, _, _⟩ :: _) _ _; first | (refine wpl_load_hash rfl _ rfl rfl (by assumption) ?_) | (refine wpl_load_one rfl 3 _ rfl rfl (EvoAt.cd (by assumption)) (by kernel_rfl) ?_) | (refine wpl_load_one rfl 3 _ rfl rfl (EvoAt.cp (by assumption)) (by kernel_rfl) ?_) | (refine wpl_load_one rfl 24 _ rfl rfl (EvoAt.cr (by assumption)) (by kernel_rfl) ?_) | (refine wpl_load_one rfl 24 _ rfl rfl (EvoAt.cs (by assumption)) (by kernel_rfl) ?_) | (refine wpl_load_leaf rfl _ rfl rfl (by assumption) ?_) | (refine wpl_load_evo rfl _ rfl rfl (by assumption) ?_)) | (with_reducible show wpList _ _ _ (⟨_, Op.store _ _ _, _, _, _, _⟩ :: _) _ _; refine wpl_set_leaf rfl _ _ rfl rfl rfl SL.out F1 ?_; intro _ t1 ht; (try replace F1 := F1.tt ht); (try replace F2 := F2.tt ht); (try replace F3 := F3.tt ht); (try replace F4 := F4.tt ht); (try replace F5 := F5.tt ht); (try replace F6 := F6.tt ht); (try replace F7 := F7.tt ht); (try replace F8 := F8.tt ht); (try replace F9 := F9.tt ht); (try replace G1 := G1.tt ht); (try replace G2 := G2.tt ht); (try replace G3 := G3.tt ht); (try replace z := z.tt ht); (try replace b := below_touch b ht (by omega) (by omega)); (try replace bB := below_touch bB ht (by omega) hB); replace F1 := t1; clear ht) | (with_reducible show wpList _ _ _ (⟨_, Op.store _ _ _, _, _, _, _⟩ :: _) _ _; refine wpl_set_evo rfl _ _ rfl rfl rfl F1.len rfl rfl F4 ?_; intro _ t1 ht; (try replace F1 := F1.tt ht); (try replace F2 := F2.tt ht); (try replace F3 := F3.tt ht); (try replace F4 := F4.tt ht); (try replace F5 := F5.tt ht); (try replace F6 := F6.tt ht); (try replace F7 := F7.tt ht); (try replace F8 := F8.tt ht); (try replace F9 := F9.tt ht); (try replace G1 := G1.tt ht); (try replace G2 := G2.tt ht); (try replace G3 := G3.tt ht); (try replace z := z.tt ht); (try replace b := below_touch b ht (by omega) (by omega)); (try replace bB := below_touch bB ht (by omega) hB); replace F4 := t1; clear ht))
      exact bodyPost_ret (ret_evo rfl _ _ rfl F4) rfl ⟨_, rfl, ⟨_, _, rfl, F5.less (by simp), F6.less (by simp), SL.out⟩, bB⟩
/-- The first key of a seed. -/
def firstE (d : Nat) (s : List UInt8) : Evo := ⟨d, 0, (downE d s).2.2, (downE d s).1, (downE d s).2.1⟩
end Go.Proofs.Ytofjjpielkfloaa
