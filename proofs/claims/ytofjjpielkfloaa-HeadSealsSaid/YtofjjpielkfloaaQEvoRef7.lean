/- The reference of layer 6: Public, Sign. -/
import Derived.Test.YtofjjpielkfloaaQEvoRef5
namespace Go.Proofs.Ytofjjpielkfloaa
open Go.RowKit Go.Lib
set_option linter.unusedVariables false
set_option linter.unusedSimpArgs false

set_option maxRecDepth 100000 in
set_option maxHeartbeats 1600000 in
theorem refSign06_any (k : Evo) (m : List UInt8) (v : Value) (w : World) (hk : EvoIs w v k) (hml : m.length = 32) :
    Calls Try.prog 31 #[v, hv m] w fun e w' => e = .returned (.tuple #[.string ⟨(sigK k m).toArray⟩, .int .i64 (errE k)]) ∧ Below w.heap.size w w' := by
  have HM := hide (fun v w h => refMay06_any k v w h)
  have ML := hide hml
  by_cases hm : mayE k = true
  · obtain ⟨d, p, hd, hp, hd4, _, hp16, hrl, hsl, _⟩ := mayE_is hm
    obtain ⟨R, hR⟩ : ∃ R : ByteArray, R = ⟨(sigK k m).toArray⟩ := ⟨_, rfl⟩
    obtain ⟨kd, kp, leaf, right, side⟩ := k
    simp only at hd hp hrl hsl
    subst hd
    subst hp
    have he : errE ⟨(d : Int), p, leaf, right, side⟩ = 0 := by unfold errE; rw [if_pos hm]
    rw [← hR, he]
    rw [hm] at HM
    unfold sigK at hR
    rw [if_pos hm] at hR
    simp only at hR
    obtain ⟨rv, sv, rfl, h3, h4, hl⟩ := hk
    simp only at h3 h4 hl ⊢
    obtain ⟨ar, cr, rfl, _⟩ := h3.shape
    obtain ⟨as', cs', rfl, _⟩ := h4.shape
    rw [hrl] at h3 ⊢
    rw [hsl] at h4 ⊢
    have F3 := h3.st
    have F4 := h4.st
    have HSL := hide hsl
    have HL := hide hl
    have HSGL := hide (signL_length leaf m)
    have b := Below.refl w.heap.size w
    have HSG0 := hide (fun w => refSign_any leaf m hl hml w)
    generalize signL leaf m = G at *
    obtain ⟨G', hG'⟩ : ∃ G' : ByteArray, G' = ⟨G.toArray⟩ := ⟨_, rfl⟩
    have HG := hide hG'
    have HSG : Hid (∀ w, Calls Try.prog 71 #[hv leaf, hv m] w fun e w' => e = .returned (.string G') ∧ Below w.heap.size w w') := fun w => by rw [hG']; exact HSG0.out w
    have HR : Hid ((⟨(G ++ (side.take d).flatten).toArray⟩ : ByteArray) = R) := by rw [hR, List.take_of_length_le (by omega)]; rfl
    clear hR hm hl hrl hsl he hml h3 h4 HSG0 hG'
    unfold evV hv
    have mF1 := True.intro
    have mF2 := True.intro
    go_enter Try.func31, Try.ntmps31
    go_wp2_with (first | (with_reducible show wpList _ _ _ (⟨_, Op.load _ _, _, _, _, _⟩ :: _) _ _; first | (refine wpl_load_hash rfl _ rfl rfl (by assumption) ?_) | (refine wpl_load_one rfl 3 _ rfl rfl (EvoAt.cd (by assumption)) (by kernel_rfl) ?_) | (refine wpl_load_one rfl 3 _ rfl rfl (EvoAt.cp (by assumption)) (by kernel_rfl) ?_) | (refine wpl_load_one rfl 24 _ rfl rfl (EvoAt.cr (by assumption)) (by kernel_rfl) ?_) | (refine wpl_load_one rfl 24 _ rfl rfl (EvoAt.cs (by assumption)) (by kernel_rfl) ?_) | (refine wpl_load_leaf rfl _ rfl rfl (by assumption) ?_) | (refine wpl_load_evo rfl _ rfl rfl (by assumption) ?_)) | (with_reducible show wpList _ _ _ (⟨_, Op.box _ _, _, _, _, _⟩ :: _) _ _; clear mF1; refine wpl_box_evo rfl _ rfl rfl HL.out rfl rfl ?_; intro _ g1 hg1 F1 hb; (try have := F1.lt); (try have := F2.lt); (try have := F3.lt); (try have := F4.lt); (try have := F5.lt); (try have := F6.lt); (try have := F7.lt); (try have := F8.lt); (try have := F9.lt); (try have := z.lt); (try have := G1.lt); (try have := G2.lt); (try have := G3.lt); (try have := b.size); (try replace F1 := F1.later hb); (try replace F2 := F2.later hb); (try replace F3 := F3.later hb); (try replace F4 := F4.later hb); (try replace F5 := F5.later hb); (try replace F6 := F6.later hb); (try replace F7 := F7.later hb); (try replace F8 := F8.later hb); (try replace F9 := F9.later hb); (try replace G1 := G1.later hb); (try replace G2 := G2.later hb); (try replace G3 := G3.later hb); (try replace z := z.later hb); (try replace b := later b hb); (try replace bB := mixed hB bB hb); clear hb) | (with_reducible show wpList _ _ _ (⟨_, Op.box _ _, _, _, _, _⟩ :: _) _ _; clear mF2; refine wpl_box_hash rfl _ rfl rfl ML.out ?_; intro _ g2 hg2 F2 hb; (try have := F1.lt); (try have := F2.lt); (try have := F3.lt); (try have := F4.lt); (try have := F5.lt); (try have := F6.lt); (try have := F7.lt); (try have := F8.lt); (try have := F9.lt); (try have := z.lt); (try have := G1.lt); (try have := G2.lt); (try have := G3.lt); (try have := b.size); (try replace F1 := F1.later hb); (try replace F2 := F2.later hb); (try replace F3 := F3.later hb); (try replace F4 := F4.later hb); (try replace F5 := F5.later hb); (try replace F6 := F6.later hb); (try replace F7 := F7.later hb); (try replace F8 := F8.later hb); (try replace F9 := F9.later hb); (try replace G1 := G1.later hb); (try replace G2 := G2.later hb); (try replace G3 := G3.later hb); (try replace z := z.later hb); (try replace b := later b hb); (try replace bB := mixed hB bB hb); clear hb) | (go_at_call 26; refine (HM.out _ _ ⟨_, _, rfl, F3.now, F4.now, HL.out⟩).mono ?_; rintro _ _ ⟨rfl, hc⟩; (try replace F1 := F1.later hc); (try replace F2 := F2.later hc); (try replace F3 := F3.later hc); (try replace F4 := F4.later hc); (try replace F5 := F5.later hc); (try replace F6 := F6.later hc); (try replace F7 := F7.later hc); (try replace F8 := F8.later hc); (try replace F9 := F9.later hc); (try replace G1 := G1.later hc); (try replace G2 := G2.later hc); (try replace G3 := G3.later hc); (try replace z := z.later hc); (try replace b := later b hc); (try replace bB := mixed hB bB hc); clear hc) | (go_at_call 71; refine (HSG.out _).mono ?_; rintro _ _ ⟨rfl, hc⟩; (try replace F1 := F1.later hc); (try replace F2 := F2.later hc); (try replace F3 := F3.later hc); (try replace F4 := F4.later hc); (try replace F5 := F5.later hc); (try replace F6 := F6.later hc); (try replace F7 := F7.later hc); (try replace F8 := F8.later hc); (try replace F9 := F9.later hc); (try replace G1 := G1.later hc); (try replace G2 := G2.later hc); (try replace G3 := G3.later hc); (try replace z := z.later hc); (try replace b := later b hc); (try replace bB := mixed hB bB hc); clear hc))
    go_loopw [6, 7] (fun s i wr => ∃ (j : Nat) (S : ByteArray), i = .int .i64 j ∧ j ≤ d ∧ s = .string S ∧ Hid (S = ⟨(G ++ (side.take j).flatten).toArray⟩) ∧ EvoAt wr g1 d p leaf (.slice ar d cr) (.slice as' d cs') ∧ (∃ m3, Stab (fun w => Hs w (.slice as' d cs') side) m3 wr) ∧ Below w.heap.size w wr) (fun _ i _ => d - (RowKit.intOf i).toNat)
    case atStart => exact ⟨0, _, rfl, by omega, rfl, by unfold Hid; rw [HG.out, List.take_zero, List.flatten_nil, List.append_nil], F1, ⟨_, F4⟩, b⟩
    case round =>
      clear F1 F2 F3 F4 b HG
      obtain ⟨j, S, rfl, hj, rfl, HSS, F1, ⟨m4, F4⟩, b⟩ := hrel
      by_cases hlt : j < d
      · obtain ⟨b0, k0, cap0, hv0, _, _, _, hcs0⟩ := F4.now.block (by rw [HSL.out]; omega)
        simp only [Value.slice.injEq] at hv0
        obtain ⟨rfl, -, rfl⟩ := hv0
        have F6 := hcs0 j (by rw [HSL.out]; exact hlt)
        have xl := side_len F4.now (i := j) (by rw [HSL.out]; exact hlt)
        have HT : Hid (G ++ (side.take (j + 1)).flatten = (G ++ (side.take j).flatten) ++ side.getD j []) := by
          have hlt' : j < side.length := by rw [HSL.out]; exact hlt
          unfold Hid
          rw [List.take_succ_eq_append_getElem hlt', List.flatten_append]
          simp [List.getD_eq_getElem?_getD, List.getElem?_eq_getElem hlt']
        obtain ⟨X, hX⟩ : ∃ X : ByteArray, X = ⟨(side.getD j []).toArray⟩ := ⟨_, rfl⟩
        have HB : Hid (∀ w, Calls Try.prog 60 #[hv (side.getD j [])] w fun e w' => e = .returned (.string X) ∧ Below w.heap.size w w') := fun w => by rw [hX]; exact refBytes_any _ w xl
        have z1 : ¬ 9223372036854775807 < S.size + X.size := by
          have h2 : ((side.take j).flatten).length = j * 32 := by
            rw [List.length_flatten]
            have : (side.take j).map List.length = List.replicate j 32 := by
              rw [List.eq_replicate_iff]
              refine ⟨by rw [List.length_map, List.length_take, HSL.out]; omega, fun b hb => ?_⟩
              obtain ⟨y, hy, rfl⟩ := List.mem_map.1 hb
              exact F4.now.2 y (List.mem_of_mem_take hy)
            rw [this, List.sum_replicate_nat]
          rw [HSS.out, hX, ba_size, ba_size, List.length_append, HSGL.out, h2, xl]
          omega
        have HN : Hid (S ++ X = ⟨(G ++ (side.take (j + 1)).flatten).toArray⟩) := by
          unfold Hid
          rw [HSS.out, hX, cat_bytes, HT.out]
        have XL := hide xl
        clear hcs0 xl hX HT
        generalize side.getD j [] = x at *
        go_wp2_with (first | (with_reducible show wpList _ _ _ (⟨_, Op.load _ _, _, _, _, _⟩ :: _) _ _; refine wpl_load_elem rfl _ rfl rfl F6 XL.out ?_) | (with_reducible show wpList _ _ _ (⟨_, Op.load _ _, _, _, _, _⟩ :: _) _ _; first | (refine wpl_load_hash rfl _ rfl rfl (by assumption) ?_) | (refine wpl_load_one rfl 3 _ rfl rfl (EvoAt.cd (by assumption)) (by kernel_rfl) ?_) | (refine wpl_load_one rfl 3 _ rfl rfl (EvoAt.cp (by assumption)) (by kernel_rfl) ?_) | (refine wpl_load_one rfl 24 _ rfl rfl (EvoAt.cr (by assumption)) (by kernel_rfl) ?_) | (refine wpl_load_one rfl 24 _ rfl rfl (EvoAt.cs (by assumption)) (by kernel_rfl) ?_) | (refine wpl_load_leaf rfl _ rfl rfl (by assumption) ?_) | (refine wpl_load_evo rfl _ rfl rfl (by assumption) ?_)) | (go_at_call 60; refine (HB.out _).mono ?_; rintro _ _ ⟨rfl, hc⟩; (try replace F1 := F1.later hc); (try replace F2 := F2.later hc); (try replace F3 := F3.later hc); (try replace F4 := F4.later hc); (try replace F5 := F5.later hc); (try replace F6 := F6.later hc); (try replace F7 := F7.later hc); (try replace F8 := F8.later hc); (try replace F9 := F9.later hc); (try replace G1 := G1.later hc); (try replace G2 := G2.later hc); (try replace G3 := G3.later hc); (try replace z := z.later hc); (try replace b := later b hc); (try replace bB := mixed hB bB hc); clear hc))
        generalize S ++ X = T at *
        go_roundw
        case rel => exact ⟨j + 1, T, by simp, by omega, rfl, HN, F1, ⟨_, F4⟩, b⟩
        case measure => simp [RowKit.intOf]; omega
      · obtain rfl : j = d := by omega
        have HE : Hid (S = R) := by unfold Hid; rw [HSS.out, HR.out]
        clear HSS HR
        go_wp2_with (with_reducible show wpList _ _ _ (⟨_, Op.load _ _, _, _, _, _⟩ :: _) _ _; first | (refine wpl_load_hash rfl _ rfl rfl (by assumption) ?_) | (refine wpl_load_one rfl 3 _ rfl rfl (EvoAt.cd (by assumption)) (by kernel_rfl) ?_) | (refine wpl_load_one rfl 3 _ rfl rfl (EvoAt.cp (by assumption)) (by kernel_rfl) ?_) | (refine wpl_load_one rfl 24 _ rfl rfl (EvoAt.cr (by assumption)) (by kernel_rfl) ?_) | (refine wpl_load_one rfl 24 _ rfl rfl (EvoAt.cs (by assumption)) (by kernel_rfl) ?_) | (refine wpl_load_leaf rfl _ rfl rfl (by assumption) ?_) | (refine wpl_load_evo rfl _ rfl rfl (by assumption) ?_))
        rw [HE.out]
        go_ret2
        exact ⟨rfl, b⟩
  · have hm' : mayE k = false := by simpa using hm
    have he : errE k = 2 := by unfold errE; rw [if_neg hm]
    have hp : sigK k m = [] := by unfold sigK; rw [if_neg hm]
    rw [hp, he]
    rw [hm'] at HM
    obtain ⟨kd, kp, leaf, right, side⟩ := k
    obtain ⟨rv, sv, rfl, F3, F4, hl⟩ := hk
    simp only at F3 F4 hl ⊢
    obtain ⟨ar, cr, rfl, _⟩ := F3.shape
    obtain ⟨as', cs', rfl, _⟩ := F4.shape
    have HL := hide hl
    have b := Below.refl w.heap.size w
    clear hm hm' hl he hp hml
    unfold evV hv
    have mF1 := True.intro
    have mF2 := True.intro
    go_enter Try.func31, Try.ntmps31
    go_wp2_with (first | (with_reducible show wpList _ _ _ (⟨_, Op.load _ _, _, _, _, _⟩ :: _) _ _; first | (refine wpl_load_hash rfl _ rfl rfl (by assumption) ?_) | (refine wpl_load_one rfl 3 _ rfl rfl (EvoAt.cd (by assumption)) (by kernel_rfl) ?_) | (refine wpl_load_one rfl 3 _ rfl rfl (EvoAt.cp (by assumption)) (by kernel_rfl) ?_) | (refine wpl_load_one rfl 24 _ rfl rfl (EvoAt.cr (by assumption)) (by kernel_rfl) ?_) | (refine wpl_load_one rfl 24 _ rfl rfl (EvoAt.cs (by assumption)) (by kernel_rfl) ?_) | (refine wpl_load_leaf rfl _ rfl rfl (by assumption) ?_) | (refine wpl_load_evo rfl _ rfl rfl (by assumption) ?_)) | (with_reducible show wpList _ _ _ (⟨_, Op.box _ _, _, _, _, _⟩ :: _) _ _; clear mF1; refine wpl_box_evo rfl _ rfl rfl HL.out rfl rfl ?_; intro _ g1 hg1 F1 hb; (try have := F1.lt); (try have := F2.lt); (try have := F3.lt); (try have := F4.lt); (try have := F5.lt); (try have := F6.lt); (try have := F7.lt); (try have := F8.lt); (try have := F9.lt); (try have := z.lt); (try have := G1.lt); (try have := G2.lt); (try have := G3.lt); (try have := b.size); (try replace F1 := F1.later hb); (try replace F2 := F2.later hb); (try replace F3 := F3.later hb); (try replace F4 := F4.later hb); (try replace F5 := F5.later hb); (try replace F6 := F6.later hb); (try replace F7 := F7.later hb); (try replace F8 := F8.later hb); (try replace F9 := F9.later hb); (try replace G1 := G1.later hb); (try replace G2 := G2.later hb); (try replace G3 := G3.later hb); (try replace z := z.later hb); (try replace b := later b hb); (try replace bB := mixed hB bB hb); clear hb) | (with_reducible show wpList _ _ _ (⟨_, Op.box _ _, _, _, _, _⟩ :: _) _ _; clear mF2; refine wpl_box_hash rfl _ rfl rfl ML.out ?_; intro _ g2 hg2 F2 hb; (try have := F1.lt); (try have := F2.lt); (try have := F3.lt); (try have := F4.lt); (try have := F5.lt); (try have := F6.lt); (try have := F7.lt); (try have := F8.lt); (try have := F9.lt); (try have := z.lt); (try have := G1.lt); (try have := G2.lt); (try have := G3.lt); (try have := b.size); (try replace F1 := F1.later hb); (try replace F2 := F2.later hb); (try replace F3 := F3.later hb); (try replace F4 := F4.later hb); (try replace F5 := F5.later hb); (try replace F6 := F6.later hb); (try replace F7 := F7.later hb); (try replace F8 := F8.later hb); (try replace F9 := F9.later hb); (try replace G1 := G1.later hb); (try replace G2 := G2.later hb); (try replace G3 := G3.later hb); (try replace z := z.later hb); (try replace b := later b hb); (try replace bB := mixed hB bB hb); clear hb) | (go_at_call 26; refine (HM.out _ _ ⟨_, _, rfl, F3, F4, HL.out⟩).mono ?_; rintro _ _ ⟨rfl, hc⟩; (try replace F1 := F1.later hc); (try replace F2 := F2.later hc); (try replace F3 := F3.later hc); (try replace F4 := F4.later hc); (try replace F5 := F5.later hc); (try replace F6 := F6.later hc); (try replace F7 := F7.later hc); (try replace F8 := F8.later hc); (try replace F9 := F9.later hc); (try replace G1 := G1.later hc); (try replace G2 := G2.later hc); (try replace G3 := G3.later hc); (try replace z := z.later hc); (try replace b := later b hc); (try replace bB := mixed hB bB hc); clear hc))
    go_ret2
    exact ⟨rfl, b⟩
end Go.Proofs.Ytofjjpielkfloaa
