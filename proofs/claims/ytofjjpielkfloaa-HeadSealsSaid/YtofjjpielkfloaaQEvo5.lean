/- Package evolve: Public, Sign. -/
import Derived.Test.YtofjjpielkfloaaQEvo4
import Derived.Test.YtofjjpielkfloaaQStep2
namespace Go.Proofs.Ytofjjpielkfloaa
open Go.RowKit Go.Lib
set_option linter.unusedVariables false
set_option linter.unusedSimpArgs false

/-- The public key that a key tells of. -/
def pubK (k : Evo) : List UInt8 := if mayE k then upE k.d.toNat k.p.toNat 0 (fun i => k.side.getD i []) k.d.toNat (publicL k.leaf) else zero32
theorem mayE_is {k : Evo} (h : mayE k = true) : ∃ d p : Nat, k.d = d ∧ k.p = p ∧ d ≤ 4 ∧ p < 2 ^ d ∧ p < 16 ∧ k.right.length = d ∧ k.side.length = d ∧ perB k.d k.p = true := by
  unfold mayE at h
  simp only [Bool.and_eq_true, decide_eq_true_eq] at h
  obtain ⟨⟨⟨h1, h2⟩, h3⟩, _⟩ := h
  obtain ⟨a, b, c, e, f⟩ := perB_small h1
  obtain ⟨d, hd⟩ := Int.eq_ofNat_of_zero_le a
  obtain ⟨p, hp⟩ := Int.eq_ofNat_of_zero_le c
  rw [hd] at h2 h3 e b
  rw [hp] at e f
  simp only [Int.toNat_natCast] at e
  refine ⟨d, p, hd, hp, by omega, ?_, by omega, by omega, by omega, h1⟩
  exact_mod_cast e
set_option maxRecDepth 100000 in
set_option maxHeartbeats 1600000 in
theorem evoPublic_any (k : Evo) (v : Value) (w : World) (hk : EvoIs w v k) :
    Calls Try.prog 28 #[v] w fun e w' => e = .returned (.tuple #[hv (pubK k), .int .i64 (errE k)]) ∧ Below w.heap.size w w' := by
  have HM := hide (fun v w h => evoMay_any k v w h)
  by_cases hm : mayE k = true
  · obtain ⟨d, p, hd, hp, hd4, _, hp16, hrl, hsl, _⟩ := mayE_is hm
    obtain ⟨R, hR⟩ : ∃ R, R = pubK k := ⟨_, rfl⟩
    obtain ⟨kd, kp, leaf, right, side⟩ := k
    simp only at hd hp hrl hsl
    subst hd
    subst hp
    have he : errE ⟨(d : Int), p, leaf, right, side⟩ = 0 := by unfold errE; rw [if_pos hm]
    rw [← hR, he]
    rw [he] at HM
    unfold pubK at hR
    rw [if_pos hm] at hR
    simp only [Int.toNat_natCast] at hR
    obtain ⟨rv, sv, rfl, F3, F4, hl⟩ := hk
    simp only at F3 F4 hl ⊢
    obtain ⟨ar, cr, rfl, _⟩ := F3.shape
    obtain ⟨as', cs', rfl, _⟩ := F4.shape
    rw [hrl] at F3 ⊢
    rw [hsl] at F4 ⊢
    have HSL := hide hsl
    have HL := hide hl
    have HPL := hide (publicL_length leaf)
    have HPK := hide (fun w => publicKey_any leaf hl w)
    have HUP : Hid (∀ (g : Nat) (w : World), EvoAt w g d p leaf (.slice ar d cr) (.slice as' d cs') → Hs w (.slice as' d cs') side → Calls Try.prog 57 #[hv (publicL leaf), .int .i64 d, .int .i64 p, .int .i64 0, .func (.func 68) #[] #[.pointer (some ⟨g, 0, none⟩)]] w fun e w' => e = .returned (hv R) ∧ Below w.heap.size w w') := fun g w h1 h2 => by
      have := up_pub (publicL leaf) d p 0 (fun i => side.getD i []) (.pointer (some ⟨g, 0, none⟩)) w (publicL_length _) hd4 hp16 (by omega) (fun i _ hi => side_len h2 (by omega)) (fun i w' _ hi hb => pubSide_any g i d p leaf _ _ side w' (h1.later hb) (h2.later hb) (by omega))
      rw [hR]
      exact this
    have b := Below.refl w.heap.size w
    generalize publicL leaf = P at *
    have HRL : Hid (R.length = 32) := by rw [hR]; exact upE_length _ _ _ _ _ _ HPL.out
    clear hR hm hl hrl hsl he
    unfold evV
    have mF1 := True.intro
    have mF2 := True.intro
    go_enter Try.func28, Try.ntmps28
    go_wp2_with (first | (with_reducible show wpList _ _ _ (⟨_, Op.load _ _, _, _, _, _⟩ :: _) _ _; first | (refine wpl_load_hash rfl _ rfl rfl (by assumption) ?_) | (refine wpl_load_one rfl 3 _ rfl rfl (EvoAt.cd (by assumption)) (by kernel_rfl) ?_) | (refine wpl_load_one rfl 3 _ rfl rfl (EvoAt.cp (by assumption)) (by kernel_rfl) ?_) | (refine wpl_load_one rfl 24 _ rfl rfl (EvoAt.cr (by assumption)) (by kernel_rfl) ?_) | (refine wpl_load_one rfl 24 _ rfl rfl (EvoAt.cs (by assumption)) (by kernel_rfl) ?_) | (refine wpl_load_leaf rfl _ rfl rfl (by assumption) ?_) | (refine wpl_load_evo rfl _ rfl rfl (by assumption) ?_)) | (with_reducible show wpList _ _ _ (⟨_, Op.box _ _, _, _, _, _⟩ :: _) _ _; clear mF1; refine wpl_box_evo rfl _ rfl rfl HL.out rfl rfl ?_; intro _ g1 hg1 F1 hb; (try have := F1.lt); (try have := F2.lt); (try have := F3.lt); (try have := F4.lt); (try have := F5.lt); (try have := F6.lt); (try have := F7.lt); (try have := F8.lt); (try have := F9.lt); (try have := z.lt); (try have := G1.lt); (try have := G2.lt); (try have := G3.lt); (try have := b.size); (try replace F1 := F1.later hb); (try replace F2 := F2.later hb); (try replace F3 := F3.later hb); (try replace F4 := F4.later hb); (try replace F5 := F5.later hb); (try replace F6 := F6.later hb); (try replace F7 := F7.later hb); (try replace F8 := F8.later hb); (try replace F9 := F9.later hb); (try replace G1 := G1.later hb); (try replace G2 := G2.later hb); (try replace G3 := G3.later hb); (try replace z := z.later hb); (try replace b := later b hb); (try replace bB := mixed hB bB hb); clear hb) | (with_reducible show wpList _ _ _ (⟨_, Op.alloc _, _, _, _, _⟩ :: _) _ _; clear mF2; refine wpl_mk_hash rfl rfl ?_; intro _ g2 hg2 F2 hb; (try have := F1.lt); (try have := F2.lt); (try have := F3.lt); (try have := F4.lt); (try have := F5.lt); (try have := F6.lt); (try have := F7.lt); (try have := F8.lt); (try have := F9.lt); (try have := z.lt); (try have := G1.lt); (try have := G2.lt); (try have := G3.lt); (try have := b.size); (try replace F1 := F1.later hb); (try replace F2 := F2.later hb); (try replace F3 := F3.later hb); (try replace F4 := F4.later hb); (try replace F5 := F5.later hb); (try replace F6 := F6.later hb); (try replace F7 := F7.later hb); (try replace F8 := F8.later hb); (try replace F9 := F9.later hb); (try replace G1 := G1.later hb); (try replace G2 := G2.later hb); (try replace G3 := G3.later hb); (try replace z := z.later hb); (try replace b := later b hb); (try replace bB := mixed hB bB hb); clear hb) | (go_at_call 27; refine (HM.out _ _ ⟨_, _, rfl, F3, F4, HL.out⟩).mono ?_; rintro _ _ ⟨rfl, hc⟩; (try replace F1 := F1.later hc); (try replace F2 := F2.later hc); (try replace F3 := F3.later hc); (try replace F4 := F4.later hc); (try replace F5 := F5.later hc); (try replace F6 := F6.later hc); (try replace F7 := F7.later hc); (try replace F8 := F8.later hc); (try replace F9 := F9.later hc); (try replace G1 := G1.later hc); (try replace G2 := G2.later hc); (try replace G3 := G3.later hc); (try replace z := z.later hc); (try replace b := later b hc); (try replace bB := mixed hB bB hc); clear hc) | (with_reducible show Code.wp _ (Code.region _ _ true) _ _ _; (try simp only [Act.put, List.setIfInBounds_toArray, List.set_cons_succ, List.set_cons_zero]); fail))
    refine region_plan (fun x => Below (World.heap _).size _ x) (.fl [0, 1, 3, 4, 5, 6, 7] 2 (.fl [] 8 (.bar [] 9 (.stop [10])))) (by kernel_rfl) (by kernel_rfl) (by kernel_rfl) (by decide) (lasts_below (Nat.le_refl _)) (Below.refl _ _) ?_
    intro wpl0 _ _ _
    refine plan_fl ?_
    simp only [pickOps, opAt, List.getElem?_cons_succ, List.getElem?_cons_zero, List.nil_append, List.cons_append]
    (repeat (first | go_big_quiet_skip | (go_big_quiet_want; first | (refine plan_load_hash _ rfl rfl (by assumption) ?_; simp only [Act.put, List.setIfInBounds_toArray, List.set_cons_succ, List.set_cons_zero]; go_big_quiet_on) | (refine plan_load_one 3 _ rfl rfl (EvoAt.cd (by assumption)) (by kernel_rfl) ?_; simp only [Act.put, List.setIfInBounds_toArray, List.set_cons_succ, List.set_cons_zero]; go_big_quiet_on) | (refine plan_load_one 3 _ rfl rfl (EvoAt.cp (by assumption)) (by kernel_rfl) ?_; simp only [Act.put, List.setIfInBounds_toArray, List.set_cons_succ, List.set_cons_zero]; go_big_quiet_on) | (refine plan_load_one 24 _ rfl rfl (EvoAt.cr (by assumption)) (by kernel_rfl) ?_; simp only [Act.put, List.setIfInBounds_toArray, List.set_cons_succ, List.set_cons_zero]; go_big_quiet_on) | (refine plan_load_one 24 _ rfl rfl (EvoAt.cs (by assumption)) (by kernel_rfl) ?_; simp only [Act.put, List.setIfInBounds_toArray, List.set_cons_succ, List.set_cons_zero]; go_big_quiet_on) | (refine plan_load_leaf _ rfl rfl (by assumption) ?_; simp only [Act.put, List.setIfInBounds_toArray, List.set_cons_succ, List.set_cons_zero]; go_big_quiet_on) | (go_big_quiet_op; go_big_quiet_on))))
    refine wpQuiet_nil ?_
    refine fl_call (by rfl) rfl (by kernel_rfl) (by simp only [List.map_toArray, List.map_cons, List.map_nil]; rfl) (fun w' hC => HPK.out w') ?_
    simp only [Act.put, List.setIfInBounds_toArray, List.set_cons_succ, List.set_cons_zero]
    refine plan_fl ?_
    simp only [pickOps, opAt, List.getElem?_cons_succ, List.getElem?_cons_zero, List.nil_append, List.cons_append]
    (repeat (first | go_big_quiet_skip | (go_big_quiet_want; first | (refine plan_load_hash _ rfl rfl (by assumption) ?_; simp only [Act.put, List.setIfInBounds_toArray, List.set_cons_succ, List.set_cons_zero]; go_big_quiet_on) | (refine plan_load_one 3 _ rfl rfl (EvoAt.cd (by assumption)) (by kernel_rfl) ?_; simp only [Act.put, List.setIfInBounds_toArray, List.set_cons_succ, List.set_cons_zero]; go_big_quiet_on) | (refine plan_load_one 3 _ rfl rfl (EvoAt.cp (by assumption)) (by kernel_rfl) ?_; simp only [Act.put, List.setIfInBounds_toArray, List.set_cons_succ, List.set_cons_zero]; go_big_quiet_on) | (refine plan_load_one 24 _ rfl rfl (EvoAt.cr (by assumption)) (by kernel_rfl) ?_; simp only [Act.put, List.setIfInBounds_toArray, List.set_cons_succ, List.set_cons_zero]; go_big_quiet_on) | (refine plan_load_one 24 _ rfl rfl (EvoAt.cs (by assumption)) (by kernel_rfl) ?_; simp only [Act.put, List.setIfInBounds_toArray, List.set_cons_succ, List.set_cons_zero]; go_big_quiet_on) | (refine plan_load_leaf _ rfl rfl (by assumption) ?_; simp only [Act.put, List.setIfInBounds_toArray, List.set_cons_succ, List.set_cons_zero]; go_big_quiet_on) | (go_big_quiet_op; go_big_quiet_on))))
    refine wpQuiet_nil ?_
    refine fl_call (by rfl) rfl (by kernel_rfl) (by simp only [List.map_toArray, List.map_cons, List.map_nil]; rfl) (fun w' hC => HUP.out g1 w' (F1.later (Kl.out hC)) (F4.later (Kl.out hC))) ?_
    simp only [Act.put, List.setIfInBounds_toArray, List.set_cons_succ, List.set_cons_zero]
    refine plan_bar ?_
    simp only [pickOps, opAt, List.getElem?_cons_succ, List.getElem?_cons_zero, List.nil_append, List.cons_append]
    (repeat (first | go_big_quiet_skip | (go_big_quiet_want; first | (refine plan_load_hash _ rfl rfl (by assumption) ?_; simp only [Act.put, List.setIfInBounds_toArray, List.set_cons_succ, List.set_cons_zero]; go_big_quiet_on) | (refine plan_load_one 3 _ rfl rfl (EvoAt.cd (by assumption)) (by kernel_rfl) ?_; simp only [Act.put, List.setIfInBounds_toArray, List.set_cons_succ, List.set_cons_zero]; go_big_quiet_on) | (refine plan_load_one 3 _ rfl rfl (EvoAt.cp (by assumption)) (by kernel_rfl) ?_; simp only [Act.put, List.setIfInBounds_toArray, List.set_cons_succ, List.set_cons_zero]; go_big_quiet_on) | (refine plan_load_one 24 _ rfl rfl (EvoAt.cr (by assumption)) (by kernel_rfl) ?_; simp only [Act.put, List.setIfInBounds_toArray, List.set_cons_succ, List.set_cons_zero]; go_big_quiet_on) | (refine plan_load_one 24 _ rfl rfl (EvoAt.cs (by assumption)) (by kernel_rfl) ?_; simp only [Act.put, List.setIfInBounds_toArray, List.set_cons_succ, List.set_cons_zero]; go_big_quiet_on) | (refine plan_load_leaf _ rfl rfl (by assumption) ?_; simp only [Act.put, List.setIfInBounds_toArray, List.set_cons_succ, List.set_cons_zero]; go_big_quiet_on) | (go_big_quiet_op; go_big_quiet_on))))
    refine wpQuiet_nil ?_
    intro _ _ k
    (try replace F1 := F1.later k); (try replace F2 := F2.later k); (try replace F3 := F3.later k); (try replace F4 := F4.later k); (try replace F5 := F5.later k); (try replace F6 := F6.later k); (try replace F7 := F7.later k); (try replace F8 := F8.later k); (try replace F9 := F9.later k); (try replace G1 := G1.later k); (try replace G2 := G2.later k); (try replace G3 := G3.later k); (try replace z := z.later k); (try replace b := later b k); (try replace bB := mixed hB bB k)
    clear k
    go_wp2_with (with_reducible show wpList _ _ _ (⟨_, Op.store _ _ _, _, _, _, _⟩ :: _) _ _; refine wpl_set_hash rfl _ _ rfl rfl rfl HRL.out F2 ?_; intro _ t1 ht; (try replace F1 := F1.tt ht); (try replace F2 := F2.tt ht); (try replace F3 := F3.tt ht); (try replace F4 := F4.tt ht); (try replace F5 := F5.tt ht); (try replace F6 := F6.tt ht); (try replace F7 := F7.tt ht); (try replace F8 := F8.tt ht); (try replace F9 := F9.tt ht); (try replace G1 := G1.tt ht); (try replace G2 := G2.tt ht); (try replace G3 := G3.tt ht); (try replace z := z.tt ht); (try replace b := below_touch b ht (by omega) (by omega)); (try replace bB := below_touch bB ht (by omega) hB); replace F2 := t1; clear ht)
    refine goB_since ?_
    refine plan_stop ?_
    simp only [pickOps, opAt, List.getElem?_cons_succ, List.getElem?_cons_zero, List.nil_append, List.cons_append]
    (repeat (first | go_big_quiet_skip | (go_big_quiet_want; first | (refine plan_load_hash _ rfl rfl (by assumption) ?_; simp only [Act.put, List.setIfInBounds_toArray, List.set_cons_succ, List.set_cons_zero]; go_big_quiet_on) | (refine plan_load_one 3 _ rfl rfl (EvoAt.cd (by assumption)) (by kernel_rfl) ?_; simp only [Act.put, List.setIfInBounds_toArray, List.set_cons_succ, List.set_cons_zero]; go_big_quiet_on) | (refine plan_load_one 3 _ rfl rfl (EvoAt.cp (by assumption)) (by kernel_rfl) ?_; simp only [Act.put, List.setIfInBounds_toArray, List.set_cons_succ, List.set_cons_zero]; go_big_quiet_on) | (refine plan_load_one 24 _ rfl rfl (EvoAt.cr (by assumption)) (by kernel_rfl) ?_; simp only [Act.put, List.setIfInBounds_toArray, List.set_cons_succ, List.set_cons_zero]; go_big_quiet_on) | (refine plan_load_one 24 _ rfl rfl (EvoAt.cs (by assumption)) (by kernel_rfl) ?_; simp only [Act.put, List.setIfInBounds_toArray, List.set_cons_succ, List.set_cons_zero]; go_big_quiet_on) | (refine plan_load_leaf _ rfl rfl (by assumption) ?_; simp only [Act.put, List.setIfInBounds_toArray, List.set_cons_succ, List.set_cons_zero]; go_big_quiet_on) | (go_big_quiet_op; go_big_quiet_on))))
    refine wpQuiet_nil ?_
    intro _ _ k
    (try replace F1 := F1.later k); (try replace F2 := F2.later k); (try replace F3 := F3.later k); (try replace F4 := F4.later k); (try replace F5 := F5.later k); (try replace F6 := F6.later k); (try replace F7 := F7.later k); (try replace F8 := F8.later k); (try replace F9 := F9.later k); (try replace G1 := G1.later k); (try replace G2 := G2.later k); (try replace G3 := G3.later k); (try replace z := z.later k); (try replace b := later b k); (try replace bB := mixed hB bB k)
    clear k
    go_wp2_with (with_reducible show bodyPost _ _ _ _ _ _; exact bodyPost_ret (ret_hash_tmp rfl _ _ _ rfl rfl (by assumption)) rfl ⟨rfl, by assumption⟩)
  · have he : errE k = 2 := by unfold errE; rw [if_neg hm]
    have hp : pubK k = zero32 := by unfold pubK; rw [if_neg hm]
    rw [hp, he]
    rw [he] at HM
    obtain ⟨kd, kp, leaf, right, side⟩ := k
    obtain ⟨rv, sv, rfl, F3, F4, hl⟩ := hk
    simp only at F3 F4 hl ⊢
    obtain ⟨ar, cr, rfl, _⟩ := F3.shape
    obtain ⟨as', cs', rfl, _⟩ := F4.shape
    have HL := hide hl
    have b := Below.refl w.heap.size w
    clear hm hl he hp
    unfold evV
    have mF1 := True.intro
    have mF2 := True.intro
    go_enter Try.func28, Try.ntmps28
    go_wp2_with (first | (with_reducible show wpList _ _ _ (⟨_, Op.load _ _, _, _, _, _⟩ :: _) _ _; first | (refine wpl_load_hash rfl _ rfl rfl (by assumption) ?_) | (refine wpl_load_one rfl 3 _ rfl rfl (EvoAt.cd (by assumption)) (by kernel_rfl) ?_) | (refine wpl_load_one rfl 3 _ rfl rfl (EvoAt.cp (by assumption)) (by kernel_rfl) ?_) | (refine wpl_load_one rfl 24 _ rfl rfl (EvoAt.cr (by assumption)) (by kernel_rfl) ?_) | (refine wpl_load_one rfl 24 _ rfl rfl (EvoAt.cs (by assumption)) (by kernel_rfl) ?_) | (refine wpl_load_leaf rfl _ rfl rfl (by assumption) ?_) | (refine wpl_load_evo rfl _ rfl rfl (by assumption) ?_)) | (with_reducible show wpList _ _ _ (⟨_, Op.box _ _, _, _, _, _⟩ :: _) _ _; clear mF1; refine wpl_box_evo rfl _ rfl rfl HL.out rfl rfl ?_; intro _ g1 hg1 F1 hb; (try have := F1.lt); (try have := F2.lt); (try have := F3.lt); (try have := F4.lt); (try have := F5.lt); (try have := F6.lt); (try have := F7.lt); (try have := F8.lt); (try have := F9.lt); (try have := z.lt); (try have := G1.lt); (try have := G2.lt); (try have := G3.lt); (try have := b.size); (try replace F1 := F1.later hb); (try replace F2 := F2.later hb); (try replace F3 := F3.later hb); (try replace F4 := F4.later hb); (try replace F5 := F5.later hb); (try replace F6 := F6.later hb); (try replace F7 := F7.later hb); (try replace F8 := F8.later hb); (try replace F9 := F9.later hb); (try replace G1 := G1.later hb); (try replace G2 := G2.later hb); (try replace G3 := G3.later hb); (try replace z := z.later hb); (try replace b := later b hb); (try replace bB := mixed hB bB hb); clear hb) | (with_reducible show wpList _ _ _ (⟨_, Op.alloc _, _, _, _, _⟩ :: _) _ _; clear mF2; refine wpl_mk_hash rfl rfl ?_; intro _ g2 hg2 F2 hb; (try have := F1.lt); (try have := F2.lt); (try have := F3.lt); (try have := F4.lt); (try have := F5.lt); (try have := F6.lt); (try have := F7.lt); (try have := F8.lt); (try have := F9.lt); (try have := z.lt); (try have := G1.lt); (try have := G2.lt); (try have := G3.lt); (try have := b.size); (try replace F1 := F1.later hb); (try replace F2 := F2.later hb); (try replace F3 := F3.later hb); (try replace F4 := F4.later hb); (try replace F5 := F5.later hb); (try replace F6 := F6.later hb); (try replace F7 := F7.later hb); (try replace F8 := F8.later hb); (try replace F9 := F9.later hb); (try replace G1 := G1.later hb); (try replace G2 := G2.later hb); (try replace G3 := G3.later hb); (try replace z := z.later hb); (try replace b := later b hb); (try replace bB := mixed hB bB hb); clear hb) | (go_at_call 27; refine (HM.out _ _ ⟨_, _, rfl, F3, F4, HL.out⟩).mono ?_; rintro _ _ ⟨rfl, hc⟩; (try replace F1 := F1.later hc); (try replace F2 := F2.later hc); (try replace F3 := F3.later hc); (try replace F4 := F4.later hc); (try replace F5 := F5.later hc); (try replace F6 := F6.later hc); (try replace F7 := F7.later hc); (try replace F8 := F8.later hc); (try replace F9 := F9.later hc); (try replace G1 := G1.later hc); (try replace G2 := G2.later hc); (try replace G3 := G3.later hc); (try replace z := z.later hc); (try replace b := later b hc); (try replace bB := mixed hB bB hc); clear hc) | (with_reducible show wpList _ _ _ (⟨_, Op.build _ _, _, _, _, _⟩ :: _) _ _; refine wpl_zero_hash rfl rfl ?_) | (with_reducible show wpList _ _ _ (⟨_, Op.store _ _ _, _, _, _, _⟩ :: _) _ _; refine wpl_set_hash rfl _ _ rfl rfl rfl rfl F2 ?_; intro _ t1 ht; (try replace F1 := F1.tt ht); (try replace F2 := F2.tt ht); (try replace F3 := F3.tt ht); (try replace F4 := F4.tt ht); (try replace F5 := F5.tt ht); (try replace F6 := F6.tt ht); (try replace F7 := F7.tt ht); (try replace F8 := F8.tt ht); (try replace F9 := F9.tt ht); (try replace G1 := G1.tt ht); (try replace G2 := G2.tt ht); (try replace G3 := G3.tt ht); (try replace z := z.tt ht); (try replace b := below_touch b ht (by omega) (by omega)); (try replace bB := below_touch bB ht (by omega) hB); replace F2 := t1; clear ht) | (with_reducible show bodyPost _ _ _ _ _ _; exact bodyPost_ret (ret_hash_tmp rfl _ _ _ rfl rfl (by assumption)) rfl ⟨rfl, by assumption⟩))
theorem EvoAt.below {w w' : World} {g : Nat} {d p : Int} {leaf : List UInt8} {rv sv : Value} (h : EvoAt w g d p leaf rv sv) {B : Nat} (hb : Below B w w') (hB : g < B) : EvoAt w' g d p leaf rv sv := ⟨h.len, h.r1, h.s1, h.arr.below hb hB⟩
/-- What a key signs a message by. -/
def sigK (k : Evo) (m : List UInt8) : List UInt8 := if mayE k then signL k.leaf m ++ k.side.flatten else []
set_option maxRecDepth 100000 in
set_option maxHeartbeats 1600000 in
theorem evoSign_any (k : Evo) (m : List UInt8) (v : Value) (w : World) (hk : EvoIs w v k) (hml : m.length = 32) :
    Calls Try.prog 22 #[v, hv m] w fun e w' => e = .returned (.tuple #[.string ⟨(sigK k m).toArray⟩, .int .i64 (errE k)]) ∧ Below w.heap.size w w' := by
  have HM := hide (fun v w h => evoMay_any k v w h)
  have ML := hide hml
  by_cases hm : mayE k = true
  · obtain ⟨d, p, hd, hp, hd4, _, hp16, hrl, hsl, _⟩ := mayE_is hm
    obtain ⟨R, hR⟩ : ∃ R, R = sigK k m := ⟨_, rfl⟩
    obtain ⟨kd, kp, leaf, right, side⟩ := k
    simp only at hd hp hrl hsl
    subst hd
    subst hp
    have he : errE ⟨(d : Int), p, leaf, right, side⟩ = 0 := by unfold errE; rw [if_pos hm]
    rw [← hR, he]
    rw [he] at HM
    unfold sigK at hR
    rw [if_pos hm] at hR
    simp only at hR
    obtain ⟨rv, sv, rfl, h3, h4, hl⟩ := hk
    simp only at h3 h4 hl ⊢
    obtain ⟨ar, cr, rfl, _⟩ := h3.shape
    obtain ⟨as', cs', rfl, _⟩ := h4.shape
    rw [hrl] at h3 ⊢
    rw [hsl] at h4 ⊢
    have F3 := HsU.of h3 (Nat.le_refl _)
    have F4 := HsU.of h4 (Nat.le_refl _)
    have HSL := hide hsl
    have HL := hide hl
    have HSG := hide (fun w => sign_any leaf m hl hml w)
    have HSGL := hide (signL_length leaf m)
    have b := Below.refl w.heap.size w
    generalize signL leaf m = G at *
    have HR : Hid (G ++ (side.take d).flatten = R) := by rw [hR, List.take_of_length_le (by omega)]; rfl
    clear hR hm hl hrl hsl he hml h3 h4
    unfold evV hv
    have mF1 := True.intro
    have mF2 := True.intro
    have mF5 := True.intro
    go_enter Try.func22, Try.ntmps22
    go_wp2_with (first | (with_reducible show wpList _ _ _ (⟨_, Op.load _ _, _, _, _, _⟩ :: _) _ _; first | (refine wpl_load_hash rfl _ rfl rfl (by assumption) ?_) | (refine wpl_load_one rfl 3 _ rfl rfl (EvoAt.cd (by assumption)) (by kernel_rfl) ?_) | (refine wpl_load_one rfl 3 _ rfl rfl (EvoAt.cp (by assumption)) (by kernel_rfl) ?_) | (refine wpl_load_one rfl 24 _ rfl rfl (EvoAt.cr (by assumption)) (by kernel_rfl) ?_) | (refine wpl_load_one rfl 24 _ rfl rfl (EvoAt.cs (by assumption)) (by kernel_rfl) ?_) | (refine wpl_load_leaf rfl _ rfl rfl (by assumption) ?_) | (refine wpl_load_evo rfl _ rfl rfl (by assumption) ?_)) | (with_reducible show wpList _ _ _ (⟨_, Op.box _ _, _, _, _, _⟩ :: _) _ _; clear mF1; refine wpl_box_evo rfl _ rfl rfl HL.out rfl rfl ?_; intro _ g1 hg1 F1 hb; (try have := F1.lt); (try have := F2.lt); (try have := F3.lt); (try have := F4.lt); (try have := F5.lt); (try have := F6.lt); (try have := F7.lt); (try have := F8.lt); (try have := F9.lt); (try have := z.lt); (try have := G1.lt); (try have := G2.lt); (try have := G3.lt); (try have := b.size); (try replace F1 := F1.later hb); (try replace F2 := F2.later hb); (try replace F3 := F3.later hb); (try replace F4 := F4.later hb); (try replace F5 := F5.later hb); (try replace F6 := F6.later hb); (try replace F7 := F7.later hb); (try replace F8 := F8.later hb); (try replace F9 := F9.later hb); (try replace G1 := G1.later hb); (try replace G2 := G2.later hb); (try replace G3 := G3.later hb); (try replace z := z.later hb); (try replace b := later b hb); (try replace bB := mixed hB bB hb); clear hb) | (with_reducible show wpList _ _ _ (⟨_, Op.box _ _, _, _, _, _⟩ :: _) _ _; clear mF2; refine wpl_box_hash rfl _ rfl rfl ML.out ?_; intro _ g2 hg2 F2 hb; (try have := F1.lt); (try have := F2.lt); (try have := F3.lt); (try have := F4.lt); (try have := F5.lt); (try have := F6.lt); (try have := F7.lt); (try have := F8.lt); (try have := F9.lt); (try have := z.lt); (try have := G1.lt); (try have := G2.lt); (try have := G3.lt); (try have := b.size); (try replace F1 := F1.later hb); (try replace F2 := F2.later hb); (try replace F3 := F3.later hb); (try replace F4 := F4.later hb); (try replace F5 := F5.later hb); (try replace F6 := F6.later hb); (try replace F7 := F7.later hb); (try replace F8 := F8.later hb); (try replace F9 := F9.later hb); (try replace G1 := G1.later hb); (try replace G2 := G2.later hb); (try replace G3 := G3.later hb); (try replace z := z.later hb); (try replace b := later b hb); (try replace bB := mixed hB bB hb); clear hb) | (with_reducible show wpList _ _ _ (⟨_, Op.alloc _, _, _, _, _⟩ :: _) _ _; clear mF5; refine wpl_mk_bld rfl rfl ?_; intro _ g3 hg3 F5 hb; replace F5 := Bld.st F5; (try have := F1.lt); (try have := F2.lt); (try have := F3.lt); (try have := F4.lt); (try have := F5.lt); (try have := F6.lt); (try have := F7.lt); (try have := F8.lt); (try have := F9.lt); (try have := z.lt); (try have := G1.lt); (try have := G2.lt); (try have := G3.lt); (try have := b.size); (try replace F1 := F1.later hb); (try replace F2 := F2.later hb); (try replace F3 := F3.later hb); (try replace F4 := F4.later hb); (try replace F5 := F5.later hb); (try replace F6 := F6.later hb); (try replace F7 := F7.later hb); (try replace F8 := F8.later hb); (try replace F9 := F9.later hb); (try replace G1 := G1.later hb); (try replace G2 := G2.later hb); (try replace G3 := G3.later hb); (try replace z := z.later hb); (try replace b := later b hb); (try replace bB := mixed hB bB hb); clear hb) | (go_at_call 27; refine (HM.out _ _ ⟨_, _, rfl, F3.1, F4.1, HL.out⟩).mono ?_; rintro _ _ ⟨rfl, hc⟩; (try replace F1 := F1.later hc); (try replace F2 := F2.later hc); (try replace F3 := F3.later hc); (try replace F4 := F4.later hc); (try replace F5 := F5.later hc); (try replace F6 := F6.later hc); (try replace F7 := F7.later hc); (try replace F8 := F8.later hc); (try replace F9 := F9.later hc); (try replace G1 := G1.later hc); (try replace G2 := G2.later hc); (try replace G3 := G3.later hc); (try replace z := z.later hc); (try replace b := later b hc); (try replace bB := mixed hB bB hc); clear hc) | (go_at_call 62; refine (HSG.out _).mono ?_; rintro _ _ ⟨rfl, hc⟩; (try replace F1 := F1.later hc); (try replace F2 := F2.later hc); (try replace F3 := F3.later hc); (try replace F4 := F4.later hc); (try replace F5 := F5.later hc); (try replace F6 := F6.later hc); (try replace F7 := F7.later hc); (try replace F8 := F8.later hc); (try replace F9 := F9.later hc); (try replace G1 := G1.later hc); (try replace G2 := G2.later hc); (try replace G3 := G3.later hc); (try replace z := z.later hc); (try replace b := later b hc); (try replace bB := mixed hB bB hc); clear hc) | (go_at_call 61; have := (F5).now.lt; refine (bld_write _ _ G _ (F5).now (by rw [HSGL.out]; decide)).mono ?_; rintro _ _ ⟨rfl, t1, hc⟩; (try replace F1 := F1.below hc (by omega)); (try replace F2 := F2.below hc (by omega)); (try replace F3 := F3.below hc (by omega)); (try replace F4 := F4.below hc (by omega)); (try replace F5 := F5.below hc (by omega)); (try replace F6 := F6.below hc (by omega)); (try replace F7 := F7.below hc (by omega)); (try replace F8 := F8.below hc (by omega)); (try replace F9 := F9.below hc (by omega)); (try replace G1 := G1.below hc (by omega)); (try replace G2 := G2.below hc (by omega)); (try replace G3 := G3.below hc (by omega)); (try replace z := z.below hc (by omega)); (try replace b := below_more b hc (by omega)); (try replace bB := below_more bB hc (by omega)); replace F5 := Bld.st t1; clear hc t1))
    rw [List.nil_append] at F5
    have hg3w : w.heap.size ≤ g3 := by omega
    go_loopw [23] (fun i wr => ∃ j : Nat, i = .int .i64 j ∧ j ≤ d ∧ (∃ mb, Stab (fun w => Bld w g3 (G ++ (side.take j).flatten)) mb wr) ∧ HsU wr (.slice as' d cs') side w.heap.size ∧ Below w.heap.size w wr) (fun i _ => d - (RowKit.intOf i).toNat)
    case atStart => exact ⟨0, rfl, by omega, ⟨_, by rw [List.take_zero, List.flatten_nil, List.append_nil]; exact F5⟩, F4, b⟩
    case round =>
      clear F1 F2 F3 F4 F5 b
      obtain ⟨j, rfl, hj, ⟨mb, F5⟩, F4, b⟩ := hrel
      by_cases hlt : j < d
      · obtain ⟨b0, k0, cap0, hv0, _, _, _, hcs0⟩ := F4.1.block (by rw [HSL.out]; omega)
        simp only [Value.slice.injEq] at hv0
        obtain ⟨rfl, -, rfl⟩ := hv0
        have F6 := hcs0 j (by rw [HSL.out]; exact hlt)
        have xl := side_len F4.1 (i := j) (by rw [HSL.out]; exact hlt)
        have HT : Hid (G ++ (side.take (j + 1)).flatten = (G ++ (side.take j).flatten) ++ side.getD j []) := by
          have hlt' : j < side.length := by rw [HSL.out]; exact hlt
          unfold Hid
          rw [List.take_succ_eq_append_getElem hlt', List.flatten_append]
          simp [List.getD_eq_getElem?_getD, List.getElem?_eq_getElem hlt']
        have HB := hide (fun w => bytes_any _ w xl)
        have HZ : Hid ((G ++ (side.take j).flatten).length + (side.getD j []).length ≤ 140737488355328) := by
          have h2 : ((side.take j).flatten).length = j * 32 := by
            rw [List.length_flatten]
            have : (side.take j).map List.length = List.replicate j 32 := by
              rw [List.eq_replicate_iff]
              refine ⟨by rw [List.length_map, List.length_take, HSL.out]; omega, fun b hb => ?_⟩
              obtain ⟨y, hy, rfl⟩ := List.mem_map.1 hb
              exact F4.1.2 y (List.mem_of_mem_take hy)
            rw [this, List.sum_replicate_nat]
          unfold Hid
          rw [List.length_append, HSGL.out, h2, xl]
          omega
        have XL := hide xl
        clear hcs0 xl
        generalize side.getD j [] = x at *
        generalize G ++ (side.take j).flatten = Y at *
        have mF9 := True.intro
        go_wp2_with (first | (with_reducible show wpList _ _ _ (⟨_, Op.load _ _, _, _, _, _⟩ :: _) _ _; refine wpl_load_elem rfl _ rfl rfl F6 XL.out ?_) | (with_reducible show wpList _ _ _ (⟨_, Op.load _ _, _, _, _, _⟩ :: _) _ _; first | (refine wpl_load_hash rfl _ rfl rfl (by assumption) ?_) | (refine wpl_load_one rfl 3 _ rfl rfl (EvoAt.cd (by assumption)) (by kernel_rfl) ?_) | (refine wpl_load_one rfl 3 _ rfl rfl (EvoAt.cp (by assumption)) (by kernel_rfl) ?_) | (refine wpl_load_one rfl 24 _ rfl rfl (EvoAt.cr (by assumption)) (by kernel_rfl) ?_) | (refine wpl_load_one rfl 24 _ rfl rfl (EvoAt.cs (by assumption)) (by kernel_rfl) ?_) | (refine wpl_load_leaf rfl _ rfl rfl (by assumption) ?_) | (refine wpl_load_evo rfl _ rfl rfl (by assumption) ?_)) | (with_reducible show wpList _ _ _ (⟨_, Op.alloc _, _, _, _, _⟩ :: _) _ _; clear mF9; refine wpl_mk_hash rfl rfl ?_; intro _ g9 hg9 F9 hb; (try have := F1.lt); (try have := F2.lt); (try have := F3.lt); (try have := F4.lt); (try have := F5.lt); (try have := F6.lt); (try have := F7.lt); (try have := F8.lt); (try have := F9.lt); (try have := z.lt); (try have := G1.lt); (try have := G2.lt); (try have := G3.lt); (try have := b.size); (try replace F1 := F1.later hb); (try replace F2 := F2.later hb); (try replace F3 := F3.later hb); (try replace F4 := F4.later hb); (try replace F5 := F5.later hb); (try replace F6 := F6.later hb); (try replace F7 := F7.later hb); (try replace F8 := F8.later hb); (try replace F9 := F9.later hb); (try replace G1 := G1.later hb); (try replace G2 := G2.later hb); (try replace G3 := G3.later hb); (try replace z := z.later hb); (try replace b := later b hb); (try replace bB := mixed hB bB hb); clear hb) | (with_reducible show wpList _ _ _ (⟨_, Op.store _ _ _, _, _, _, _⟩ :: _) _ _; refine wpl_set_hash rfl _ _ rfl rfl rfl XL.out F9 ?_; intro _ t1 ht; (try replace F1 := F1.tt ht); (try replace F2 := F2.tt ht); (try replace F3 := F3.tt ht); (try replace F4 := F4.tt ht); (try replace F5 := F5.tt ht); (try replace F6 := F6.tt ht); (try replace F7 := F7.tt ht); (try replace F8 := F8.tt ht); (try replace F9 := F9.tt ht); (try replace G1 := G1.tt ht); (try replace G2 := G2.tt ht); (try replace G3 := G3.tt ht); (try replace z := z.tt ht); (try replace b := below_touch b ht (by omega) (by omega)); (try replace bB := below_touch bB ht (by omega) hB); replace F9 := t1; clear ht) | (go_at_call 63; refine (HB.out _).mono ?_; rintro _ _ ⟨rfl, hc⟩; (try replace F1 := F1.later hc); (try replace F2 := F2.later hc); (try replace F3 := F3.later hc); (try replace F4 := F4.later hc); (try replace F5 := F5.later hc); (try replace F6 := F6.later hc); (try replace F7 := F7.later hc); (try replace F8 := F8.later hc); (try replace F9 := F9.later hc); (try replace G1 := G1.later hc); (try replace G2 := G2.later hc); (try replace G3 := G3.later hc); (try replace z := z.later hc); (try replace b := later b hc); (try replace bB := mixed hB bB hc); clear hc) | (go_at_call 61; have := (F5).now.lt; refine (bld_write _ _ x _ (F5).now HZ.out).mono ?_; rintro _ _ ⟨rfl, t1, hc⟩; (try replace F1 := F1.below hc (by omega)); (try replace F2 := F2.below hc (by omega)); (try replace F3 := F3.below hc (by omega)); (try replace F4 := F4.below hc (by omega)); (try replace F5 := F5.below hc (by omega)); (try replace F6 := F6.below hc (by omega)); (try replace F7 := F7.below hc (by omega)); (try replace F8 := F8.below hc (by omega)); (try replace F9 := F9.below hc (by omega)); (try replace G1 := G1.below hc (by omega)); (try replace G2 := G2.below hc (by omega)); (try replace G3 := G3.below hc (by omega)); (try replace z := z.below hc (by omega)); (try replace b := below_more b hc (by omega)); (try replace bB := below_more bB hc (by omega)); replace F5 := Bld.st t1; clear hc t1))
        rw [← HT.out] at F5
        go_roundw
        case rel => exact ⟨j + 1, by simp, by omega, ⟨_, F5⟩, F4, b⟩
        case measure => simp [RowKit.intOf]; omega
      · obtain rfl : j = d := by omega
        rw [HR.out] at F5
        go_wp2_with (first | (with_reducible show wpList _ _ _ (⟨_, Op.load _ _, _, _, _, _⟩ :: _) _ _; first | (refine wpl_load_hash rfl _ rfl rfl (by assumption) ?_) | (refine wpl_load_one rfl 3 _ rfl rfl (EvoAt.cd (by assumption)) (by kernel_rfl) ?_) | (refine wpl_load_one rfl 3 _ rfl rfl (EvoAt.cp (by assumption)) (by kernel_rfl) ?_) | (refine wpl_load_one rfl 24 _ rfl rfl (EvoAt.cr (by assumption)) (by kernel_rfl) ?_) | (refine wpl_load_one rfl 24 _ rfl rfl (EvoAt.cs (by assumption)) (by kernel_rfl) ?_) | (refine wpl_load_leaf rfl _ rfl rfl (by assumption) ?_) | (refine wpl_load_evo rfl _ rfl rfl (by assumption) ?_)) | (go_at_call 64; refine (bld_string _ _ _ (F5).now).mono ?_; rintro _ _ ⟨rfl, hc⟩; (try replace F1 := F1.below hc (by omega)); (try replace F2 := F2.below hc (by omega)); (try replace F3 := F3.below hc (by omega)); (try replace F4 := F4.below hc (by omega)); (try replace F5 := F5.below hc (by omega)); (try replace F6 := F6.below hc (by omega)); (try replace F7 := F7.below hc (by omega)); (try replace F8 := F8.below hc (by omega)); (try replace F9 := F9.below hc (by omega)); (try replace G1 := G1.below hc (by omega)); (try replace G2 := G2.below hc (by omega)); (try replace G3 := G3.below hc (by omega)); (try replace z := z.below hc (by omega)); (try replace b := below_more b hc (by omega)); (try replace bB := below_more bB hc (by omega)); clear hc))
        go_ret2
        exact ⟨rfl, b⟩
  · have he : errE k = 2 := by unfold errE; rw [if_neg hm]
    have hp : sigK k m = [] := by unfold sigK; rw [if_neg hm]
    rw [hp, he]
    rw [he] at HM
    obtain ⟨kd, kp, leaf, right, side⟩ := k
    obtain ⟨rv, sv, rfl, F3, F4, hl⟩ := hk
    simp only at F3 F4 hl ⊢
    obtain ⟨ar, cr, rfl, _⟩ := F3.shape
    obtain ⟨as', cs', rfl, _⟩ := F4.shape
    have HL := hide hl
    have b := Below.refl w.heap.size w
    clear hm hl he hp hml
    unfold evV hv
    have mF1 := True.intro
    have mF2 := True.intro
    go_enter Try.func22, Try.ntmps22
    go_wp2_with (first | (with_reducible show wpList _ _ _ (⟨_, Op.load _ _, _, _, _, _⟩ :: _) _ _; first | (refine wpl_load_hash rfl _ rfl rfl (by assumption) ?_) | (refine wpl_load_one rfl 3 _ rfl rfl (EvoAt.cd (by assumption)) (by kernel_rfl) ?_) | (refine wpl_load_one rfl 3 _ rfl rfl (EvoAt.cp (by assumption)) (by kernel_rfl) ?_) | (refine wpl_load_one rfl 24 _ rfl rfl (EvoAt.cr (by assumption)) (by kernel_rfl) ?_) | (refine wpl_load_one rfl 24 _ rfl rfl (EvoAt.cs (by assumption)) (by kernel_rfl) ?_) | (refine wpl_load_leaf rfl _ rfl rfl (by assumption) ?_) | (refine wpl_load_evo rfl _ rfl rfl (by assumption) ?_)) | (with_reducible show wpList _ _ _ (⟨_, Op.box _ _, _, _, _, _⟩ :: _) _ _; clear mF1; refine wpl_box_evo rfl _ rfl rfl HL.out rfl rfl ?_; intro _ g1 hg1 F1 hb; (try have := F1.lt); (try have := F2.lt); (try have := F3.lt); (try have := F4.lt); (try have := F5.lt); (try have := F6.lt); (try have := F7.lt); (try have := F8.lt); (try have := F9.lt); (try have := z.lt); (try have := G1.lt); (try have := G2.lt); (try have := G3.lt); (try have := b.size); (try replace F1 := F1.later hb); (try replace F2 := F2.later hb); (try replace F3 := F3.later hb); (try replace F4 := F4.later hb); (try replace F5 := F5.later hb); (try replace F6 := F6.later hb); (try replace F7 := F7.later hb); (try replace F8 := F8.later hb); (try replace F9 := F9.later hb); (try replace G1 := G1.later hb); (try replace G2 := G2.later hb); (try replace G3 := G3.later hb); (try replace z := z.later hb); (try replace b := later b hb); (try replace bB := mixed hB bB hb); clear hb) | (with_reducible show wpList _ _ _ (⟨_, Op.box _ _, _, _, _, _⟩ :: _) _ _; clear mF2; refine wpl_box_hash rfl _ rfl rfl ML.out ?_; intro _ g2 hg2 F2 hb; (try have := F1.lt); (try have := F2.lt); (try have := F3.lt); (try have := F4.lt); (try have := F5.lt); (try have := F6.lt); (try have := F7.lt); (try have := F8.lt); (try have := F9.lt); (try have := z.lt); (try have := G1.lt); (try have := G2.lt); (try have := G3.lt); (try have := b.size); (try replace F1 := F1.later hb); (try replace F2 := F2.later hb); (try replace F3 := F3.later hb); (try replace F4 := F4.later hb); (try replace F5 := F5.later hb); (try replace F6 := F6.later hb); (try replace F7 := F7.later hb); (try replace F8 := F8.later hb); (try replace F9 := F9.later hb); (try replace G1 := G1.later hb); (try replace G2 := G2.later hb); (try replace G3 := G3.later hb); (try replace z := z.later hb); (try replace b := later b hb); (try replace bB := mixed hB bB hb); clear hb) | (go_at_call 27; refine (HM.out _ _ ⟨_, _, rfl, F3, F4, HL.out⟩).mono ?_; rintro _ _ ⟨rfl, hc⟩; (try replace F1 := F1.later hc); (try replace F2 := F2.later hc); (try replace F3 := F3.later hc); (try replace F4 := F4.later hc); (try replace F5 := F5.later hc); (try replace F6 := F6.later hc); (try replace F7 := F7.later hc); (try replace F8 := F8.later hc); (try replace F9 := F9.later hc); (try replace G1 := G1.later hc); (try replace G2 := G2.later hc); (try replace G3 := G3.later hc); (try replace z := z.later hc); (try replace b := later b hc); (try replace bB := mixed hB bB hc); clear hc))
    go_ret2
    exact ⟨rfl, b⟩
end Go.Proofs.Ytofjjpielkfloaa
