/- The small things that the laws of layer 6 ask first. -/
import Derived.Test.YtofjjpielkfloaaEvoLaw
import Derived.Test.YtofjjpielkfloaaEvoNum1
import Derived.Test.YtofjjpielkfloaaEvoNum2
namespace Go.Proofs.Ytofjjpielkfloaa
open Go.RowKit Go.Lib
set_option linter.unusedVariables false
set_option linter.unusedSimpArgs false

set_option maxRecDepth 1000000 in
theorem num_sums : decide (sumL numB numA = sumL numA numB) = false := by decide +kernel
theorem firstE_one (s : List UInt8) : firstE 1 s = ⟨1, 0, leftL s, [rightL s], [publicL (rightL s)]⟩ := rfl
theorem mayE_one0 (a b c : List UInt8) : mayE ⟨1, 0, a, [b], [c]⟩ = true := by kernel_rfl
theorem mayE_one1 (a c : List UInt8) : mayE ⟨1, 1, a, [zero32], [c]⟩ = true := by kernel_rfl
theorem nextK_one (a b c : List UInt8) : nextK ⟨1, 0, a, [b], [c]⟩ = (⟨1, 1, b, [zero32], [publicL a]⟩, 0) := by
  unfold nextK
  rw [if_pos (mayE_one0 a b c)]
  kernel_rfl
theorem pubK_one (a b c : List UInt8) : pubK ⟨1, 0, a, [b], [c]⟩ = sumL (publicL a) c := by
  unfold pubK
  rw [if_pos (mayE_one0 a b c)]
  kernel_rfl
set_option maxRecDepth 100000 in
set_option maxHeartbeats 1600000 in
theorem works06 (w : World) : Calls Try.prog 19 #[] w fun e w' => e = .returned (.bool true) ∧ Below w.heap.size w w' := by
  have l1 : one32.length = 32 := rfl
  have l2 : two32.length = 32 := rfl
  have HMK0 : Hid (∀ w, Calls Try.prog 17 #[hv one32, .int .i64 1] w (EvoR w (firstE 1 one32) 0)) := fun w => make_in 1 one32 (by decide) l1 w
  have ha : publicL (leftL one32) = numA := numA_is
  have hb : publicL (rightL one32) = numB := numB_is
  rw [firstE_one, hb] at HMK0
  have lL := leftL_length one32
  have lR := rightL_length one32
  generalize leftL one32 = L at *
  generalize rightL one32 = Rr at *
  have lA : numA.length = 32 := rfl
  have lB : numB.length = 32 := rfl
  have hsum : decide (sumL numB numA = sumL numA numB) = false := num_sums
  generalize numA = A at *
  generalize numB = Bn at *
  have HPBe : pubK ⟨1, 0, L, [Rr], [Bn]⟩ = sumL A Bn := by rw [pubK_one, ha]
  have HNXe : nextK ⟨1, 0, L, [Rr], [Bn]⟩ = (⟨1, 1, Rr, [zero32], [A]⟩, 0) := by rw [nextK_one, ha]
  have hP : (sumL A Bn).length = 32 := sumL_length _ _
  obtain ⟨S, hS⟩ : ∃ S : ByteArray, S = ⟨(sigK ⟨1, 1, Rr, [zero32], [A]⟩ two32).toArray⟩ := ⟨_, rfl⟩
  have hw : Whole ⟨1, 1, Rr, [zero32], [A]⟩ := ⟨lR, by intro x hx; simp at hx; subst hx; rfl, by intro x hx; simp at hx; subst hx; exact lA⟩
  have hSs : S.size ≤ 1099511627776 := by
    have := sig_size two32 hw (mayE_one1 Rr A)
    rw [← hS] at this
    simp at this
    omega
  have HC1 : Hid (∀ w, Calls Try.prog 32 #[hv (sumL A Bn), .int .i64 1, .int .i64 1, hv two32, .string S] w fun e w' => e = .returned (.bool true) ∧ Below w.heap.size w w') := fun w => by
    have := evoCheck_any (sumL A Bn) two32 1 1 S w hP l2 hSs
    rw [hS, check_sig two32 _ 1 hw (mayE_one1 Rr A), hb, ← hS] at this
    rwa [show (perB 1 1 && decide (upE (1 : Int).toNat (1 : Int).toNat 0 (fun i => [A].getD i []) (1 : Int).toNat Bn = sumL A Bn)) = true from by
      rw [show upE (1 : Int).toNat (1 : Int).toNat 0 (fun i => [A].getD i []) (1 : Int).toNat Bn = sumL A Bn from rfl, decide_eq_true rfl]; rfl] at this
  have HC2 : Hid (∀ w, Calls Try.prog 32 #[hv (sumL A Bn), .int .i64 1, .int .i64 0, hv two32, .string S] w fun e w' => e = .returned (.bool false) ∧ Below w.heap.size w w') := fun w => by
    have := evoCheck_any (sumL A Bn) two32 1 0 S w hP l2 hSs
    rw [hS, check_sig two32 _ 0 hw (mayE_one1 Rr A), hb, ← hS] at this
    rwa [show (perB 1 0 && decide (upE (1 : Int).toNat (0 : Int).toNat 0 (fun i => [A].getD i []) (1 : Int).toNat Bn = sumL A Bn)) = false from by
      rw [show upE (1 : Int).toNat (0 : Int).toNat 0 (fun i => [A].getD i []) (1 : Int).toNat Bn = sumL Bn A from rfl, hsum]; rfl] at this
  have HSG : Hid (∀ v w, EvoIs w v ⟨1, 1, Rr, [zero32], [A]⟩ → Calls Try.prog 22 #[v, hv two32] w fun e w' => e = .returned (.tuple #[.string S, .int .i64 0]) ∧ Below w.heap.size w w') := fun v w h => by
    have := evoSign_any _ two32 v w h l2
    rwa [← hS, show errE ⟨1, 1, Rr, [zero32], [A]⟩ = 0 by unfold errE; rw [if_pos (mayE_one1 Rr A)]] at this
  have HPB : Hid (∀ v w, EvoIs w v ⟨1, 0, L, [Rr], [Bn]⟩ → Calls Try.prog 28 #[v] w fun e w' => e = .returned (.tuple #[hv (sumL A Bn), .int .i64 0]) ∧ Below w.heap.size w w') := fun v w h => by
    have := evoPublic_any _ v w h
    rwa [HPBe, show errE ⟨1, 0, L, [Rr], [Bn]⟩ = 0 by unfold errE; rw [if_pos (mayE_one0 L Rr Bn)]] at this
  have HNX : Hid (∀ v w, EvoIs w v ⟨1, 0, L, [Rr], [Bn]⟩ → Calls Try.prog 18 #[v] w (EvoR w ⟨1, 1, Rr, [zero32], [A]⟩ 0)) := fun v w h => by
    have := evoNext_any _ v w h
    rwa [HNXe] at this
  generalize sumL A Bn = P at *
  have HP := hide hP
  have HL := hide lL
  have HRr := hide lR
  have B1 := hide built_one
  have B2 := hide built_two
  generalize one32 = o1 at *
  generalize two32 = o2 at *
  have HL2 := hide l2
  have b := Below.refl w.heap.size w
  clear hP lL lR lA lB hsum HPBe HNXe hS hw hSs l1 l2 ha hb
  have mF1 := True.intro
  have mF2 := True.intro
  have mF5 := True.intro
  go_enter Try.func19, Try.ntmps19
  go_wp2_with ((with_reducible show wpList _ _ _ (⟨_, Op.build _ _, _, _, _, _⟩ :: _) _ _); first | refine wpl_built1 rfl 23 _ rfl rfl B1.out ?_ | refine wpl_built1 rfl 23 _ rfl rfl B2.out ?_)
  refine (HMK0.out _).mono ?_
  rintro _ w1 ⟨v, rfl, ⟨rv, sv, rfl, h3, h4, hl⟩, hc⟩
  obtain ⟨ar, cr, rfl, _⟩ := h3.shape
  obtain ⟨as', cs', rfl, _⟩ := h4.shape
  have F3 := h3.st
  have F4 := h4.st
  simp only [List.length_cons, List.length_nil, Nat.zero_add] at F3 F4 ⊢
  clear h3 h4 hl
  (try replace F1 := F1.later hc); (try replace F2 := F2.later hc); (try replace F3 := F3.later hc); (try replace F4 := F4.later hc); (try replace F5 := F5.later hc); (try replace F6 := F6.later hc); (try replace F7 := F7.later hc); (try replace F8 := F8.later hc); (try replace F9 := F9.later hc); (try replace G1 := G1.later hc); (try replace G2 := G2.later hc); (try replace G3 := G3.later hc); (try replace z := z.later hc); (try replace b := later b hc); (try replace bB := mixed hB bB hc)
  clear hc
  go_wp2_with (first | ((with_reducible show wpList _ _ _ (⟨_, Op.build _ _, _, _, _, _⟩ :: _) _ _); first | refine wpl_built1 rfl 23 _ rfl rfl B1.out ?_ | refine wpl_built1 rfl 23 _ rfl rfl B2.out ?_) | (with_reducible show wpList _ _ _ (⟨_, Op.load _ _, _, _, _, _⟩ :: _) _ _; first | (refine wpl_load_hash rfl _ rfl rfl (by assumption) ?_) | (refine wpl_load_one rfl 3 _ rfl rfl (EvoAt.cd (by assumption)) (by kernel_rfl) ?_) | (refine wpl_load_one rfl 3 _ rfl rfl (EvoAt.cp (by assumption)) (by kernel_rfl) ?_) | (refine wpl_load_one rfl 24 _ rfl rfl (EvoAt.cr (by assumption)) (by kernel_rfl) ?_) | (refine wpl_load_one rfl 24 _ rfl rfl (EvoAt.cs (by assumption)) (by kernel_rfl) ?_) | (refine wpl_load_leaf rfl _ rfl rfl (by assumption) ?_) | (refine wpl_load_evo rfl _ rfl rfl (by assumption) ?_)) | (with_reducible show wpList _ _ _ (⟨_, Op.alloc _, _, _, _, _⟩ :: _) _ _; clear mF1; refine wpl_mk_evo rfl rfl ?_; intro _ g1 hg1 F1 hb; (try have := F1.lt); (try have := F2.lt); (try have := F3.lt); (try have := F4.lt); (try have := F5.lt); (try have := F6.lt); (try have := F7.lt); (try have := F8.lt); (try have := F9.lt); (try have := z.lt); (try have := G1.lt); (try have := G2.lt); (try have := G3.lt); (try have := b.size); (try replace F1 := F1.later hb); (try replace F2 := F2.later hb); (try replace F3 := F3.later hb); (try replace F4 := F4.later hb); (try replace F5 := F5.later hb); (try replace F6 := F6.later hb); (try replace F7 := F7.later hb); (try replace F8 := F8.later hb); (try replace F9 := F9.later hb); (try replace G1 := G1.later hb); (try replace G2 := G2.later hb); (try replace G3 := G3.later hb); (try replace z := z.later hb); (try replace b := later b hb); (try replace bB := mixed hB bB hb); clear hb) | (with_reducible show wpList _ _ _ (⟨_, Op.store _ _ _, _, _, _, _⟩ :: _) _ _; refine wpl_set_evo rfl _ _ rfl rfl rfl HL.out rfl rfl F1 ?_; intro _ t1 ht; (try replace F1 := F1.tt ht); (try replace F2 := F2.tt ht); (try replace F3 := F3.tt ht); (try replace F4 := F4.tt ht); (try replace F5 := F5.tt ht); (try replace F6 := F6.tt ht); (try replace F7 := F7.tt ht); (try replace F8 := F8.tt ht); (try replace F9 := F9.tt ht); (try replace G1 := G1.tt ht); (try replace G2 := G2.tt ht); (try replace G3 := G3.tt ht); (try replace z := z.tt ht); (try replace b := below_touch b ht (by omega) (by omega)); (try replace bB := below_touch bB ht (by omega) hB); replace F1 := t1; clear ht))
  refine (HNX.out _ _ ⟨_, _, rfl, F3.now, F4.now, HL.out⟩).mono ?_
  rintro _ w2 ⟨v, rfl, ⟨rv, sv, rfl, h3, h4, hl⟩, hc⟩
  obtain ⟨ar2, cr2, rfl, _⟩ := h3.shape
  obtain ⟨as2, cs2, rfl, _⟩ := h4.shape
  have F6 := h3.st
  have F7 := h4.st
  simp only [List.length_cons, List.length_nil, Nat.zero_add] at F6 F7 ⊢
  clear h3 h4 hl
  (try replace F1 := F1.later hc); (try replace F2 := F2.later hc); (try replace F3 := F3.later hc); (try replace F4 := F4.later hc); (try replace F5 := F5.later hc); (try replace F6 := F6.later hc); (try replace F7 := F7.later hc); (try replace F8 := F8.later hc); (try replace F9 := F9.later hc); (try replace G1 := G1.later hc); (try replace G2 := G2.later hc); (try replace G3 := G3.later hc); (try replace z := z.later hc); (try replace b := later b hc); (try replace bB := mixed hB bB hc)
  clear hc
  go_wp2_with (first | ((with_reducible show wpList _ _ _ (⟨_, Op.build _ _, _, _, _, _⟩ :: _) _ _); first | refine wpl_built1 rfl 23 _ rfl rfl B1.out ?_ | refine wpl_built1 rfl 23 _ rfl rfl B2.out ?_) | (with_reducible show wpList _ _ _ (⟨_, Op.load _ _, _, _, _, _⟩ :: _) _ _; first | (refine wpl_load_hash rfl _ rfl rfl (by assumption) ?_) | (refine wpl_load_one rfl 3 _ rfl rfl (EvoAt.cd (by assumption)) (by kernel_rfl) ?_) | (refine wpl_load_one rfl 3 _ rfl rfl (EvoAt.cp (by assumption)) (by kernel_rfl) ?_) | (refine wpl_load_one rfl 24 _ rfl rfl (EvoAt.cr (by assumption)) (by kernel_rfl) ?_) | (refine wpl_load_one rfl 24 _ rfl rfl (EvoAt.cs (by assumption)) (by kernel_rfl) ?_) | (refine wpl_load_leaf rfl _ rfl rfl (by assumption) ?_) | (refine wpl_load_evo rfl _ rfl rfl (by assumption) ?_)) | (with_reducible show wpList _ _ _ (⟨_, Op.alloc _, _, _, _, _⟩ :: _) _ _; clear mF2; refine wpl_mk_evo rfl rfl ?_; intro _ g3 hg3 F2 hb; (try have := F1.lt); (try have := F2.lt); (try have := F3.lt); (try have := F4.lt); (try have := F5.lt); (try have := F6.lt); (try have := F7.lt); (try have := F8.lt); (try have := F9.lt); (try have := z.lt); (try have := G1.lt); (try have := G2.lt); (try have := G3.lt); (try have := b.size); (try replace F1 := F1.later hb); (try replace F2 := F2.later hb); (try replace F3 := F3.later hb); (try replace F4 := F4.later hb); (try replace F5 := F5.later hb); (try replace F6 := F6.later hb); (try replace F7 := F7.later hb); (try replace F8 := F8.later hb); (try replace F9 := F9.later hb); (try replace G1 := G1.later hb); (try replace G2 := G2.later hb); (try replace G3 := G3.later hb); (try replace z := z.later hb); (try replace b := later b hb); (try replace bB := mixed hB bB hb); clear hb) | (with_reducible show wpList _ _ _ (⟨_, Op.store _ _ _, _, _, _, _⟩ :: _) _ _; refine wpl_set_evo rfl _ _ rfl rfl rfl HRr.out rfl rfl F2 ?_; intro _ t1 ht; (try replace F1 := F1.tt ht); (try replace F2 := F2.tt ht); (try replace F3 := F3.tt ht); (try replace F4 := F4.tt ht); (try replace F5 := F5.tt ht); (try replace F6 := F6.tt ht); (try replace F7 := F7.tt ht); (try replace F8 := F8.tt ht); (try replace F9 := F9.tt ht); (try replace G1 := G1.tt ht); (try replace G2 := G2.tt ht); (try replace G3 := G3.tt ht); (try replace z := z.tt ht); (try replace b := below_touch b ht (by omega) (by omega)); (try replace bB := below_touch bB ht (by omega) hB); replace F2 := t1; clear ht) | (go_at_call 22; refine (HSG.out _ _ ⟨_, _, rfl, F6.now, F7.now, HRr.out⟩).mono ?_; rintro _ _ ⟨rfl, hc⟩; (try replace F1 := F1.later hc); (try replace F2 := F2.later hc); (try replace F3 := F3.later hc); (try replace F4 := F4.later hc); (try replace F5 := F5.later hc); (try replace F6 := F6.later hc); (try replace F7 := F7.later hc); (try replace F8 := F8.later hc); (try replace F9 := F9.later hc); (try replace G1 := G1.later hc); (try replace G2 := G2.later hc); (try replace G3 := G3.later hc); (try replace z := z.later hc); (try replace b := later b hc); (try replace bB := mixed hB bB hc); clear hc) | (go_at_call 28; refine (HPB.out _ _ ⟨_, _, rfl, F3.now, F4.now, HL.out⟩).mono ?_; rintro _ _ ⟨rfl, hc⟩; (try replace F1 := F1.later hc); (try replace F2 := F2.later hc); (try replace F3 := F3.later hc); (try replace F4 := F4.later hc); (try replace F5 := F5.later hc); (try replace F6 := F6.later hc); (try replace F7 := F7.later hc); (try replace F8 := F8.later hc); (try replace F9 := F9.later hc); (try replace G1 := G1.later hc); (try replace G2 := G2.later hc); (try replace G3 := G3.later hc); (try replace z := z.later hc); (try replace b := later b hc); (try replace bB := mixed hB bB hc); clear hc) | (with_reducible show wpList _ _ _ (⟨_, Op.alloc _, _, _, _, _⟩ :: _) _ _; clear mF5; refine wpl_mk_hash rfl rfl ?_; intro _ g7 hg7 F5 hb; (try have := F1.lt); (try have := F2.lt); (try have := F3.lt); (try have := F4.lt); (try have := F5.lt); (try have := F6.lt); (try have := F7.lt); (try have := F8.lt); (try have := F9.lt); (try have := z.lt); (try have := G1.lt); (try have := G2.lt); (try have := G3.lt); (try have := b.size); (try replace F1 := F1.later hb); (try replace F2 := F2.later hb); (try replace F3 := F3.later hb); (try replace F4 := F4.later hb); (try replace F5 := F5.later hb); (try replace F6 := F6.later hb); (try replace F7 := F7.later hb); (try replace F8 := F8.later hb); (try replace F9 := F9.later hb); (try replace G1 := G1.later hb); (try replace G2 := G2.later hb); (try replace G3 := G3.later hb); (try replace z := z.later hb); (try replace b := later b hb); (try replace bB := mixed hB bB hb); clear hb) | (with_reducible show wpList _ _ _ (⟨_, Op.store _ _ _, _, _, _, _⟩ :: _) _ _; refine wpl_set_hash rfl _ _ rfl rfl rfl HP.out F5 ?_; intro _ t1 ht; (try replace F1 := F1.tt ht); (try replace F2 := F2.tt ht); (try replace F3 := F3.tt ht); (try replace F4 := F4.tt ht); (try replace F5 := F5.tt ht); (try replace F6 := F6.tt ht); (try replace F7 := F7.tt ht); (try replace F8 := F8.tt ht); (try replace F9 := F9.tt ht); (try replace G1 := G1.tt ht); (try replace G2 := G2.tt ht); (try replace G3 := G3.tt ht); (try replace z := z.tt ht); (try replace b := below_touch b ht (by omega) (by omega)); (try replace bB := below_touch bB ht (by omega) hB); replace F5 := t1; clear ht) | (with_reducible show Code.wp _ (Code.region _ _ true) _ _ _; (try simp only [Act.put, List.setIfInBounds_toArray, List.set_cons_succ, List.set_cons_zero]); fail))
  obtain ⟨b0, k0, cap0, hv0, _, _, _, hcs0⟩ := F3.now.block (by simp)
  simp only [Value.slice.injEq] at hv0
  obtain ⟨rfl, -, rfl⟩ := hv0
  have CR := hcs0 0 (by simp)
  simp only [Nat.zero_mul, Nat.add_zero, List.getD_cons_zero] at CR
  clear hcs0
  (try simp only [Act.put, List.setIfInBounds_toArray, List.set_cons_succ, List.set_cons_zero])
  refine region_since (by kernel_rfl) (by kernel_rfl) ?_
  repeat (first | go_big_quiet_skip | (go_big_quiet_want; first | ((with_reducible show Oper.quiet _ ⟨_, Op.load _ _, _, _, _, _⟩ _ _ _); first | (refine quiet_load_hash _ rfl rfl (by assumption) ?_; simp only [Act.put, List.setIfInBounds_toArray, List.set_cons_succ, List.set_cons_zero]; go_big_quiet_on) | (refine since_load_one 3 _ rfl rfl (EvoAt.cd (by assumption)) (by kernel_rfl) ?_; simp only [Act.put, List.setIfInBounds_toArray, List.set_cons_succ, List.set_cons_zero]; go_big_quiet_on) | (refine since_load_one 3 _ rfl rfl (EvoAt.cp (by assumption)) (by kernel_rfl) ?_; simp only [Act.put, List.setIfInBounds_toArray, List.set_cons_succ, List.set_cons_zero]; go_big_quiet_on) | (refine since_load_one 24 _ rfl rfl (EvoAt.cr (by assumption)) (by kernel_rfl) ?_; simp only [Act.put, List.setIfInBounds_toArray, List.set_cons_succ, List.set_cons_zero]; go_big_quiet_on) | (refine since_load_one 24 _ rfl rfl (EvoAt.cs (by assumption)) (by kernel_rfl) ?_; simp only [Act.put, List.setIfInBounds_toArray, List.set_cons_succ, List.set_cons_zero]; go_big_quiet_on) | (refine since_load_leaf _ rfl rfl (by assumption) ?_; simp only [Act.put, List.setIfInBounds_toArray, List.set_cons_succ, List.set_cons_zero]; go_big_quiet_on) | (refine since_load_elem _ rfl rfl CR HRr.out ?_; simp only [Act.put, List.setIfInBounds_toArray, List.set_cons_succ, List.set_cons_zero]; go_big_quiet_on)) | ((with_reducible show Oper.quiet _ ⟨_, Op.build _ _, _, _, _, _⟩ _ _ _); refine quiet_build _ _ rfl (bvs o2).toArray (by simp only [List.map_toArray, List.map_cons, List.map_nil]; exact B2.out) ?_; simp only [Act.put, List.setIfInBounds_toArray, List.set_cons_succ, List.set_cons_zero]; go_big_quiet_on) | ((with_reducible show Oper.quiet _ ⟨_, Op.binOp _ 23 _ _ _, _, _, _, _⟩ _ _ _); refine quiet_eq _ _ rfl rfl rfl HRr.out HRr.out ?_; simp only [decide_true]; simp only [Act.put, List.setIfInBounds_toArray, List.set_cons_succ, List.set_cons_zero]; go_big_quiet_on) | (go_big_quiet_op; go_big_quiet_on)))
  go_big_quiet_want; go_big_quiet_op
  refine ⟨_, fun _ => since_of (HC1.out _), ?_⟩
  go_big_quiet_on
  repeat (first | go_big_quiet_skip | (go_big_quiet_want; first | ((with_reducible show Oper.quiet _ ⟨_, Op.load _ _, _, _, _, _⟩ _ _ _); first | (refine quiet_load_hash _ rfl rfl (by assumption) ?_; simp only [Act.put, List.setIfInBounds_toArray, List.set_cons_succ, List.set_cons_zero]; go_big_quiet_on) | (refine since_load_one 3 _ rfl rfl (EvoAt.cd (by assumption)) (by kernel_rfl) ?_; simp only [Act.put, List.setIfInBounds_toArray, List.set_cons_succ, List.set_cons_zero]; go_big_quiet_on) | (refine since_load_one 3 _ rfl rfl (EvoAt.cp (by assumption)) (by kernel_rfl) ?_; simp only [Act.put, List.setIfInBounds_toArray, List.set_cons_succ, List.set_cons_zero]; go_big_quiet_on) | (refine since_load_one 24 _ rfl rfl (EvoAt.cr (by assumption)) (by kernel_rfl) ?_; simp only [Act.put, List.setIfInBounds_toArray, List.set_cons_succ, List.set_cons_zero]; go_big_quiet_on) | (refine since_load_one 24 _ rfl rfl (EvoAt.cs (by assumption)) (by kernel_rfl) ?_; simp only [Act.put, List.setIfInBounds_toArray, List.set_cons_succ, List.set_cons_zero]; go_big_quiet_on) | (refine since_load_leaf _ rfl rfl (by assumption) ?_; simp only [Act.put, List.setIfInBounds_toArray, List.set_cons_succ, List.set_cons_zero]; go_big_quiet_on) | (refine since_load_elem _ rfl rfl CR HRr.out ?_; simp only [Act.put, List.setIfInBounds_toArray, List.set_cons_succ, List.set_cons_zero]; go_big_quiet_on)) | ((with_reducible show Oper.quiet _ ⟨_, Op.build _ _, _, _, _, _⟩ _ _ _); refine quiet_build _ _ rfl (bvs o2).toArray (by simp only [List.map_toArray, List.map_cons, List.map_nil]; exact B2.out) ?_; simp only [Act.put, List.setIfInBounds_toArray, List.set_cons_succ, List.set_cons_zero]; go_big_quiet_on) | ((with_reducible show Oper.quiet _ ⟨_, Op.binOp _ 23 _ _ _, _, _, _, _⟩ _ _ _); refine quiet_eq _ _ rfl rfl rfl HRr.out HRr.out ?_; simp only [decide_true]; simp only [Act.put, List.setIfInBounds_toArray, List.set_cons_succ, List.set_cons_zero]; go_big_quiet_on) | (go_big_quiet_op; go_big_quiet_on)))
  go_big_quiet_want; go_big_quiet_op
  refine ⟨_, fun _ => since_of (HC2.out _), ?_⟩
  go_big_quiet_on
  repeat (first | go_big_quiet_skip | (go_big_quiet_want; go_big_quiet_op; go_big_quiet_on))
  refine wpQuiet_nil ?_
  intro _ hq
  (try replace F1 := F1.later hq); (try replace F2 := F2.later hq); (try replace F3 := F3.later hq); (try replace F4 := F4.later hq); (try replace F5 := F5.later hq); (try replace F6 := F6.later hq); (try replace F7 := F7.later hq); (try replace F8 := F8.later hq); (try replace F9 := F9.later hq); (try replace G1 := G1.later hq); (try replace G2 := G2.later hq); (try replace G3 := G3.later hq); (try replace z := z.later hq); (try replace b := later b hq); (try replace bB := mixed hB bB hq)
  clear hq
  go_wp2_with fail
  go_ret
  exact ⟨rfl, b⟩
end Go.Proofs.Ytofjjpielkfloaa
