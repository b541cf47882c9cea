/- Package evolve: Make's rows are its own. -/
import Derived.Test.YtofjjpielkfloaaQEvo6
namespace Go.Proofs.Ytofjjpielkfloaa
open Go.RowKit Go.Lib
set_option linter.unusedVariables false
set_option linter.unusedSimpArgs false

set_option maxRecDepth 100000 in
set_option maxHeartbeats 1600000 in
theorem make_inO (d : Nat) (seed : List UInt8) (hd : d ≤ 4) (hs : seed.length = 32) (w : World) :
    Calls Try.prog 17 #[hv seed, .int .i64 d] w (EvoRO w (firstE d seed) 0) := by
  have HD : Hid (∀ w, Calls Try.prog 55 #[evV d 0 zero32 (.slice none 0 0) (.slice none 0 0), hv seed] w fun e w' => ∃ v, e = .returned v ∧ EvoOwn w' w.heap.size v (firstE d seed) ∧ Below w.heap.size w w') := fun w =>
    down_any d 0 0 zero32 seed _ _ [] [] w.heap.size w hd rfl rfl (by omega) rfl hs (own_nil _ _) (own_nil _ _) (Nat.le_refl _) (by intro b h; cases h)
  have SL := hide hs
  have b := Below.refl w.heap.size w
  obtain ⟨K, hK⟩ : ∃ K, K = firstE d seed := ⟨_, rfl⟩
  rw [← hK] at HD ⊢
  clear hs hK
  unfold hv
  have mF1 := True.intro
  have mF2 := True.intro
  go_enter Try.func17, Try.ntmps17
  go_wp2_with (first | (with_reducible show wpList _ _ _ (⟨_, Op.load _ _, _, _, _, _⟩ :: _) _ _; first | (refine wpl_load_hash rfl _ rfl rfl (by assumption) ?_) | (refine wpl_load_one rfl 3 _ rfl rfl (EvoAt.cd (by assumption)) (by kernel_rfl) ?_) | (refine wpl_load_one rfl 3 _ rfl rfl (EvoAt.cp (by assumption)) (by kernel_rfl) ?_) | (refine wpl_load_one rfl 24 _ rfl rfl (EvoAt.cr (by assumption)) (by kernel_rfl) ?_) | (refine wpl_load_one rfl 24 _ rfl rfl (EvoAt.cs (by assumption)) (by kernel_rfl) ?_) | (refine wpl_load_leaf rfl _ rfl rfl (by assumption) ?_) | (refine wpl_load_evo rfl _ rfl rfl (by assumption) ?_)) | (with_reducible show wpList _ _ _ (⟨_, Op.box _ _, _, _, _, _⟩ :: _) _ _; clear mF1; refine wpl_box_hash rfl _ rfl rfl SL.out ?_; intro _ g1 hg1 F1 hb; (try have := F1.lt); (try have := F2.lt); (try have := F3.lt); (try have := F4.lt); (try have := F5.lt); (try have := F6.lt); (try have := F7.lt); (try have := F8.lt); (try have := F9.lt); (try have := z.lt); (try have := G1.lt); (try have := G2.lt); (try have := G3.lt); (try have := b.size); (try replace F1 := F1.later hb); (try replace F2 := F2.later hb); (try replace F3 := F3.later hb); (try replace F4 := F4.later hb); (try replace F5 := F5.later hb); (try replace F6 := F6.later hb); (try replace F7 := F7.later hb); (try replace F8 := F8.later hb); (try replace F9 := F9.later hb); (try replace G1 := G1.later hb); (try replace G2 := G2.later hb); (try replace G3 := G3.later hb); (try replace z := z.later hb); (try replace b := later b hb); (try replace bB := mixed hB bB hb); clear hb) | (with_reducible show wpList _ _ _ (⟨_, Op.alloc _, _, _, _, _⟩ :: _) _ _; clear mF2; refine wpl_mk_evo rfl rfl ?_; intro _ g2 hg2 F2 hb; (try have := F1.lt); (try have := F2.lt); (try have := F3.lt); (try have := F4.lt); (try have := F5.lt); (try have := F6.lt); (try have := F7.lt); (try have := F8.lt); (try have := F9.lt); (try have := z.lt); (try have := G1.lt); (try have := G2.lt); (try have := G3.lt); (try have := b.size); (try replace F1 := F1.later hb); (try replace F2 := F2.later hb); (try replace F3 := F3.later hb); (try replace F4 := F4.later hb); (try replace F5 := F5.later hb); (try replace F6 := F6.later hb); (try replace F7 := F7.later hb); (try replace F8 := F8.later hb); (try replace F9 := F9.later hb); (try replace G1 := G1.later hb); (try replace G2 := G2.later hb); (try replace G3 := G3.later hb); (try replace z := z.later hb); (try replace b := later b hb); (try replace bB := mixed hB bB hb); clear hb) | (with_reducible show wpList _ _ _ (⟨_, Op.build _ _, _, _, _, _⟩ :: _) _ _; refine wpl_build rfl 26 _ rfl (evCs d 0 zero32 (.slice none 0 0) (.slice none 0 0)).toArray (by simpa using evBuilt1 _) ?_) | (go_at_call 55; have := F2.lt; have bq := b.size; refine (HD.out _).mono ?_; rintro _ wd ⟨_, rfl, ⟨rv, sv, rfl, F5, F6, hl⟩, hc⟩; (try replace F1 := F1.later hc); (try replace F2 := F2.later hc); (try replace F3 := F3.later hc); (try replace F4 := F4.later hc); (try replace F5 := F5.later hc); (try replace F6 := F6.later hc); (try replace F7 := F7.later hc); (try replace F8 := F8.later hc); (try replace F9 := F9.later hc); (try replace G1 := G1.later hc); (try replace G2 := G2.later hc); (try replace G3 := G3.later hc); (try replace z := z.later hc); (try replace b := later b hc); (try replace bB := mixed hB bB hc); clear hc; replace F5 := F5.low (g := g2) (by omega); replace F6 := F6.low (g := g2) (by omega); obtain ⟨ra, rc, rfl⟩ := F5.shape; obtain ⟨sa, sc, rfl⟩ := F6.shape; have KL := hide hl; clear hl) | (with_reducible show wpList _ _ _ (⟨_, Op.store _ _ _, _, _, _, _⟩ :: _) _ _; refine wpl_set_evo rfl _ _ rfl rfl rfl KL.out rfl rfl F2 ?_; intro _ t1 ht; (try replace F1 := F1.tt ht); (try replace F2 := F2.tt ht); (try replace F3 := F3.tt ht); (try replace F4 := F4.tt ht); (try replace F5 := F5.tt ht); (try replace F6 := F6.tt ht); (try replace F7 := F7.tt ht); (try replace F8 := F8.tt ht); (try replace F9 := F9.tt ht); (try replace G1 := G1.tt ht); (try replace G2 := G2.tt ht); (try replace G3 := G3.tt ht); (try replace z := z.tt ht); (try replace b := below_touch b ht (by omega) (by omega)); (try replace bB := below_touch bB ht (by omega) hB); replace F2 := t1; clear ht))
  exact bodyPost_ret (ret_evo_tmp rfl _ _ _ rfl rfl F2) rfl ⟨_, rfl, ⟨_, _, rfl, (F5.less (Y := []) (by simp)).base bq, (F6.less (Y := []) (by simp)).base bq, KL.out⟩, b⟩
theorem own_st {w : World} {B g : Nat} {v : Value} {l : List (List UInt8)} (h : OwnU w B v l []) (hg : g < B) : StabX (fun w => Hs w v l) w.heap.size [g] w :=
  ⟨Nat.le_refl _, fun w' ht => Hs.own rfl h.2.1 (owns_touch h.1 ht (fun b hb hs => by
    have h1 := World.ownsRow.lt h.1 b hb
    rcases hs with h2 | h2
    · omega
    · have : b = g := by simpa using h2
      omega))⟩
end Go.Proofs.Ytofjjpielkfloaa
