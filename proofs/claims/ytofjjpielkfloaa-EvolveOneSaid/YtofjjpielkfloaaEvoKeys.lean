/- Laws of layer 6: EvolveKeys. -/
import Derived.Test.YtofjjpielkfloaaEvoWorks
import Derived.Test.YtofjjpielkfloaaEvoMakeL
import Derived.Test.YtofjjpielkfloaaEvoRef6
import Derived.Test.YtofjjpielkfloaaEvoKeysL
namespace Go.Proofs.Ytofjjpielkfloaa
open Go.RowKit Go.Lib
set_option linter.unusedVariables false
set_option linter.unusedSimpArgs false

theorem Stab.stx {P : World → Prop} {m g : Nat} {w : World} (h : Stab P m w) (hg : m ≤ g) : StabX P m [g] w :=
  ⟨h.1, fun w' ht => h.2 w' ⟨ht.os, ht.tape, ht.output, ht.size, fun k hk hn => ht.block k hk (fun hs => hn (by
    rcases hs with h1 | h1
    · exact h1
    · have : k = g := by simpa using h1
      rw [this]; exact hg))⟩⟩
theorem own_stx {w : World} {B : Nat} {v : Value} {l : List (List UInt8)} {g : Nat} (h : OwnU w B v l []) (hg : g < B) : StabX (fun w => Hs w v l) w.heap.size [g] w :=
  ⟨Nat.le_refl _, fun w' ht => Hs.own rfl h.2.1 (owns_touch h.1 ht (fun b hb hs => by
    have h1 := World.ownsRow.lt h.1 b hb
    rcases hs with h2 | h2
    · omega
    · have : b = g := by simpa using h2
      omega))⟩
/-- The key that is reached in i steps, and what was told of it. -/
def atK (d : Nat) (s : List UInt8) (i : Nat) (K : Evo) (e : Int) : Prop := (e = 0 ∧ i < 2 ^ d ∧ K = keyE d i s) ∨ (e = 4 ∧ i = 2 ^ d ∧ K = evo0)
theorem atK_next {d : Nat} {s : List UInt8} {i : Nat} {K : Evo} (hd : d ≤ 4) (h : atK d s i K 0) : atK d s (i + 1) (nextK K).1 (nextK K).2 := by
  rcases h with ⟨_, h1, rfl⟩ | ⟨h0, _, _⟩
  · by_cases h2 : i + 1 < 2 ^ d
    · rw [nextK_key d i s hd h2]; exact .inl ⟨rfl, h2, rfl⟩
    · rw [nextK_end d i s hd (by omega)]; exact .inr ⟨rfl, by omega, rfl⟩
  · cases h0
set_option maxRecDepth 100000 in
set_option maxHeartbeats 1600000 in
theorem evolveKeys_in (seed : List UInt8) (d t : Nat) (hd : d ≤ 4) (ht : t ≤ 20) (hs : seed.length = 32) (w : World) :
    Calls Try.prog 8 #[hv seed, .int .i64 d, .int .i64 t] w fun e w' => e = .returned (.bool true) ∧ Below w.heap.size w w' := by
  have HS := hide hs
  have HMK := hide (fun w => make_in d seed hd hs w)
  have HNX := hide (fun K v w h => evoNextO_any K v w h)
  have hk0 : atK d seed 0 (firstE d seed) 0 := .inl ⟨rfl, Nat.pos_of_ne_zero (by simp), (keyE_first d seed).symm⟩
  have HA := hide hk0
  have b := Below.refl w.heap.size w
  generalize firstE d seed = K at *
  clear hs hk0
  unfold hv
  have mF1 := True.intro
  have mF2 := True.intro
  go_enter Try.func8, Try.ntmps8
  go_wp2_with (first | (with_reducible show wpList _ _ _ (⟨_, Op.load _ _, _, _, _, _⟩ :: _) _ _; first | (refine wpl_load_hash rfl _ rfl rfl (by assumption) ?_) | (refine wpl_load_one rfl 3 _ rfl rfl (EvoAt.cd (by assumption)) (by kernel_rfl) ?_) | (refine wpl_load_one rfl 3 _ rfl rfl (EvoAt.cp (by assumption)) (by kernel_rfl) ?_) | (refine wpl_load_one rfl 24 _ rfl rfl (EvoAt.cr (by assumption)) (by kernel_rfl) ?_) | (refine wpl_load_one rfl 24 _ rfl rfl (EvoAt.cs (by assumption)) (by kernel_rfl) ?_) | (refine wpl_load_leaf rfl _ rfl rfl (by assumption) ?_) | (refine wpl_load_evo rfl _ rfl rfl (by assumption) ?_)) | (with_reducible show wpList _ _ _ (⟨_, Op.box _ _, _, _, _, _⟩ :: _) _ _; clear mF2; refine wpl_box_hash rfl _ rfl rfl HS.out ?_; intro _ g3 hg3 F2 hb; (try have := F1.lt); (try have := F2.lt); (try have := F3.lt); (try have := F4.lt); (try have := F5.lt); (try have := F6.lt); (try have := F7.lt); (try have := F8.lt); (try have := F9.lt); (try have := z.lt); (try have := G1.lt); (try have := G2.lt); (try have := G3.lt); (try have := b.size); (try replace F1 := F1.later hb); (try replace F2 := F2.later hb); (try replace F3 := F3.later hb); (try replace F4 := F4.later hb); (try replace F5 := F5.later hb); (try replace F6 := F6.later hb); (try replace F7 := F7.later hb); (try replace F8 := F8.later hb); (try replace F9 := F9.later hb); (try replace G1 := G1.later hb); (try replace G2 := G2.later hb); (try replace G3 := G3.later hb); (try replace z := z.later hb); (try replace b := later b hb); (try replace bB := mixed hB bB hb); clear hb))
  refine (HMK.out _).mono ?_
  rintro _ w1 ⟨v, rfl, ⟨rv, sv, rfl, h3, h4, hl⟩, hc⟩
  obtain ⟨ar, cr, rfl, _⟩ := h3.shape
  obtain ⟨as', cs', rfl, _⟩ := h4.shape
  have HL := hide hl
  have F3 := h3.st
  have F4 := h4.st
  clear hl h3 h4
  (try replace F1 := F1.later hc); (try replace F2 := F2.later hc); (try replace F3 := F3.later hc); (try replace F4 := F4.later hc); (try replace F5 := F5.later hc); (try replace F6 := F6.later hc); (try replace F7 := F7.later hc); (try replace F8 := F8.later hc); (try replace F9 := F9.later hc); (try replace G1 := G1.later hc); (try replace G2 := G2.later hc); (try replace G3 := G3.later hc); (try replace z := z.later hc); (try replace b := later b hc); (try replace bB := mixed hB bB hc)
  clear hc HMK
  go_wp2_with (first | (with_reducible show wpList _ _ _ (⟨_, Op.load _ _, _, _, _, _⟩ :: _) _ _; first | (refine wpl_load_hash rfl _ rfl rfl (by assumption) ?_) | (refine wpl_load_one rfl 3 _ rfl rfl (EvoAt.cd (by assumption)) (by kernel_rfl) ?_) | (refine wpl_load_one rfl 3 _ rfl rfl (EvoAt.cp (by assumption)) (by kernel_rfl) ?_) | (refine wpl_load_one rfl 24 _ rfl rfl (EvoAt.cr (by assumption)) (by kernel_rfl) ?_) | (refine wpl_load_one rfl 24 _ rfl rfl (EvoAt.cs (by assumption)) (by kernel_rfl) ?_) | (refine wpl_load_leaf rfl _ rfl rfl (by assumption) ?_) | (refine wpl_load_evo rfl _ rfl rfl (by assumption) ?_)) | (with_reducible show wpList _ _ _ (⟨_, Op.alloc _, _, _, _, _⟩ :: _) _ _; clear mF1; refine wpl_mk_evo rfl rfl ?_; intro _ g7 hg7 F1 hb; (try have := F1.lt); (try have := F2.lt); (try have := F3.lt); (try have := F4.lt); (try have := F5.lt); (try have := F6.lt); (try have := F7.lt); (try have := F8.lt); (try have := F9.lt); (try have := z.lt); (try have := G1.lt); (try have := G2.lt); (try have := G3.lt); (try have := b.size); (try replace F1 := F1.later hb); (try replace F2 := F2.later hb); (try replace F3 := F3.later hb); (try replace F4 := F4.later hb); (try replace F5 := F5.later hb); (try replace F6 := F6.later hb); (try replace F7 := F7.later hb); (try replace F8 := F8.later hb); (try replace F9 := F9.later hb); (try replace G1 := G1.later hb); (try replace G2 := G2.later hb); (try replace G3 := G3.later hb); (try replace z := z.later hb); (try replace b := later b hb); (try replace bB := mixed hB bB hb); clear hb) | (with_reducible show wpList _ _ _ (⟨_, Op.store _ _ _, _, _, _, _⟩ :: _) _ _; refine wpl_set_evo rfl _ _ rfl rfl rfl HL.out rfl rfl F1 ?_; intro _ t1 ht; (try replace F1 := F1.tt ht); (try replace F2 := F2.tt ht); (try replace F3 := F3.tt ht); (try replace F4 := F4.tt ht); (try replace F5 := F5.tt ht); (try replace F6 := F6.tt ht); (try replace F7 := F7.tt ht); (try replace F8 := F8.tt ht); (try replace F9 := F9.tt ht); (try replace G1 := G1.tt ht); (try replace G2 := G2.tt ht); (try replace G3 := G3.tt ht); (try replace z := z.tt ht); (try replace b := below_touch b ht (by omega) (by omega)); (try replace bB := below_touch bB ht (by omega) hB); replace F1 := t1; clear ht))
  have n37 : g3 < g7 := by omega
  have nw : w.heap.size ≤ g7 := by omega
  have G3 := F3.stx (g := g7) hg7
  have G4 := F4.stx (g := g7) hg7
  clear F3 F4
  go_loopw [8, 9] (fun e i wr => ∃ (n : Nat) (x : Int) (K : Evo) (ar : Option Addr) (cr : Nat) (as' : Option Addr) (cs' : Nat) (m3 m4 : Nat), e = .int .i64 x ∧ i = .int .i64 n ∧ n ≤ t ∧ Hid (atK d seed n K x) ∧ Hid (K.leaf.length = 32) ∧ EvoAt wr g7 K.d K.p K.leaf (.slice ar K.right.length cr) (.slice as' K.side.length cs') ∧
    StabX (fun w => Hs w (.slice ar K.right.length cr) K.right) m3 [g7] wr ∧ StabX (fun w => Hs w (.slice as' K.side.length cs') K.side) m4 [g7] wr ∧ HashAt wr g3 seed ∧ Below w.heap.size w wr) (fun _ i _ => t - (RowKit.intOf i).toNat)
  case atStart => exact ⟨0, 0, K, _, _, _, _, _, _, rfl, rfl, by omega, HA, HL, F1, G3, G4, F2, b⟩
  case round =>
    clear F1 F2 G3 G4 b HA HL
    obtain ⟨n, x, K, ar, cr, as', cs', m3, m4, rfl, rfl, hn, HA, HL, F1, F3, F4, F2, b⟩ := hrel
    by_cases h : n < t ∧ x = 0
    · obtain ⟨hlt, rfl⟩ := h
      have HA' := hide (atK_next hd HA.out)
      have HN := hide (HNX.out K)
      have n37' : g3 < g7 := n37
      clear HA HNX
      generalize nextK K = KN at *
      go_wp2_with (first | (with_reducible show wpList _ _ _ (⟨_, Op.load _ _, _, _, _, _⟩ :: _) _ _; first | (refine wpl_load_hash rfl _ rfl rfl (by assumption) ?_) | (refine wpl_load_one rfl 3 _ rfl rfl (EvoAt.cd (by assumption)) (by kernel_rfl) ?_) | (refine wpl_load_one rfl 3 _ rfl rfl (EvoAt.cp (by assumption)) (by kernel_rfl) ?_) | (refine wpl_load_one rfl 24 _ rfl rfl (EvoAt.cr (by assumption)) (by kernel_rfl) ?_) | (refine wpl_load_one rfl 24 _ rfl rfl (EvoAt.cs (by assumption)) (by kernel_rfl) ?_) | (refine wpl_load_leaf rfl _ rfl rfl (by assumption) ?_) | (refine wpl_load_evo rfl _ rfl rfl (by assumption) ?_)) | (go_at_call 18; refine (HN.out _ _ ⟨_, _, rfl, F3.now, F4.now, HL.out⟩).mono ?_; rintro _ w8 ⟨v, rfl, ⟨rv, sv, rfl, O3, O4, hl⟩, hc⟩; clear F3 F4 HL; have g7w := F1.lt; obtain ⟨ra, rc, rfl⟩ := O3.shape; obtain ⟨sa, sc, rfl⟩ := O4.shape; (try replace F1 := F1.later hc); (try replace F2 := F2.later hc); (try replace F3 := F3.later hc); (try replace F4 := F4.later hc); (try replace F5 := F5.later hc); (try replace F6 := F6.later hc); (try replace F7 := F7.later hc); (try replace F8 := F8.later hc); (try replace F9 := F9.later hc); (try replace G1 := G1.later hc); (try replace G2 := G2.later hc); (try replace G3 := G3.later hc); (try replace z := z.later hc); (try replace b := later b hc); (try replace bB := mixed hB bB hc); clear hc; have F3 := own_stx O3 g7w; have F4 := own_stx O4 g7w; clear O3 O4 g7w; have HL := hide hl; clear hl) | (with_reducible show wpList _ _ _ (⟨_, Op.store _ _ _, _, _, _, _⟩ :: _) _ _; refine wpl_set_evo rfl _ _ rfl rfl rfl HL.out rfl rfl F1 ?_; intro _ t1 ht; (try replace F1 := F1.tt ht); (try replace F2 := F2.tt ht); (try replace F3 := F3.tt ht); (try replace F4 := F4.tt ht); (try replace F5 := F5.tt ht); (try replace F6 := F6.tt ht); (try replace F7 := F7.tt ht); (try replace F8 := F8.tt ht); (try replace F9 := F9.tt ht); (try replace G1 := G1.tt ht); (try replace G2 := G2.tt ht); (try replace G3 := G3.tt ht); (try replace z := z.tt ht); (try replace b := below_touch b ht (by omega) (by omega)); (try replace bB := below_touch bB ht (by omega) hB); replace F1 := t1; clear ht))
      go_roundw
      case rel => exact ⟨n + 1, _, _, _, _, _, _, _, _, rfl, by simp, by omega, HA', HL, F1, F3, F4, F2, b⟩
      case measure => simp [RowKit.intOf]; omega
    · have HE := hide (show x = 0 → n = t from fun h0 => by
        have : ¬ n < t := fun h1 => h ⟨h1, h0⟩
        omega)
      by_cases hx : x = 0
      · subst hx
        obtain rfl : n = t := HE.out rfl
        rcases HA.out with ⟨_, hlt, rfl⟩ | ⟨h0, _⟩
        · have ew : wrap64 (2 ^ d) = 2 ^ d := by
            rcases (by omega : d = 0 ∨ d = 1 ∨ d = 2 ∨ d = 3 ∨ d = 4) with h | h | h | h | h <;> rw [h] <;> decide +kernel
          have e2 : ((2 ^ d : Nat) : Int) = 2 ^ d := by simp
          have hlt' : ¬ wrap64 (2 ^ d) ≤ (n : Int) := by rw [ew]; omega
          have hp : 2 ^ d ≤ 16 := Nat.le_trans (Nat.pow_le_pow_right (by omega) hd) (by decide)
          have HKY := hide (fun w => key_any seed d n hd (by omega) HS.out w)
          have HSM : Hid (∀ v1 v2 w, EvoIs w v1 (keyE d n seed) → EvoIs w v2 (keyE d n seed) → Calls Try.prog 23 #[v1, v2] w fun e w' => e = .returned (.bool true) ∧ Below w.heap.size w w') := fun v1 v2 w h1 h2 => by
            have := refSame_any _ _ v1 v2 w h1 h2
            rwa [sameE_self] at this
          have F5 := F3.now.st
          have F6 := F4.now.st
          clear F3 F4 ew e2 HA HE h hlt hp
          generalize keyE d n seed = K at *
          go_wp2_with (first | (with_reducible show wpList _ _ _ (⟨_, Op.load _ _, _, _, _, _⟩ :: _) _ _; first | (refine wpl_load_hash rfl _ rfl rfl (by assumption) ?_) | (refine wpl_load_one rfl 3 _ rfl rfl (EvoAt.cd (by assumption)) (by kernel_rfl) ?_) | (refine wpl_load_one rfl 3 _ rfl rfl (EvoAt.cp (by assumption)) (by kernel_rfl) ?_) | (refine wpl_load_one rfl 24 _ rfl rfl (EvoAt.cr (by assumption)) (by kernel_rfl) ?_) | (refine wpl_load_one rfl 24 _ rfl rfl (EvoAt.cs (by assumption)) (by kernel_rfl) ?_) | (refine wpl_load_leaf rfl _ rfl rfl (by assumption) ?_) | (refine wpl_load_evo rfl _ rfl rfl (by assumption) ?_)) | (with_reducible show Code.wp _ (Code.region _ _ true) _ _ _; (try simp only [Act.put, List.setIfInBounds_toArray, List.set_cons_succ, List.set_cons_zero]); fail))
          (try simp only [Act.put, List.setIfInBounds_toArray, List.set_cons_succ, List.set_cons_zero])
          refine region_plan (fun x => Below (World.heap _).size _ x) (.one [0, 1, 2, 3, 4, 5, 6] 7 (.fl [] 8 (.stop [9, 10]))) (by kernel_rfl) (by kernel_rfl) (by kernel_rfl) (by decide) (lasts_below (Nat.le_refl _)) (Below.refl _ _) ?_
          intro wpl0 _ _ _
          refine plan_one ?_
          simp only [pickOps, opAt, List.getElem?_cons_succ, List.getElem?_cons_zero, List.nil_append, List.cons_append]
          (repeat (first | go_big_quiet_skip | (go_big_quiet_want; first | (refine plan_load_hash _ rfl rfl (by assumption) ?_; simp only [Act.put, List.setIfInBounds_toArray, List.set_cons_succ, List.set_cons_zero]; go_big_quiet_on) | (refine plan_load_one 3 _ rfl rfl (EvoAt.cd (by assumption)) (by kernel_rfl) ?_; simp only [Act.put, List.setIfInBounds_toArray, List.set_cons_succ, List.set_cons_zero]; go_big_quiet_on) | (refine plan_load_one 3 _ rfl rfl (EvoAt.cp (by assumption)) (by kernel_rfl) ?_; simp only [Act.put, List.setIfInBounds_toArray, List.set_cons_succ, List.set_cons_zero]; go_big_quiet_on) | (refine plan_load_one 24 _ rfl rfl (EvoAt.cr (by assumption)) (by kernel_rfl) ?_; simp only [Act.put, List.setIfInBounds_toArray, List.set_cons_succ, List.set_cons_zero]; go_big_quiet_on) | (refine plan_load_one 24 _ rfl rfl (EvoAt.cs (by assumption)) (by kernel_rfl) ?_; simp only [Act.put, List.setIfInBounds_toArray, List.set_cons_succ, List.set_cons_zero]; go_big_quiet_on) | (refine plan_load_leaf _ rfl rfl (by assumption) ?_; simp only [Act.put, List.setIfInBounds_toArray, List.set_cons_succ, List.set_cons_zero]; go_big_quiet_on) | (refine plan_load_evo _ rfl rfl F1 ?_; simp only [Act.put, List.setIfInBounds_toArray, List.set_cons_succ, List.set_cons_zero]; go_big_quiet_on) | (go_big_quiet_op; go_big_quiet_on))))
          refine wpQuiet_nil ?_
          intro _ _ k
          (try replace F1 := F1.later k); (try replace F2 := F2.later k); (try replace F3 := F3.later k); (try replace F4 := F4.later k); (try replace F5 := F5.later k); (try replace F6 := F6.later k); (try replace F7 := F7.later k); (try replace F8 := F8.later k); (try replace F9 := F9.later k); (try replace G1 := G1.later k); (try replace G2 := G2.later k); (try replace G3 := G3.later k); (try replace z := z.later k); (try replace b := later b k); (try replace bB := mixed hB bB k)
          go_wp2_with (go_at_call 24; refine (HKY.out _).mono ?_; rintro _ w5 ⟨v, rfl, F7, hc⟩; replace k := later k hc; (try replace F1 := F1.later hc); (try replace F2 := F2.later hc); (try replace F3 := F3.later hc); (try replace F4 := F4.later hc); (try replace F5 := F5.later hc); (try replace F6 := F6.later hc); (try replace F7 := F7.later hc); (try replace F8 := F8.later hc); (try replace F9 := F9.later hc); (try replace G1 := G1.later hc); (try replace G2 := G2.later hc); (try replace G3 := G3.later hc); (try replace z := z.later hc); (try replace b := later b hc); (try replace bB := mixed hB bB hc); clear hc)
          refine goQ_since (lasts_below (Nat.le_refl _)) k ?_
          clear k
          (try simp only [Act.put, List.setIfInBounds_toArray, List.set_cons_succ, List.set_cons_zero])
          refine plan_fl ?_
          simp only [pickOps, opAt, List.getElem?_cons_succ, List.getElem?_cons_zero, List.nil_append, List.cons_append]
          (repeat (first | go_big_quiet_skip | (go_big_quiet_want; first | (refine plan_load_hash _ rfl rfl (by assumption) ?_; simp only [Act.put, List.setIfInBounds_toArray, List.set_cons_succ, List.set_cons_zero]; go_big_quiet_on) | (refine plan_load_one 3 _ rfl rfl (EvoAt.cd (by assumption)) (by kernel_rfl) ?_; simp only [Act.put, List.setIfInBounds_toArray, List.set_cons_succ, List.set_cons_zero]; go_big_quiet_on) | (refine plan_load_one 3 _ rfl rfl (EvoAt.cp (by assumption)) (by kernel_rfl) ?_; simp only [Act.put, List.setIfInBounds_toArray, List.set_cons_succ, List.set_cons_zero]; go_big_quiet_on) | (refine plan_load_one 24 _ rfl rfl (EvoAt.cr (by assumption)) (by kernel_rfl) ?_; simp only [Act.put, List.setIfInBounds_toArray, List.set_cons_succ, List.set_cons_zero]; go_big_quiet_on) | (refine plan_load_one 24 _ rfl rfl (EvoAt.cs (by assumption)) (by kernel_rfl) ?_; simp only [Act.put, List.setIfInBounds_toArray, List.set_cons_succ, List.set_cons_zero]; go_big_quiet_on) | (refine plan_load_leaf _ rfl rfl (by assumption) ?_; simp only [Act.put, List.setIfInBounds_toArray, List.set_cons_succ, List.set_cons_zero]; go_big_quiet_on) | (go_big_quiet_op; go_big_quiet_on))))
          refine wpQuiet_nil ?_
          refine fl_call (by rfl) rfl (by kernel_rfl) (by simp only [List.map_toArray, List.map_cons, List.map_nil]; rfl) (fun w' hC => HSM.out _ _ w' ⟨_, _, rfl, (F5.later (Kl.out hC)).now, (F6.later (Kl.out hC)).now, HL.out⟩ (F7.later (Kl.out hC)).is) ?_
          simp only [Act.put, List.setIfInBounds_toArray, List.set_cons_succ, List.set_cons_zero]
          refine plan_stop ?_
          simp only [pickOps, opAt, List.getElem?_cons_succ, List.getElem?_cons_zero, List.nil_append, List.cons_append]
          (repeat (first | go_big_quiet_skip | (go_big_quiet_want; first | (refine plan_load_hash _ rfl rfl (by assumption) ?_; simp only [Act.put, List.setIfInBounds_toArray, List.set_cons_succ, List.set_cons_zero]; go_big_quiet_on) | (refine plan_load_one 3 _ rfl rfl (EvoAt.cd (by assumption)) (by kernel_rfl) ?_; simp only [Act.put, List.setIfInBounds_toArray, List.set_cons_succ, List.set_cons_zero]; go_big_quiet_on) | (refine plan_load_one 3 _ rfl rfl (EvoAt.cp (by assumption)) (by kernel_rfl) ?_; simp only [Act.put, List.setIfInBounds_toArray, List.set_cons_succ, List.set_cons_zero]; go_big_quiet_on) | (refine plan_load_one 24 _ rfl rfl (EvoAt.cr (by assumption)) (by kernel_rfl) ?_; simp only [Act.put, List.setIfInBounds_toArray, List.set_cons_succ, List.set_cons_zero]; go_big_quiet_on) | (refine plan_load_one 24 _ rfl rfl (EvoAt.cs (by assumption)) (by kernel_rfl) ?_; simp only [Act.put, List.setIfInBounds_toArray, List.set_cons_succ, List.set_cons_zero]; go_big_quiet_on) | (refine plan_load_leaf _ rfl rfl (by assumption) ?_; simp only [Act.put, List.setIfInBounds_toArray, List.set_cons_succ, List.set_cons_zero]; go_big_quiet_on) | (go_big_quiet_op; go_big_quiet_on))))
          refine wpQuiet_nil ?_
          intro _ _ k
          (try replace F1 := F1.later k); (try replace F2 := F2.later k); (try replace F3 := F3.later k); (try replace F4 := F4.later k); (try replace F5 := F5.later k); (try replace F6 := F6.later k); (try replace F7 := F7.later k); (try replace F8 := F8.later k); (try replace F9 := F9.later k); (try replace G1 := G1.later k); (try replace G2 := G2.later k); (try replace G3 := G3.later k); (try replace z := z.later k); (try replace b := later b k); (try replace bB := mixed hB bB k)
          clear k
          go_wp2_with fail
          go_ret
          exact ⟨rfl, b⟩
        · cases h0
      · rcases HA.out with ⟨h0, _⟩ | ⟨rfl, rfl, rfl⟩
        · exact absurd h0 hx
        · have ew : wrap64 (2 ^ d) = 2 ^ d := by
            rcases (by omega : d = 0 ∨ d = 1 ∨ d = 2 ∨ d = 3 ∨ d = 4) with h | h | h | h | h <;> rw [h] <;> decide +kernel
          have e2 : ((2 ^ d : Nat) : Int) = 2 ^ d := by simp
          have hlt' : wrap64 (2 ^ d) ≤ (t : Int) := by rw [ew]; omega
          generalize 2 ^ d = q at *
          clear ew e2
          clear HA HE h
          go_wp2_with (first | (with_reducible show wpList _ _ _ (⟨_, Op.load _ _, _, _, _, _⟩ :: _) _ _; first | (refine wpl_load_hash rfl _ rfl rfl (by assumption) ?_) | (refine wpl_load_one rfl 3 _ rfl rfl (EvoAt.cd (by assumption)) (by kernel_rfl) ?_) | (refine wpl_load_one rfl 3 _ rfl rfl (EvoAt.cp (by assumption)) (by kernel_rfl) ?_) | (refine wpl_load_one rfl 24 _ rfl rfl (EvoAt.cr (by assumption)) (by kernel_rfl) ?_) | (refine wpl_load_one rfl 24 _ rfl rfl (EvoAt.cs (by assumption)) (by kernel_rfl) ?_) | (refine wpl_load_leaf rfl _ rfl rfl (by assumption) ?_) | (refine wpl_load_evo rfl _ rfl rfl (by assumption) ?_)))
          all_goals
            go_ret
            exact ⟨rfl, b⟩
theorem evolveKeys_out (seed : List UInt8) (d t : Int) (hd : d < 0 ∨ 4 < d ∨ t < 0 ∨ 20 < t) (hs : seed.length = 32) (w : World) :
    Calls Try.prog 8 #[hv seed, .int .i64 d, .int .i64 t] w fun e w' => e = .returned (.bool true) ∧ Below w.heap.size w w' := by
  have HW := hide works06
  have HS := hide hs
  have b := Below.refl w.heap.size w
  clear hs
  unfold hv
  rcases hd with hd | hd | hd | hd
  all_goals
    have mF1 := True.intro
    have mF2 := True.intro
    go_enter Try.func8, Try.ntmps8
    go_wp2_with (first | (with_reducible show wpList _ _ _ (⟨_, Op.load _ _, _, _, _, _⟩ :: _) _ _; first | (refine wpl_load_hash rfl _ rfl rfl (by assumption) ?_) | (refine wpl_load_one rfl 3 _ rfl rfl (EvoAt.cd (by assumption)) (by kernel_rfl) ?_) | (refine wpl_load_one rfl 3 _ rfl rfl (EvoAt.cp (by assumption)) (by kernel_rfl) ?_) | (refine wpl_load_one rfl 24 _ rfl rfl (EvoAt.cr (by assumption)) (by kernel_rfl) ?_) | (refine wpl_load_one rfl 24 _ rfl rfl (EvoAt.cs (by assumption)) (by kernel_rfl) ?_) | (refine wpl_load_leaf rfl _ rfl rfl (by assumption) ?_) | (refine wpl_load_evo rfl _ rfl rfl (by assumption) ?_)) | (with_reducible show wpList _ _ _ (⟨_, Op.box _ _, _, _, _, _⟩ :: _) _ _; clear mF2; refine wpl_box_hash rfl _ rfl rfl HS.out ?_; intro _ g2 hg2 F2 hb; (try have := F1.lt); (try have := F2.lt); (try have := F3.lt); (try have := F4.lt); (try have := F5.lt); (try have := F6.lt); (try have := F7.lt); (try have := F8.lt); (try have := F9.lt); (try have := z.lt); (try have := G1.lt); (try have := G2.lt); (try have := G3.lt); (try have := b.size); (try replace F1 := F1.later hb); (try replace F2 := F2.later hb); (try replace F3 := F3.later hb); (try replace F4 := F4.later hb); (try replace F5 := F5.later hb); (try replace F6 := F6.later hb); (try replace F7 := F7.later hb); (try replace F8 := F8.later hb); (try replace F9 := F9.later hb); (try replace G1 := G1.later hb); (try replace G2 := G2.later hb); (try replace G3 := G3.later hb); (try replace z := z.later hb); (try replace b := later b hb); (try replace bB := mixed hB bB hb); clear hb) | (go_at_call 19; refine (HW.out _).mono ?_; rintro _ _ ⟨rfl, hc⟩; (try replace F1 := F1.later hc); (try replace F2 := F2.later hc); (try replace F3 := F3.later hc); (try replace F4 := F4.later hc); (try replace F5 := F5.later hc); (try replace F6 := F6.later hc); (try replace F7 := F7.later hc); (try replace F8 := F8.later hc); (try replace F9 := F9.later hc); (try replace G1 := G1.later hc); (try replace G2 := G2.later hc); (try replace G3 := G3.later hc); (try replace z := z.later hc); (try replace b := later b hc); (try replace bB := mixed hB bB hc); clear hc))
    all_goals
      go_ret
      exact ⟨rfl, b⟩
theorem evolveKeys_row (seed : List UInt8) (hs : seed.length = 32) (d : Int) (_ : (Lit.int .i64 d).wf = true) (t : Int) (_ : (Lit.int .i64 t).wf = true) (w : World) :
    Calls Try.prog 8 #[hv seed, .int .i64 d, .int .i64 t] w fun e w' => e = .returned (.bool true) ∧ Below w.heap.size w w' := by
  by_cases h : d < 0 ∨ 4 < d ∨ t < 0 ∨ 20 < t
  · exact evolveKeys_out seed d t h hs w
  · obtain ⟨n, rfl⟩ := Int.eq_ofNat_of_zero_le (show 0 ≤ d by omega)
    obtain ⟨m, rfl⟩ := Int.eq_ofNat_of_zero_le (show 0 ≤ t by omega)
    exact evolveKeys_in seed n m (by omega) (by omega) hs w
end Go.Proofs.Ytofjjpielkfloaa
