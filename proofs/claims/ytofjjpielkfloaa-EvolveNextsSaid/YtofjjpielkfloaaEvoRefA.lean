/- The reference of layer 6: Next. -/
import Derived.Test.YtofjjpielkfloaaEvoMakeL
import Derived.Test.YtofjjpielkfloaaEvoRef9
namespace Go.Proofs.Ytofjjpielkfloaa
open Go.RowKit Go.Lib
set_option linter.unusedVariables false
set_option linter.unusedSimpArgs false

theorem cons_of {n : Nat} {l : List UInt8} (h : l.length = n + 1) : ∃ x t, l = x :: t ∧ t.length = n := by
  cases l with
  | nil => cases h
  | cons x t => exact ⟨x, t, rfl, by simpa using h⟩
set_option maxRecDepth 100000 in
theorem evBuilt3 (d p : Int) {leaf : List UInt8} (h : leaf.length = 32) : Try.prog.built 26 [(0, .int .i64 d), (1, .int .i64 p), (2, hv leaf)] = some (evCs d p leaf (.slice none 0 0) (.slice none 0 0)).toArray := by
  obtain ⟨x0, t0, e0, h0⟩ := cons_of h
  obtain ⟨x1, t1, e1, h1⟩ := cons_of h0
  obtain ⟨x2, t2, e2, h2⟩ := cons_of h1
  obtain ⟨x3, t3, e3, h3⟩ := cons_of h2
  obtain ⟨x4, t4, e4, h4⟩ := cons_of h3
  obtain ⟨x5, t5, e5, h5⟩ := cons_of h4
  obtain ⟨x6, t6, e6, h6⟩ := cons_of h5
  obtain ⟨x7, t7, e7, h7⟩ := cons_of h6
  obtain ⟨x8, t8, e8, h8⟩ := cons_of h7
  obtain ⟨x9, t9, e9, h9⟩ := cons_of h8
  obtain ⟨x10, t10, e10, h10⟩ := cons_of h9
  obtain ⟨x11, t11, e11, h11⟩ := cons_of h10
  obtain ⟨x12, t12, e12, h12⟩ := cons_of h11
  obtain ⟨x13, t13, e13, h13⟩ := cons_of h12
  obtain ⟨x14, t14, e14, h14⟩ := cons_of h13
  obtain ⟨x15, t15, e15, h15⟩ := cons_of h14
  obtain ⟨x16, t16, e16, h16⟩ := cons_of h15
  obtain ⟨x17, t17, e17, h17⟩ := cons_of h16
  obtain ⟨x18, t18, e18, h18⟩ := cons_of h17
  obtain ⟨x19, t19, e19, h19⟩ := cons_of h18
  obtain ⟨x20, t20, e20, h20⟩ := cons_of h19
  obtain ⟨x21, t21, e21, h21⟩ := cons_of h20
  obtain ⟨x22, t22, e22, h22⟩ := cons_of h21
  obtain ⟨x23, t23, e23, h23⟩ := cons_of h22
  obtain ⟨x24, t24, e24, h24⟩ := cons_of h23
  obtain ⟨x25, t25, e25, h25⟩ := cons_of h24
  obtain ⟨x26, t26, e26, h26⟩ := cons_of h25
  obtain ⟨x27, t27, e27, h27⟩ := cons_of h26
  obtain ⟨x28, t28, e28, h28⟩ := cons_of h27
  obtain ⟨x29, t29, e29, h29⟩ := cons_of h28
  obtain ⟨x30, t30, e30, h30⟩ := cons_of h29
  obtain ⟨x31, t31, e31, h31⟩ := cons_of h30
  obtain rfl := List.eq_nil_of_length_eq_zero h31
  subst e31 e30 e29 e28 e27 e26 e25 e24 e23 e22 e21 e20 e19 e18 e17 e16 e15 e14 e13 e12 e11 e10 e9 e8 e7 e6 e5 e4 e3 e2 e1 e0
  clear h h0 h1 h2 h3 h4 h5 h6 h7 h8 h9 h10 h11 h12 h13 h14 h15 h16 h17 h18 h19 h20 h21 h22 h23 h24 h25 h26 h27 h28 h29 h30 h31
  kernel_rfl
theorem base_of {w : World} {g : Nat} {d p : Int} {leaf : List UInt8} {rv sv : Value} (h : EvoAt w g d p leaf rv sv) : ∃ B, B = w.heap.size ∧ Geq w B ∧ OwnU w B (.slice none 0 0) [] [] := ⟨_, rfl, Nat.le_refl _, own_nil _ _⟩
theorem st_of {w : World} {v v2 : Value} {l l2 : List (List UInt8)} (h : Hs w v l) (h2 : Hs w v2 l2) : ∃ m, m ≤ w.heap.size ∧ Stab (fun w => Hs w v l) m w ∧ Stab (fun w => Hs w v2 l2) m w := ⟨_, Nat.le_refl _, h.st, h2.st⟩
theorem take_more (l : List (List UInt8)) (r : Nat) (h : r < l.length) : l.take (r + 1) = l.take r ++ [l.getD r []] := by
  rw [List.take_succ_eq_append_getElem h]
  simp [List.getD_eq_getElem?_getD, List.getElem?_eq_getElem h]
theorem downE_right : ∀ (n : Nat) (s : List UInt8), (downE n s).1.length = n
  | 0, _ => rfl
  | n + 1, s => by rw [downE, List.length_cons, downE_right n]
theorem downE_side : ∀ (n : Nat) (s : List UInt8), (downE n s).2.1.length = n
  | 0, _ => rfl
  | n + 1, s => by rw [downE, List.length_cons, downE_side n]
/-- The last row of the first n at which the way goes left: as a number, -1 for none. -/
def lastI (d p n : Nat) : Int := match lastL d p n with | none => -1 | some j => j
theorem lastI_succ (d p n : Nat) : lastI d p (n + 1) = if wayB d p n then lastI d p n else (n : Int) := by
  by_cases h : wayB d p n = true <;> simp [lastI, lastL, h]
theorem lastI_neg {d p n : Nat} (h : lastI d p n < 0) : lastL d p n = none := by
  unfold lastI at h
  split at h
  · assumption
  · omega
theorem lastI_pos {d p n : Nat} {j : Nat} (h : lastI d p n = j) : lastL d p n = some j := by
  unfold lastI at h
  split at h
  · omega
  · rename_i heq
    rw [heq]
    congr 1
    omega
theorem lastI_lt (d p n : Nat) : -1 ≤ lastI d p n ∧ lastI d p n < n := by
  unfold lastI
  split
  · omega
  · rename_i j h
    have := lastL_lt d p n j h
    omega
set_option maxRecDepth 100000 in
set_option maxHeartbeats 3200000 in
theorem refNext06_any (k : Evo) (v : Value) (w : World) (hk : EvoIs w v k) :
    Calls Try.prog 30 #[v] w (EvoR w (nextK k).1 (nextK k).2) := by
  have HM := hide (fun v w h => refMay06_any k v w h)
  by_cases hm : mayE k = true
  case neg =>
    have hm' : mayE k = false := by simpa using hm
    have hn : nextK k = (evo0, 2) := by unfold nextK; rw [if_neg hm]
    rw [hm'] at HM
    rw [hn]
    obtain ⟨kd, kp, leaf, right, side⟩ := k
    obtain ⟨rv, sv, rfl, F3, F4, hl⟩ := hk
    simp only at F3 F4 hl ⊢
    obtain ⟨ar, cr, rfl, _⟩ := F3.shape
    obtain ⟨as', cs', rfl, _⟩ := F4.shape
    have HL := hide hl
    have b := Below.refl w.heap.size w
    clear hm hm' hl hn
    unfold evV
    have mF1 := True.intro
    have mF2 := True.intro
    go_enter Try.func30, Try.ntmps30
    go_wp2_with (first | (with_reducible show wpList _ _ _ (⟨_, Op.load _ _, _, _, _, _⟩ :: _) _ _; first | (refine wpl_load_hash rfl _ rfl rfl (by assumption) ?_) | (refine wpl_load_one rfl 3 _ rfl rfl (EvoAt.cd (by assumption)) (by kernel_rfl) ?_) | (refine wpl_load_one rfl 3 _ rfl rfl (EvoAt.cp (by assumption)) (by kernel_rfl) ?_) | (refine wpl_load_one rfl 24 _ rfl rfl (EvoAt.cr (by assumption)) (by kernel_rfl) ?_) | (refine wpl_load_one rfl 24 _ rfl rfl (EvoAt.cs (by assumption)) (by kernel_rfl) ?_) | (refine wpl_load_leaf rfl _ rfl rfl (by assumption) ?_) | (refine wpl_load_evo rfl _ rfl rfl (by assumption) ?_)) | (with_reducible show wpList _ _ _ (⟨_, Op.box _ _, _, _, _, _⟩ :: _) _ _; clear mF1; refine wpl_box_evo rfl _ rfl rfl HL.out rfl rfl ?_; intro _ g1 hg1 F1 hb; (try have := F1.lt); (try have := F2.lt); (try have := F3.lt); (try have := F4.lt); (try have := F5.lt); (try have := F6.lt); (try have := F7.lt); (try have := F8.lt); (try have := F9.lt); (try have := z.lt); (try have := G1.lt); (try have := G2.lt); (try have := G3.lt); (try have := b.size); (try replace F1 := F1.later hb); (try replace F2 := F2.later hb); (try replace F3 := F3.later hb); (try replace F4 := F4.later hb); (try replace F5 := F5.later hb); (try replace F6 := F6.later hb); (try replace F7 := F7.later hb); (try replace F8 := F8.later hb); (try replace F9 := F9.later hb); (try replace G1 := G1.later hb); (try replace G2 := G2.later hb); (try replace G3 := G3.later hb); (try replace z := z.later hb); (try replace b := later b hb); (try replace bB := mixed hB bB hb); clear hb) | (with_reducible show wpList _ _ _ (⟨_, Op.alloc _, _, _, _, _⟩ :: _) _ _; clear mF2; refine wpl_mk_evo rfl rfl ?_; intro _ g2 hg2 F2 hb; (try have := F1.lt); (try have := F2.lt); (try have := F3.lt); (try have := F4.lt); (try have := F5.lt); (try have := F6.lt); (try have := F7.lt); (try have := F8.lt); (try have := F9.lt); (try have := z.lt); (try have := G1.lt); (try have := G2.lt); (try have := G3.lt); (try have := b.size); (try replace F1 := F1.later hb); (try replace F2 := F2.later hb); (try replace F3 := F3.later hb); (try replace F4 := F4.later hb); (try replace F5 := F5.later hb); (try replace F6 := F6.later hb); (try replace F7 := F7.later hb); (try replace F8 := F8.later hb); (try replace F9 := F9.later hb); (try replace G1 := G1.later hb); (try replace G2 := G2.later hb); (try replace G3 := G3.later hb); (try replace z := z.later hb); (try replace b := later b hb); (try replace bB := mixed hB bB hb); clear hb) | (go_at_call 26; refine (HM.out _ _ ⟨_, _, rfl, F3, F4, HL.out⟩).mono ?_; rintro _ _ ⟨rfl, hc⟩; (try replace F1 := F1.later hc); (try replace F2 := F2.later hc); (try replace F3 := F3.later hc); (try replace F4 := F4.later hc); (try replace F5 := F5.later hc); (try replace F6 := F6.later hc); (try replace F7 := F7.later hc); (try replace F8 := F8.later hc); (try replace F9 := F9.later hc); (try replace G1 := G1.later hc); (try replace G2 := G2.later hc); (try replace G3 := G3.later hc); (try replace z := z.later hc); (try replace b := later b hc); (try replace bB := mixed hB bB hc); clear hc) | (with_reducible show wpList _ _ _ (⟨_, Op.build _ _, _, _, _, _⟩ :: _) _ _; refine wpl_build rfl 26 _ rfl (evCs 0 0 zero32 (.slice none 0 0) (.slice none 0 0)).toArray (by simpa using evBuilt0) ?_) | (with_reducible show wpList _ _ _ (⟨_, Op.store _ _ _, _, _, _, _⟩ :: _) _ _; refine wpl_set_evo rfl _ _ rfl rfl rfl rfl rfl rfl F2 ?_; intro _ t1 ht; (try replace F1 := F1.tt ht); (try replace F2 := F2.tt ht); (try replace F3 := F3.tt ht); (try replace F4 := F4.tt ht); (try replace F5 := F5.tt ht); (try replace F6 := F6.tt ht); (try replace F7 := F7.tt ht); (try replace F8 := F8.tt ht); (try replace F9 := F9.tt ht); (try replace G1 := G1.tt ht); (try replace G2 := G2.tt ht); (try replace G3 := G3.tt ht); (try replace z := z.tt ht); (try replace b := below_touch b ht (by omega) (by omega)); (try replace bB := below_touch bB ht (by omega) hB); replace F2 := t1; clear ht))
    exact bodyPost_ret (ret_evo_tmp rfl _ _ _ rfl rfl F2) rfl ⟨_, rfl, ⟨_, _, rfl, Hs.nil _, Hs.nil _, rfl⟩, b⟩
  obtain ⟨d, p, hd, hp, hd4, _, hp16, hrl, hsl, _⟩ := mayE_is hm
  obtain ⟨kd, kp, leaf, right, side⟩ := k
  simp only at hd hp hrl hsl
  subst hd
  subst hp
  obtain ⟨PR, hPR⟩ : ∃ PR, PR = nextK ⟨(d : Int), p, leaf, right, side⟩ := ⟨_, rfl⟩
  rw [← hPR]
  have HPN := hide (show lastL d p d = none → PR = (evo0, 4) from fun h => by rw [hPR]; unfold nextK; rw [if_pos hm]; simp only [Int.toNat_natCast, h])
  have HPS := hide (show ∀ j, lastL d p d = some j → PR = (nextAt d p j leaf right side, 0) from fun j h => by rw [hPR]; unfold nextK; rw [if_pos hm]; simp only [Int.toNat_natCast, h])
  rw [hm] at HM
  obtain ⟨rv, sv, rfl, h3, h4, hl⟩ := hk
  simp only at h3 h4 hl ⊢
  obtain ⟨ar, cr, rfl, hcr, _, _⟩ := h3.shape
  obtain ⟨as', cs', rfl, hcs, _, _⟩ := h4.shape
  rw [hrl] at h3 hcr ⊢
  rw [hsl] at h4 hcs ⊢
  have F3 := h3.st
  have F4 := h4.st
  have HSL := hide hsl
  have HRL := hide hrl
  have HL := hide hl
  have HPL := hide (publicL_length leaf)
  have HPK := hide (fun w => refPublic_any leaf hl w)
  have HDG := hide (fun w => digits_any d p hd4 hp16 w)
  have b := Below.refl w.heap.size w
  clear hm hl hrl hsl h3 h4 hPR
  unfold evV
  have mF1 := True.intro
  have mF2 := True.intro
  go_enter Try.func30, Try.ntmps30
  go_wp2_with (first | (with_reducible show wpList _ _ _ (⟨_, Op.load _ _, _, _, _, _⟩ :: _) _ _; first | (refine wpl_load_hash rfl _ rfl rfl (by assumption) ?_) | (refine wpl_load_one rfl 3 _ rfl rfl (EvoAt.cd (by assumption)) (by kernel_rfl) ?_) | (refine wpl_load_one rfl 3 _ rfl rfl (EvoAt.cp (by assumption)) (by kernel_rfl) ?_) | (refine wpl_load_one rfl 24 _ rfl rfl (EvoAt.cr (by assumption)) (by kernel_rfl) ?_) | (refine wpl_load_one rfl 24 _ rfl rfl (EvoAt.cs (by assumption)) (by kernel_rfl) ?_) | (refine wpl_load_leaf rfl _ rfl rfl (by assumption) ?_) | (refine wpl_load_evo rfl _ rfl rfl (by assumption) ?_)) | (with_reducible show wpList _ _ _ (⟨_, Op.box _ _, _, _, _, _⟩ :: _) _ _; clear mF1; refine wpl_box_evo rfl _ rfl rfl HL.out rfl rfl ?_; intro _ g1 hg1 F1 hb; (try have := F1.lt); (try have := F2.lt); (try have := F3.lt); (try have := F4.lt); (try have := F5.lt); (try have := F6.lt); (try have := F7.lt); (try have := F8.lt); (try have := F9.lt); (try have := z.lt); (try have := G1.lt); (try have := G2.lt); (try have := G3.lt); (try have := b.size); (try replace F1 := F1.later hb); (try replace F2 := F2.later hb); (try replace F3 := F3.later hb); (try replace F4 := F4.later hb); (try replace F5 := F5.later hb); (try replace F6 := F6.later hb); (try replace F7 := F7.later hb); (try replace F8 := F8.later hb); (try replace F9 := F9.later hb); (try replace G1 := G1.later hb); (try replace G2 := G2.later hb); (try replace G3 := G3.later hb); (try replace z := z.later hb); (try replace b := later b hb); (try replace bB := mixed hB bB hb); clear hb) | (with_reducible show wpList _ _ _ (⟨_, Op.alloc _, _, _, _, _⟩ :: _) _ _; clear mF2; refine wpl_mk_evo rfl rfl ?_; intro _ g2 hg2 F2 hb; (try have := F1.lt); (try have := F2.lt); (try have := F3.lt); (try have := F4.lt); (try have := F5.lt); (try have := F6.lt); (try have := F7.lt); (try have := F8.lt); (try have := F9.lt); (try have := z.lt); (try have := G1.lt); (try have := G2.lt); (try have := G3.lt); (try have := b.size); (try replace F1 := F1.later hb); (try replace F2 := F2.later hb); (try replace F3 := F3.later hb); (try replace F4 := F4.later hb); (try replace F5 := F5.later hb); (try replace F6 := F6.later hb); (try replace F7 := F7.later hb); (try replace F8 := F8.later hb); (try replace F9 := F9.later hb); (try replace G1 := G1.later hb); (try replace G2 := G2.later hb); (try replace G3 := G3.later hb); (try replace z := z.later hb); (try replace b := later b hb); (try replace bB := mixed hB bB hb); clear hb) | (go_at_call 26; refine (HM.out _ _ ⟨_, _, rfl, F3.now, F4.now, HL.out⟩).mono ?_; rintro _ _ ⟨rfl, hc⟩; (try replace F1 := F1.later hc); (try replace F2 := F2.later hc); (try replace F3 := F3.later hc); (try replace F4 := F4.later hc); (try replace F5 := F5.later hc); (try replace F6 := F6.later hc); (try replace F7 := F7.later hc); (try replace F8 := F8.later hc); (try replace F9 := F9.later hc); (try replace G1 := G1.later hc); (try replace G2 := G2.later hc); (try replace G3 := G3.later hc); (try replace z := z.later hc); (try replace b := later b hc); (try replace bB := mixed hB bB hc); clear hc) | (go_at_call 65; refine (HDG.out _).mono ?_; rintro _ wd ⟨a, c, rfl, F5, hc⟩; (try replace F1 := F1.later hc); (try replace F2 := F2.later hc); (try replace F3 := F3.later hc); (try replace F4 := F4.later hc); (try replace F5 := F5.later hc); (try replace F6 := F6.later hc); (try replace F7 := F7.later hc); (try replace F8 := F8.later hc); (try replace F9 := F9.later hc); (try replace G1 := G1.later hc); (try replace G2 := G2.later hc); (try replace G3 := G3.later hc); (try replace z := z.later hc); (try replace b := later b hc); (try replace bB := mixed hB bB hc); clear hc))
  obtain ⟨m8, hm8, F8⟩ : ∃ m, m = wd.heap.size ∧ Stab (fun w => Sl w (.slice a d c) 1 (lowB p d)) m wd := ⟨_, rfl, F5.sl.st⟩
  clear F5
  have hsh := bits_shape F8.now
  unfold maxLen at hsh
  have hw2 : w.heap.size ≤ g2 := by omega
  have k2 : g2 < m8 := by have := F2.lt; omega
  clear hm8
  go_loopw [5, 6] (fun q i wr => ∃ n : Nat, q = .int .i64 (lastI d p n) ∧ i = .int .i64 n ∧ n ≤ d ∧ EvoAt wr g1 d p leaf (.slice ar d cr) (.slice as' d cs') ∧ EvoAt wr g2 0 0 zero32 (.slice none 0 0) (.slice none 0 0) ∧ Stab (fun w => Hs w (.slice ar d cr) right) w.heap.size wr ∧ Stab (fun w => Hs w (.slice as' d cs') side) w.heap.size wr ∧ Stab (fun w => Sl w (.slice a d c) 1 (lowB p d)) m8 wr ∧ Below w.heap.size w wr) (fun _ i _ => d - (RowKit.intOf i).toNat)
  case atStart => exact ⟨0, rfl, rfl, by omega, F1, F2, F3, F4, F8, b⟩
  case round =>
    clear F1 F2 F3 F4 F8 b
    obtain ⟨n, rfl, rfl, hn, F1, F2, F3, F4, F8, b⟩ := hrel
    by_cases hlt : n < d
    · obtain ⟨bb, kk, rfl, hcell⟩ := bits_cell F8.now hlt
      have HN := hide (lastI_succ d p n)
      by_cases hw : wayB d p n = true
      · rw [hw] at hcell
        have HN' : Hid (lastI d p (n + 1) = lastI d p n) := by have h := HN.out; rw [if_pos hw] at h; exact h
        clear HN hw
        generalize lastI d p n = q at *
        go_wp2_with (first | (with_reducible show wpList _ _ _ (⟨_, Op.load _ _, _, _, _, _⟩ :: _) _ _; refine wpl_load_one rfl 4 _ rfl rfl hcell (by kernel_rfl) ?_) | (with_reducible show wpList _ _ _ (⟨_, Op.load _ _, _, _, _, _⟩ :: _) _ _; first | (refine wpl_load_hash rfl _ rfl rfl (by assumption) ?_) | (refine wpl_load_one rfl 3 _ rfl rfl (EvoAt.cd (by assumption)) (by kernel_rfl) ?_) | (refine wpl_load_one rfl 3 _ rfl rfl (EvoAt.cp (by assumption)) (by kernel_rfl) ?_) | (refine wpl_load_one rfl 24 _ rfl rfl (EvoAt.cr (by assumption)) (by kernel_rfl) ?_) | (refine wpl_load_one rfl 24 _ rfl rfl (EvoAt.cs (by assumption)) (by kernel_rfl) ?_) | (refine wpl_load_leaf rfl _ rfl rfl (by assumption) ?_) | (refine wpl_load_evo rfl _ rfl rfl (by assumption) ?_)))
        go_roundw
        case rel => exact ⟨n + 1, by rw [HN'.out], by simp, by omega, F1, F2, F3, F4, F8, b⟩
        case measure => simp [RowKit.intOf]; omega
      · have hw' : wayB d p n = false := by simpa using hw
        rw [hw'] at hcell
        have HN' : Hid (lastI d p (n + 1) = n) := by have h := HN.out; rw [if_neg hw] at h; exact h
        clear HN hw hw'
        generalize lastI d p n = q at *
        go_wp2_with (first | (with_reducible show wpList _ _ _ (⟨_, Op.load _ _, _, _, _, _⟩ :: _) _ _; refine wpl_load_one rfl 4 _ rfl rfl hcell (by kernel_rfl) ?_) | (with_reducible show wpList _ _ _ (⟨_, Op.load _ _, _, _, _, _⟩ :: _) _ _; first | (refine wpl_load_hash rfl _ rfl rfl (by assumption) ?_) | (refine wpl_load_one rfl 3 _ rfl rfl (EvoAt.cd (by assumption)) (by kernel_rfl) ?_) | (refine wpl_load_one rfl 3 _ rfl rfl (EvoAt.cp (by assumption)) (by kernel_rfl) ?_) | (refine wpl_load_one rfl 24 _ rfl rfl (EvoAt.cr (by assumption)) (by kernel_rfl) ?_) | (refine wpl_load_one rfl 24 _ rfl rfl (EvoAt.cs (by assumption)) (by kernel_rfl) ?_) | (refine wpl_load_leaf rfl _ rfl rfl (by assumption) ?_) | (refine wpl_load_evo rfl _ rfl rfl (by assumption) ?_)))
        go_roundw
        case rel => exact ⟨n + 1, by rw [HN'.out], by simp, by omega, F1, F2, F3, F4, F8, b⟩
        case measure => simp [RowKit.intOf]; omega
    · obtain rfl : d = n := by omega
      have hil := lastI_lt d p d
      by_cases hneg : lastI d p d < 0
      · have HPR := hide (HPN.out (lastI_neg hneg))
        generalize lastI d p d = q at *
        clear HPN HPS
        go_wp2_with (first | (with_reducible show wpList _ _ _ (⟨_, Op.load _ _, _, _, _, _⟩ :: _) _ _; first | (refine wpl_load_hash rfl _ rfl rfl (by assumption) ?_) | (refine wpl_load_one rfl 3 _ rfl rfl (EvoAt.cd (by assumption)) (by kernel_rfl) ?_) | (refine wpl_load_one rfl 3 _ rfl rfl (EvoAt.cp (by assumption)) (by kernel_rfl) ?_) | (refine wpl_load_one rfl 24 _ rfl rfl (EvoAt.cr (by assumption)) (by kernel_rfl) ?_) | (refine wpl_load_one rfl 24 _ rfl rfl (EvoAt.cs (by assumption)) (by kernel_rfl) ?_) | (refine wpl_load_leaf rfl _ rfl rfl (by assumption) ?_) | (refine wpl_load_evo rfl _ rfl rfl (by assumption) ?_)) | (with_reducible show wpList _ _ _ (⟨_, Op.build _ _, _, _, _, _⟩ :: _) _ _; refine wpl_build rfl 26 _ rfl (evCs 0 0 zero32 (.slice none 0 0) (.slice none 0 0)).toArray (by simpa using evBuilt0) ?_) | (with_reducible show wpList _ _ _ (⟨_, Op.store _ _ _, _, _, _, _⟩ :: _) _ _; refine wpl_set_evo rfl _ _ rfl rfl rfl rfl rfl rfl F2 ?_; intro _ t1 ht; (try replace F1 := F1.tt ht); (try replace F2 := F2.tt ht); (try replace F3 := F3.tt ht); (try replace F4 := F4.tt ht); (try replace F5 := F5.tt ht); (try replace F6 := F6.tt ht); (try replace F7 := F7.tt ht); (try replace F8 := F8.tt ht); (try replace F9 := F9.tt ht); (try replace G1 := G1.tt ht); (try replace G2 := G2.tt ht); (try replace G3 := G3.tt ht); (try replace z := z.tt ht); (try replace b := below_touch b ht (by omega) (by omega)); (try replace bB := below_touch bB ht (by omega) hB); replace F2 := t1; clear ht))
        exact bodyPost_ret (ret_evo_tmp rfl _ _ _ rfl rfl F2) rfl (by rw [HPR.out]; exact ⟨_, rfl, ⟨_, _, rfl, Hs.nil _, Hs.nil _, rfl⟩, b⟩)
      · obtain ⟨j, hj⟩ := Int.eq_ofNat_of_zero_le (Int.not_lt.1 hneg)
        have hjn : j < d := by omega
        have HPR := hide (HPS.out j (lastI_pos hj))
        rw [hj] at hil ⊢
        clear hneg HPN HPS hj hil
        have HNX : Hid (nextAt d p j leaf right side = ⟨d, (p : Int) + 1, (downE (d - (j + 1)) (right.getD j [])).2.2, (right.take j ++ [zero32]) ++ (downE (d - (j + 1)) (right.getD j [])).1,
            (side.take j ++ [upE d p (j + 1) (fun i => side.getD i []) (d - (j + 1)) (publicL leaf)]) ++ (downE (d - (j + 1)) (right.getD j [])).2.1⟩) := rfl
        have hs32 := side_len F3.now (i := j) (by rw [HRL.out]; exact hjn)
        obtain ⟨b0, k0, cap0, hv0, _, _, _, hcs0⟩ := F3.now.block (by rw [HRL.out]; omega)
        simp only [Value.slice.injEq] at hv0
        obtain ⟨rfl, -, rfl⟩ := hv0
        have F5 := Cells.st (hcs0 j (by rw [HRL.out]; omega))
        have HSD := hide hs32
        obtain ⟨D, hD⟩ : ∃ D, D = d - (j + 1) := ⟨_, rfl⟩
        have HDJ := hide hD
        have hD4 : D ≤ 4 := by omega
        have HK : Hid (∀ w, Calls Try.prog 24 #[hv (right.getD j []), .int .i64 ((d : Int) - 1 - (j : Int)), .int .i64 0] w fun e w' => ∃ v, e = .returned v ∧ EvoOwn w' w.heap.size v ⟨D, 0, (downE D (right.getD j [])).2.2, (downE D (right.getD j [])).1, (downE D (right.getD j [])).2.1⟩ ∧ Below w.heap.size w w') := fun w => by
          have h := key_any (right.getD j []) D 0 hD4 (by omega) HSD.out w
          unfold keyE at h
          rw [keyF_down] at h
          rw [show (d : Int) - 1 - (j : Int) = (D : Int) by omega]
          exact h
        have HOV : Hid (∀ (w : World), Sl w (.slice a d c) 1 (lowB p d) → Hs w (.slice as' d cs') side → Calls Try.prog 69 #[hv (publicL leaf), .slice a d c, .slice as' d cs', .int .i64 ((j : Int) + 1)] w fun e w' => e = .returned (hv (upE d p (j + 1) (fun i => side.getD i []) (d - (j + 1)) (publicL leaf))) ∧ Below w.heap.size w w') := fun w h1 h2 =>
          over_any (publicL leaf) d p (j + 1) a c _ side w HPL.out hd4 (by omega) HSL.out h1 h2
        have HUL := hide (upE_length d p (j + 1) (fun i => side.getD i []) (d - (j + 1)) (publicL leaf) HPL.out)
        rw [← hD] at HNX HOV HUL
        generalize upE d p (j + 1) (fun i => side.getD i []) D (publicL leaf) = U at *
        generalize publicL leaf = PL at *
        generalize nextAt d p j leaf right side = NX at *
        have HRLn := HRL
        have HSLn := HSL
        obtain ⟨LL, hLL⟩ : ∃ x, x = (downE D (right.getD j [])).2.2 := ⟨_, rfl⟩
        obtain ⟨RR, hRR⟩ : ∃ x, x = (downE D (right.getD j [])).1 := ⟨_, rfl⟩
        obtain ⟨SS, hSS⟩ : ∃ x, x = (downE D (right.getD j [])).2.1 := ⟨_, rfl⟩
        have HDR : Hid (RR.length = D) := by rw [hRR]; exact downE_right _ _
        have HDS : Hid (SS.length = D) := by rw [hSS]; exact downE_side _ _
        rw [← hLL, ← hRR, ← hSS] at HK HNX
        clear hs32 hcs0 hLL hRR hSS hlt HDG HM
        generalize right.getD j [] = s at *
        clear hD
        have mF7 := True.intro
        have mF9 := True.intro
        go_wp2_with (first | (with_reducible show wpList _ _ _ (⟨_, Op.load _ _, _, _, _, _⟩ :: _) _ _; first | (refine wpl_load_hash rfl _ rfl rfl (by assumption) ?_) | (refine wpl_load_one rfl 3 _ rfl rfl (EvoAt.cd (by assumption)) (by kernel_rfl) ?_) | (refine wpl_load_one rfl 3 _ rfl rfl (EvoAt.cp (by assumption)) (by kernel_rfl) ?_) | (refine wpl_load_one rfl 24 _ rfl rfl (EvoAt.cr (by assumption)) (by kernel_rfl) ?_) | (refine wpl_load_one rfl 24 _ rfl rfl (EvoAt.cs (by assumption)) (by kernel_rfl) ?_) | (refine wpl_load_leaf rfl _ rfl rfl (by assumption) ?_) | (refine wpl_load_evo rfl _ rfl rfl (by assumption) ?_)) | (with_reducible show Code.wp _ (Code.region _ _ true) _ _ _; (try simp only [Act.put, List.setIfInBounds_toArray, List.set_cons_succ, List.set_cons_zero]); fail))
        (try simp only [Act.put, List.setIfInBounds_toArray, List.set_cons_succ, List.set_cons_zero])
        refine region_plan (fun x => Below (World.heap _).size _ x) (.two [0, 1, 2, 3, 4, 5, 6, 7, 8, 9] 10 (.one [] 11 (.bar [] 12 (.stop []))) 11 (.one [] 10 (.bar [] 12 (.stop [])))) (by kernel_rfl) (by kernel_rfl) (by kernel_rfl) (by decide) (lasts_below (Nat.le_refl _)) (Below.refl _ _) ?_
        intro wpl0 _ _ _
        refine plan_two ?_
        simp only [pickOps, opAt, List.getElem?_cons_succ, List.getElem?_cons_zero, List.nil_append, List.cons_append]
        (repeat (first | go_big_quiet_skip | (go_big_quiet_want; first | (refine plan_load_hash _ rfl rfl (by assumption) ?_; simp only [Act.put, List.setIfInBounds_toArray, List.set_cons_succ, List.set_cons_zero]; go_big_quiet_on) | (refine plan_load_one 3 _ rfl rfl (EvoAt.cd (by assumption)) (by kernel_rfl) ?_; simp only [Act.put, List.setIfInBounds_toArray, List.set_cons_succ, List.set_cons_zero]; go_big_quiet_on) | (refine plan_load_one 3 _ rfl rfl (EvoAt.cp (by assumption)) (by kernel_rfl) ?_; simp only [Act.put, List.setIfInBounds_toArray, List.set_cons_succ, List.set_cons_zero]; go_big_quiet_on) | (refine plan_load_one 24 _ rfl rfl (EvoAt.cr (by assumption)) (by kernel_rfl) ?_; simp only [Act.put, List.setIfInBounds_toArray, List.set_cons_succ, List.set_cons_zero]; go_big_quiet_on) | (refine plan_load_one 24 _ rfl rfl (EvoAt.cs (by assumption)) (by kernel_rfl) ?_; simp only [Act.put, List.setIfInBounds_toArray, List.set_cons_succ, List.set_cons_zero]; go_big_quiet_on) | (refine plan_load_leaf _ rfl rfl (by assumption) ?_; simp only [Act.put, List.setIfInBounds_toArray, List.set_cons_succ, List.set_cons_zero]; go_big_quiet_on) | (refine plan_load_elem _ rfl rfl F5.now HSD.out ?_; simp only [Act.put, List.setIfInBounds_toArray, List.set_cons_succ, List.set_cons_zero]; go_big_quiet_on) | (go_big_quiet_op; go_big_quiet_on))))
        refine wpQuiet_nil ?_
        intro _ hp k
        (try replace F1 := F1.later k); (try replace F2 := F2.later k); (try replace F3 := F3.later k); (try replace F4 := F4.later k); (try replace F5 := F5.later k); (try replace F6 := F6.later k); (try replace F7 := F7.later k); (try replace F8 := F8.later k); (try replace F9 := F9.later k); (try replace G1 := G1.later k); (try replace G2 := G2.later k); (try replace G3 := G3.later k); (try replace z := z.later k); (try replace b := later b k); (try replace bB := mixed hB bB k)
        clear hp F5
        refine And.intro ?A ?B
        case' A =>
          go_wp2_with (go_at_call 24; refine (HK.out _).mono ?_; rintro _ w5 ⟨v, rfl, ⟨rv, sv, rfl, F5, F6, hl⟩, hc⟩; replace k := later k hc; (try replace F1 := F1.later hc); (try replace F2 := F2.later hc); (try replace F3 := F3.later hc); (try replace F4 := F4.later hc); (try replace F5 := F5.later hc); (try replace F6 := F6.later hc); (try replace F7 := F7.later hc); (try replace F8 := F8.later hc); (try replace F9 := F9.later hc); (try replace G1 := G1.later hc); (try replace G2 := G2.later hc); (try replace G3 := G3.later hc); (try replace z := z.later hc); (try replace b := later b hc); (try replace bB := mixed hB bB hc); clear hc)
          (try simp only at F5 F6 hl)
          obtain ⟨ra, rc, rfl⟩ := F5.shape
          obtain ⟨sa, sc, rfl⟩ := F6.shape
          rw [HDR.out] at F5 ⊢
          rw [HDS.out] at F6 ⊢
          have HLL := hide hl
          clear hl
          refine goQ_since (lasts_below (Nat.le_refl _)) k ?_
          clear k
          (try simp only [Act.put, List.setIfInBounds_toArray, List.set_cons_succ, List.set_cons_zero])
          refine plan_one ?_
          simp only [pickOps, opAt, List.getElem?_cons_succ, List.getElem?_cons_zero, List.nil_append, List.cons_append]
          (repeat (first | go_big_quiet_skip | (go_big_quiet_want; first | (refine plan_load_hash _ rfl rfl (by assumption) ?_; simp only [Act.put, List.setIfInBounds_toArray, List.set_cons_succ, List.set_cons_zero]; go_big_quiet_on) | (refine plan_load_one 3 _ rfl rfl (EvoAt.cd (by assumption)) (by kernel_rfl) ?_; simp only [Act.put, List.setIfInBounds_toArray, List.set_cons_succ, List.set_cons_zero]; go_big_quiet_on) | (refine plan_load_one 3 _ rfl rfl (EvoAt.cp (by assumption)) (by kernel_rfl) ?_; simp only [Act.put, List.setIfInBounds_toArray, List.set_cons_succ, List.set_cons_zero]; go_big_quiet_on) | (refine plan_load_one 24 _ rfl rfl (EvoAt.cr (by assumption)) (by kernel_rfl) ?_; simp only [Act.put, List.setIfInBounds_toArray, List.set_cons_succ, List.set_cons_zero]; go_big_quiet_on) | (refine plan_load_one 24 _ rfl rfl (EvoAt.cs (by assumption)) (by kernel_rfl) ?_; simp only [Act.put, List.setIfInBounds_toArray, List.set_cons_succ, List.set_cons_zero]; go_big_quiet_on) | (refine plan_load_leaf _ rfl rfl (by assumption) ?_; simp only [Act.put, List.setIfInBounds_toArray, List.set_cons_succ, List.set_cons_zero]; go_big_quiet_on) | (go_big_quiet_op; go_big_quiet_on))))
          refine wpQuiet_nil ?_
          intro _ _ k
          (try replace F1 := F1.later k); (try replace F2 := F2.later k); (try replace F3 := F3.later k); (try replace F4 := F4.later k); (try replace F5 := F5.later k); (try replace F6 := F6.later k); (try replace F7 := F7.later k); (try replace F8 := F8.later k); (try replace F9 := F9.later k); (try replace G1 := G1.later k); (try replace G2 := G2.later k); (try replace G3 := G3.later k); (try replace z := z.later k); (try replace b := later b k); (try replace bB := mixed hB bB k)
          have qb := b.size
          have l1 := F1.lt
          have l2 := F2.lt
          have l8 := F8.1
          have l5 := OwnU.lt F5
          have l6 := OwnU.lt F6
          refine wpl_mk_evo rfl rfl ?_
          intro _ g7 hg7 F7 hb
          replace F5 := OwnU.more F5 (g := g7) l5 hg7
          replace F6 := OwnU.more F6 (g := g7) l6 hg7
          clear l5 l6
          replace k := later k hb
          (try replace F1 := F1.later hb); (try replace F2 := F2.later hb); (try replace F3 := F3.later hb); (try replace F4 := F4.later hb); (try replace F5 := F5.later hb); (try replace F6 := F6.later hb); (try replace F7 := F7.later hb); (try replace F8 := F8.later hb); (try replace F9 := F9.later hb); (try replace G1 := G1.later hb); (try replace G2 := G2.later hb); (try replace G3 := G3.later hb); (try replace z := z.later hb); (try replace b := later b hb); (try replace bB := mixed hB bB hb)
          clear hb
          refine goQ_since (lasts_below (Nat.le_refl _)) k ?_
          clear k
          (try simp only [Act.put, List.setIfInBounds_toArray, List.set_cons_succ, List.set_cons_zero])
          refine plan_bar ?_
          simp only [pickOps, opAt, List.getElem?_cons_succ, List.getElem?_cons_zero, List.nil_append, List.cons_append]
          (repeat (first | go_big_quiet_skip | (go_big_quiet_want; first | (refine plan_load_hash _ rfl rfl (by assumption) ?_; simp only [Act.put, List.setIfInBounds_toArray, List.set_cons_succ, List.set_cons_zero]; go_big_quiet_on) | (refine plan_load_one 3 _ rfl rfl (EvoAt.cd (by assumption)) (by kernel_rfl) ?_; simp only [Act.put, List.setIfInBounds_toArray, List.set_cons_succ, List.set_cons_zero]; go_big_quiet_on) | (refine plan_load_one 3 _ rfl rfl (EvoAt.cp (by assumption)) (by kernel_rfl) ?_; simp only [Act.put, List.setIfInBounds_toArray, List.set_cons_succ, List.set_cons_zero]; go_big_quiet_on) | (refine plan_load_one 24 _ rfl rfl (EvoAt.cr (by assumption)) (by kernel_rfl) ?_; simp only [Act.put, List.setIfInBounds_toArray, List.set_cons_succ, List.set_cons_zero]; go_big_quiet_on) | (refine plan_load_one 24 _ rfl rfl (EvoAt.cs (by assumption)) (by kernel_rfl) ?_; simp only [Act.put, List.setIfInBounds_toArray, List.set_cons_succ, List.set_cons_zero]; go_big_quiet_on) | (refine plan_load_leaf _ rfl rfl (by assumption) ?_; simp only [Act.put, List.setIfInBounds_toArray, List.set_cons_succ, List.set_cons_zero]; go_big_quiet_on) | (go_big_quiet_op; go_big_quiet_on))))
          refine wpQuiet_nil ?_
          intro _ _ k
          (try replace F1 := F1.later k); (try replace F2 := F2.later k); (try replace F3 := F3.later k); (try replace F4 := F4.later k); (try replace F5 := F5.later k); (try replace F6 := F6.later k); (try replace F7 := F7.later k); (try replace F8 := F8.later k); (try replace F9 := F9.later k); (try replace G1 := G1.later k); (try replace G2 := G2.later k); (try replace G3 := G3.later k); (try replace z := z.later k); (try replace b := later b k); (try replace bB := mixed hB bB k)
          clear k
          go_wp2_with (with_reducible show wpList _ _ _ (⟨_, Op.store _ _ _, _, _, _, _⟩ :: _) _ _; refine wpl_set_evo rfl _ _ rfl rfl rfl HLL.out rfl rfl F7 ?_; intro _ t1 ht; (try replace F1 := F1.tt ht); (try replace F2 := F2.tt ht); (try replace F3 := F3.tt ht); (try replace F4 := F4.tt ht); (try replace F5 := F5.tt ht); (try replace F6 := F6.tt ht); (try replace F7 := F7.tt ht); (try replace F8 := F8.tt ht); (try replace F9 := F9.tt ht); (try replace G1 := G1.tt ht); (try replace G2 := G2.tt ht); (try replace G3 := G3.tt ht); (try replace z := z.tt ht); (try replace b := below_touch b ht (by omega) (by omega)); (try replace bB := below_touch bB ht (by omega) hB); replace F7 := t1; clear ht)
          refine goB_since ?_
          (try simp only [Act.put, List.setIfInBounds_toArray, List.set_cons_succ, List.set_cons_zero])
          refine plan_stop ?_
          simp only [pickOps, opAt, List.getElem?_cons_succ, List.getElem?_cons_zero, List.nil_append, List.cons_append]
          (repeat (first | go_big_quiet_skip | (go_big_quiet_want; first | (refine plan_load_hash _ rfl rfl (by assumption) ?_; simp only [Act.put, List.setIfInBounds_toArray, List.set_cons_succ, List.set_cons_zero]; go_big_quiet_on) | (refine plan_load_one 3 _ rfl rfl (EvoAt.cd (by assumption)) (by kernel_rfl) ?_; simp only [Act.put, List.setIfInBounds_toArray, List.set_cons_succ, List.set_cons_zero]; go_big_quiet_on) | (refine plan_load_one 3 _ rfl rfl (EvoAt.cp (by assumption)) (by kernel_rfl) ?_; simp only [Act.put, List.setIfInBounds_toArray, List.set_cons_succ, List.set_cons_zero]; go_big_quiet_on) | (refine plan_load_one 24 _ rfl rfl (EvoAt.cr (by assumption)) (by kernel_rfl) ?_; simp only [Act.put, List.setIfInBounds_toArray, List.set_cons_succ, List.set_cons_zero]; go_big_quiet_on) | (refine plan_load_one 24 _ rfl rfl (EvoAt.cs (by assumption)) (by kernel_rfl) ?_; simp only [Act.put, List.setIfInBounds_toArray, List.set_cons_succ, List.set_cons_zero]; go_big_quiet_on) | (refine plan_load_leaf _ rfl rfl (by assumption) ?_; simp only [Act.put, List.setIfInBounds_toArray, List.set_cons_succ, List.set_cons_zero]; go_big_quiet_on) | (go_big_quiet_op; go_big_quiet_on))))
          refine wpQuiet_nil ?_
          intro _ _ k
          (try replace F1 := F1.later k); (try replace F2 := F2.later k); (try replace F3 := F3.later k); (try replace F4 := F4.later k); (try replace F5 := F5.later k); (try replace F6 := F6.later k); (try replace F7 := F7.later k); (try replace F8 := F8.later k); (try replace F9 := F9.later k); (try replace G1 := G1.later k); (try replace G2 := G2.later k); (try replace G3 := G3.later k); (try replace z := z.later k); (try replace b := later b k); (try replace bB := mixed hB bB k)
          clear k
        case' B =>
          have qb := b.size
          refine wpl_mk_evo rfl rfl ?_
          have l1 := F1.lt
          have l2 := F2.lt
          have l8 := F8.1
          intro _ g7 hg7 F7 hb
          replace k := later k hb
          (try replace F1 := F1.later hb); (try replace F2 := F2.later hb); (try replace F3 := F3.later hb); (try replace F4 := F4.later hb); (try replace F5 := F5.later hb); (try replace F6 := F6.later hb); (try replace F7 := F7.later hb); (try replace F8 := F8.later hb); (try replace F9 := F9.later hb); (try replace G1 := G1.later hb); (try replace G2 := G2.later hb); (try replace G3 := G3.later hb); (try replace z := z.later hb); (try replace b := later b hb); (try replace bB := mixed hB bB hb)
          clear hb
          refine goQ_since (lasts_below (Nat.le_refl _)) k ?_
          clear k
          (try simp only [Act.put, List.setIfInBounds_toArray, List.set_cons_succ, List.set_cons_zero])
          refine plan_one ?_
          simp only [pickOps, opAt, List.getElem?_cons_succ, List.getElem?_cons_zero, List.nil_append, List.cons_append]
          (repeat (first | go_big_quiet_skip | (go_big_quiet_want; first | (refine plan_load_hash _ rfl rfl (by assumption) ?_; simp only [Act.put, List.setIfInBounds_toArray, List.set_cons_succ, List.set_cons_zero]; go_big_quiet_on) | (refine plan_load_one 3 _ rfl rfl (EvoAt.cd (by assumption)) (by kernel_rfl) ?_; simp only [Act.put, List.setIfInBounds_toArray, List.set_cons_succ, List.set_cons_zero]; go_big_quiet_on) | (refine plan_load_one 3 _ rfl rfl (EvoAt.cp (by assumption)) (by kernel_rfl) ?_; simp only [Act.put, List.setIfInBounds_toArray, List.set_cons_succ, List.set_cons_zero]; go_big_quiet_on) | (refine plan_load_one 24 _ rfl rfl (EvoAt.cr (by assumption)) (by kernel_rfl) ?_; simp only [Act.put, List.setIfInBounds_toArray, List.set_cons_succ, List.set_cons_zero]; go_big_quiet_on) | (refine plan_load_one 24 _ rfl rfl (EvoAt.cs (by assumption)) (by kernel_rfl) ?_; simp only [Act.put, List.setIfInBounds_toArray, List.set_cons_succ, List.set_cons_zero]; go_big_quiet_on) | (refine plan_load_leaf _ rfl rfl (by assumption) ?_; simp only [Act.put, List.setIfInBounds_toArray, List.set_cons_succ, List.set_cons_zero]; go_big_quiet_on) | (go_big_quiet_op; go_big_quiet_on))))
          refine wpQuiet_nil ?_
          intro _ _ k
          (try replace F1 := F1.later k); (try replace F2 := F2.later k); (try replace F3 := F3.later k); (try replace F4 := F4.later k); (try replace F5 := F5.later k); (try replace F6 := F6.later k); (try replace F7 := F7.later k); (try replace F8 := F8.later k); (try replace F9 := F9.later k); (try replace G1 := G1.later k); (try replace G2 := G2.later k); (try replace G3 := G3.later k); (try replace z := z.later k); (try replace b := later b k); (try replace bB := mixed hB bB k)
          have h7 := F7.lt
          go_wp2_with (go_at_call 24; refine (HK.out _).mono ?_; rintro _ w5 ⟨v, rfl, ⟨rv, sv, rfl, F5, F6, hl⟩, hc⟩; replace k := later k hc; (try replace F1 := F1.later hc); (try replace F2 := F2.later hc); (try replace F3 := F3.later hc); (try replace F4 := F4.later hc); (try replace F5 := F5.later hc); (try replace F6 := F6.later hc); (try replace F7 := F7.later hc); (try replace F8 := F8.later hc); (try replace F9 := F9.later hc); (try replace G1 := G1.later hc); (try replace G2 := G2.later hc); (try replace G3 := G3.later hc); (try replace z := z.later hc); (try replace b := later b hc); (try replace bB := mixed hB bB hc); clear hc)
          (try simp only at F5 F6 hl)
          obtain ⟨ra, rc, rfl⟩ := F5.shape
          obtain ⟨sa, sc, rfl⟩ := F6.shape
          rw [HDR.out] at F5 ⊢
          rw [HDS.out] at F6 ⊢
          have HLL := hide hl
          replace F5 := OwnU.low F5 (g := g7) h7
          replace F6 := OwnU.low F6 (g := g7) h7
          clear hl
          refine goQ_since (lasts_below (Nat.le_refl _)) k ?_
          clear k
          (try simp only [Act.put, List.setIfInBounds_toArray, List.set_cons_succ, List.set_cons_zero])
          refine plan_bar ?_
          simp only [pickOps, opAt, List.getElem?_cons_succ, List.getElem?_cons_zero, List.nil_append, List.cons_append]
          (repeat (first | go_big_quiet_skip | (go_big_quiet_want; first | (refine plan_load_hash _ rfl rfl (by assumption) ?_; simp only [Act.put, List.setIfInBounds_toArray, List.set_cons_succ, List.set_cons_zero]; go_big_quiet_on) | (refine plan_load_one 3 _ rfl rfl (EvoAt.cd (by assumption)) (by kernel_rfl) ?_; simp only [Act.put, List.setIfInBounds_toArray, List.set_cons_succ, List.set_cons_zero]; go_big_quiet_on) | (refine plan_load_one 3 _ rfl rfl (EvoAt.cp (by assumption)) (by kernel_rfl) ?_; simp only [Act.put, List.setIfInBounds_toArray, List.set_cons_succ, List.set_cons_zero]; go_big_quiet_on) | (refine plan_load_one 24 _ rfl rfl (EvoAt.cr (by assumption)) (by kernel_rfl) ?_; simp only [Act.put, List.setIfInBounds_toArray, List.set_cons_succ, List.set_cons_zero]; go_big_quiet_on) | (refine plan_load_one 24 _ rfl rfl (EvoAt.cs (by assumption)) (by kernel_rfl) ?_; simp only [Act.put, List.setIfInBounds_toArray, List.set_cons_succ, List.set_cons_zero]; go_big_quiet_on) | (refine plan_load_leaf _ rfl rfl (by assumption) ?_; simp only [Act.put, List.setIfInBounds_toArray, List.set_cons_succ, List.set_cons_zero]; go_big_quiet_on) | (go_big_quiet_op; go_big_quiet_on))))
          refine wpQuiet_nil ?_
          intro _ _ k
          (try replace F1 := F1.later k); (try replace F2 := F2.later k); (try replace F3 := F3.later k); (try replace F4 := F4.later k); (try replace F5 := F5.later k); (try replace F6 := F6.later k); (try replace F7 := F7.later k); (try replace F8 := F8.later k); (try replace F9 := F9.later k); (try replace G1 := G1.later k); (try replace G2 := G2.later k); (try replace G3 := G3.later k); (try replace z := z.later k); (try replace b := later b k); (try replace bB := mixed hB bB k)
          clear k
          go_wp2_with (with_reducible show wpList _ _ _ (⟨_, Op.store _ _ _, _, _, _, _⟩ :: _) _ _; refine wpl_set_evo rfl _ _ rfl rfl rfl HLL.out rfl rfl F7 ?_; intro _ t1 ht; (try replace F1 := F1.tt ht); (try replace F2 := F2.tt ht); (try replace F3 := F3.tt ht); (try replace F4 := F4.tt ht); (try replace F5 := F5.tt ht); (try replace F6 := F6.tt ht); (try replace F7 := F7.tt ht); (try replace F8 := F8.tt ht); (try replace F9 := F9.tt ht); (try replace G1 := G1.tt ht); (try replace G2 := G2.tt ht); (try replace G3 := G3.tt ht); (try replace z := z.tt ht); (try replace b := below_touch b ht (by omega) (by omega)); (try replace bB := below_touch bB ht (by omega) hB); replace F7 := t1; clear ht)
          refine goB_since ?_
          (try simp only [Act.put, List.setIfInBounds_toArray, List.set_cons_succ, List.set_cons_zero])
          refine plan_stop ?_
          simp only [pickOps, opAt, List.getElem?_cons_succ, List.getElem?_cons_zero, List.nil_append, List.cons_append]
          (repeat (first | go_big_quiet_skip | (go_big_quiet_want; first | (refine plan_load_hash _ rfl rfl (by assumption) ?_; simp only [Act.put, List.setIfInBounds_toArray, List.set_cons_succ, List.set_cons_zero]; go_big_quiet_on) | (refine plan_load_one 3 _ rfl rfl (EvoAt.cd (by assumption)) (by kernel_rfl) ?_; simp only [Act.put, List.setIfInBounds_toArray, List.set_cons_succ, List.set_cons_zero]; go_big_quiet_on) | (refine plan_load_one 3 _ rfl rfl (EvoAt.cp (by assumption)) (by kernel_rfl) ?_; simp only [Act.put, List.setIfInBounds_toArray, List.set_cons_succ, List.set_cons_zero]; go_big_quiet_on) | (refine plan_load_one 24 _ rfl rfl (EvoAt.cr (by assumption)) (by kernel_rfl) ?_; simp only [Act.put, List.setIfInBounds_toArray, List.set_cons_succ, List.set_cons_zero]; go_big_quiet_on) | (refine plan_load_one 24 _ rfl rfl (EvoAt.cs (by assumption)) (by kernel_rfl) ?_; simp only [Act.put, List.setIfInBounds_toArray, List.set_cons_succ, List.set_cons_zero]; go_big_quiet_on) | (refine plan_load_leaf _ rfl rfl (by assumption) ?_; simp only [Act.put, List.setIfInBounds_toArray, List.set_cons_succ, List.set_cons_zero]; go_big_quiet_on) | (go_big_quiet_op; go_big_quiet_on))))
          refine wpQuiet_nil ?_
          intro _ _ k
          (try replace F1 := F1.later k); (try replace F2 := F2.later k); (try replace F3 := F3.later k); (try replace F4 := F4.later k); (try replace F5 := F5.later k); (try replace F6 := F6.later k); (try replace F7 := F7.later k); (try replace F8 := F8.later k); (try replace F9 := F9.later k); (try replace G1 := G1.later k); (try replace G2 := G2.later k); (try replace G3 := G3.later k); (try replace z := z.later k); (try replace b := later b k); (try replace bB := mixed hB bB k)
          clear k
        all_goals
          obtain ⟨m5, l5, G5, G6⟩ := st_of (OwnU.hs F5) (OwnU.hs F6)
          clear F5 F6
          have F5 := G5
          have F6 := G6
          clear G5 G6
          have lb := b.size
          have l9 := F8.1
          obtain ⟨as', rfl⟩ : ∃ x, x = as' := ⟨_, rfl⟩
          obtain ⟨ar, har⟩ : ∃ x, x = some (⟨b0, k0, none⟩ : Addr) := ⟨_, rfl⟩
          rw [← har] at F1 F3 ⊢
          clear har
          go_wp2_with (first | (with_reducible show wpList _ _ _ (⟨_, Op.load _ _, _, _, _, _⟩ :: _) _ _; first | (refine wpl_load_hash rfl _ rfl rfl (by assumption) ?_) | (refine wpl_load_one rfl 3 _ rfl rfl (EvoAt.cd (by assumption)) (by kernel_rfl) ?_) | (refine wpl_load_one rfl 3 _ rfl rfl (EvoAt.cp (by assumption)) (by kernel_rfl) ?_) | (refine wpl_load_one rfl 24 _ rfl rfl (EvoAt.cr (by assumption)) (by kernel_rfl) ?_) | (refine wpl_load_one rfl 24 _ rfl rfl (EvoAt.cs (by assumption)) (by kernel_rfl) ?_) | (refine wpl_load_leaf rfl _ rfl rfl (by assumption) ?_) | (refine wpl_load_evo rfl _ rfl rfl (by assumption) ?_)) | ((with_reducible show wpList _ _ _ (⟨_, Op.build _ _, _, _, _, _⟩ :: _) _ _); refine wpl_built3 rfl 26 _ _ _ rfl rfl rfl rfl (evBuilt3 _ _ HLL.out) ?_) | (with_reducible show wpList _ _ _ (⟨_, Op.alloc _, _, _, _, _⟩ :: _) _ _; clear mF9; refine wpl_mk_evo rfl rfl ?_; intro _ g8 hg8 F9 hb; (try have := F1.lt); (try have := F2.lt); (try have := F3.lt); (try have := F4.lt); (try have := F5.lt); (try have := F6.lt); (try have := F7.lt); (try have := F8.lt); (try have := F9.lt); (try have := z.lt); (try have := G1.lt); (try have := G2.lt); (try have := G3.lt); (try have := b.size); (try replace F1 := F1.later hb); (try replace F2 := F2.later hb); (try replace F3 := F3.later hb); (try replace F4 := F4.later hb); (try replace F5 := F5.later hb); (try replace F6 := F6.later hb); (try replace F7 := F7.later hb); (try replace F8 := F8.later hb); (try replace F9 := F9.later hb); (try replace G1 := G1.later hb); (try replace G2 := G2.later hb); (try replace G3 := G3.later hb); (try replace z := z.later hb); (try replace b := later b hb); (try replace bB := mixed hB bB hb); clear hb) | (with_reducible show wpList _ _ _ (⟨_, Op.store _ _ _, _, _, _, _⟩ :: _) _ _; refine wpl_set_evo rfl _ _ rfl rfl rfl HLL.out rfl rfl F9 ?_; intro _ t1 ht; (try replace F1 := F1.tt ht); (try replace F2 := F2.tt ht); (try replace F3 := F3.tt ht); (try replace F4 := F4.tt ht); (try replace F5 := F5.tt ht); (try replace F6 := F6.tt ht); (try replace F7 := F7.tt ht); (try replace F8 := F8.tt ht); (try replace F9 := F9.tt ht); (try replace G1 := G1.tt ht); (try replace G2 := G2.tt ht); (try replace G3 := G3.tt ht); (try replace z := z.tt ht); (try replace b := below_touch b ht (by omega) (by omega)); (try replace bB := below_touch bB ht (by omega) hB); replace F9 := t1; clear ht))
          obtain ⟨B, hBe, G1, G2⟩ := base_of F9
          have k1 : g1 < B := by rw [hBe]; exact F1.lt
          have k2' : g2 < B := by rw [hBe]; exact F2.lt
          have k7 : g7 < B := by rw [hBe]; exact F7.lt
          have k8 : g8 < B := by rw [hBe]; exact F9.lt
          have n1 : g1 < g8 := by omega
          have n2 : g2 < g8 := by omega
          have n7 : g7 < g8 := by omega
          have n8 : m8 ≤ g8 := by omega
          have n5 : m5 ≤ g8 := by omega
          have nw : w.heap.size ≤ g8 := by omega
          replace G2 := OwnU.low G2 (g := g8) k8
          have G3 := G2
          clear hBe lb l9 l5 hg8 l1 l2 l8
          clear HRL HSL
          go_loopw [9] (fun i wr => ∃ (r : Nat) (ra2 : Option Addr) (rc2 : Nat) (sa2 : Option Addr) (sc2 : Nat) (R S : List (List UInt8)), i = .int .i64 r ∧ r ≤ j ∧ Hid (R = right.take r) ∧ Hid (S = side.take r) ∧ Hid (R.length = r) ∧ Hid (S.length = r) ∧ EvoAt wr g8 d ((p : Int) + 1) LL (.slice ra2 r rc2) (.slice sa2 r sc2) ∧ OwnU wr B (.slice ra2 r rc2) R [g8] ∧ OwnU wr B (.slice sa2 r sc2) S [g8] ∧ Hid (∀ b, (Value.slice ra2 r rc2).ownBlock = some b → (Value.slice sa2 r sc2).ownBlock ≠ some b) ∧
            EvoAt wr g1 d p leaf (.slice ar d cr) (.slice as' d cs') ∧ EvoAt wr g2 0 0 zero32 (.slice none 0 0) (.slice none 0 0) ∧ Stab (fun w => Hs w (.slice ar d cr) right) w.heap.size wr ∧ Stab (fun w => Hs w (.slice as' d cs') side) w.heap.size wr ∧ Stab (fun w => Hs w (.slice ra D rc) RR) m5 wr ∧ Stab (fun w => Hs w (.slice sa D sc) SS) m5 wr ∧ EvoAt wr g7 D 0 LL (.slice ra D rc) (.slice sa D sc) ∧ Stab (fun w => Sl w (.slice a d c) 1 (lowB p d)) m8 wr ∧ Geq wr B ∧ Below w.heap.size w wr) (fun i _ => j - (RowKit.intOf i).toNat)
          case atStart => exact ⟨0, none, 0, none, 0, [], [], rfl, by omega, rfl, rfl, rfl, rfl, F9, G2, G3, (fun _ h => by cases h), F1, F2, F3, F4, F5, F6, F7, F8, G1, b⟩
          case round =>
            clear F1 F2 F3 F4 F5 F6 F7 F8 F9 G1 G2 G3 b
            obtain ⟨r, ra2, rc2, sa2, sc2, R, S, rfl, hrj, HR, HS, HRL, HSL, F9, G2, G3, HDIS, F1, F2, F3, F4, F5, F6, F7, F8, G1, b⟩ := hrel
            by_cases hlt : r < j
            · obtain ⟨b1, k1', cap1, hv1, _, _, _, hcs1⟩ := F3.now.block (by rw [HRLn.out]; omega)
              simp only [Value.slice.injEq] at hv1
              obtain ⟨rfl, -, rfl⟩ := hv1
              have CR := hcs1 r (by rw [HRLn.out]; omega)
              have XL := hide (side_len F3.now (i := r) (by rw [HRLn.out]; omega))
              have YL := hide (side_len F4.now (i := r) (by rw [HSLn.out]; omega))
              have HR' : Hid (R ++ [right.getD r []] = right.take (r + 1)) := by unfold Hid; rw [HR.out, take_more _ _ (by rw [HRLn.out]; omega)]
              have HS' : Hid (S ++ [side.getD r []] = side.take (r + 1)) := by unfold Hid; rw [HS.out, take_more _ _ (by rw [HSLn.out]; omega)]
              obtain ⟨x, hx⟩ : ∃ x, x = right.getD r [] := ⟨_, rfl⟩
              obtain ⟨y, hy⟩ : ∃ x, x = side.getD r [] := ⟨_, rfl⟩
              have HY := hide hy
              rw [← hx] at CR XL HR'
              rw [← hy] at YL HS'
              clear hcs1 hx hy HR HS
              go_wp2_with (first | (with_reducible show wpList _ _ _ (⟨_, Op.load _ _, _, _, _, _⟩ :: _) _ _; first | (refine wpl_load_hash rfl _ rfl rfl (by assumption) ?_) | (refine wpl_load_one rfl 3 _ rfl rfl (EvoAt.cd (by assumption)) (by kernel_rfl) ?_) | (refine wpl_load_one rfl 3 _ rfl rfl (EvoAt.cp (by assumption)) (by kernel_rfl) ?_) | (refine wpl_load_one rfl 24 _ rfl rfl (EvoAt.cr (by assumption)) (by kernel_rfl) ?_) | (refine wpl_load_one rfl 24 _ rfl rfl (EvoAt.cs (by assumption)) (by kernel_rfl) ?_) | (refine wpl_load_leaf rfl _ rfl rfl (by assumption) ?_) | (refine wpl_load_evo rfl _ rfl rfl (by assumption) ?_)) | (with_reducible show Code.wp _ (Code.region _ _ true) _ _ _; (try simp only [Act.put, List.setIfInBounds_toArray, List.set_cons_succ, List.set_cons_zero]); fail))
              (try simp only [Act.put, List.setIfInBounds_toArray, List.set_cons_succ, List.set_cons_zero])
              refine region_plan (fun x => Below (World.heap _).size _ x) (.one [0, 1, 2, 3, 4, 5, 6] 7 (.bar [] 8 (.bar [9] 10 (.stop [])))) (by kernel_rfl) (by kernel_rfl) (by kernel_rfl) (by decide) (lasts_below (Nat.le_refl _)) (Below.refl _ _) ?_
              intro wpl0 _ _ _
              refine plan_one ?_
              simp only [pickOps, opAt, List.getElem?_cons_succ, List.getElem?_cons_zero, List.nil_append, List.cons_append]
              (repeat (first | go_big_quiet_skip | (go_big_quiet_want; first | (refine plan_load_hash _ rfl rfl (by assumption) ?_; simp only [Act.put, List.setIfInBounds_toArray, List.set_cons_succ, List.set_cons_zero]; go_big_quiet_on) | (refine plan_load_one 3 _ rfl rfl (EvoAt.cd (by assumption)) (by kernel_rfl) ?_; simp only [Act.put, List.setIfInBounds_toArray, List.set_cons_succ, List.set_cons_zero]; go_big_quiet_on) | (refine plan_load_one 3 _ rfl rfl (EvoAt.cp (by assumption)) (by kernel_rfl) ?_; simp only [Act.put, List.setIfInBounds_toArray, List.set_cons_succ, List.set_cons_zero]; go_big_quiet_on) | (refine plan_load_one 24 _ rfl rfl (EvoAt.cr (by assumption)) (by kernel_rfl) ?_; simp only [Act.put, List.setIfInBounds_toArray, List.set_cons_succ, List.set_cons_zero]; go_big_quiet_on) | (refine plan_load_one 24 _ rfl rfl (EvoAt.cs (by assumption)) (by kernel_rfl) ?_; simp only [Act.put, List.setIfInBounds_toArray, List.set_cons_succ, List.set_cons_zero]; go_big_quiet_on) | (refine plan_load_leaf _ rfl rfl (by assumption) ?_; simp only [Act.put, List.setIfInBounds_toArray, List.set_cons_succ, List.set_cons_zero]; go_big_quiet_on) | (refine plan_load_elem _ rfl rfl CR XL.out ?_; simp only [Act.put, List.setIfInBounds_toArray, List.set_cons_succ, List.set_cons_zero]; go_big_quiet_on) | (go_big_quiet_op; go_big_quiet_on))))
              refine wpQuiet_nil ?_
              intro _ _ k
              refine wpl_hash1 rfl _ rfl rfl XL.out ?_
              intro _ gs _ hs2 hb
              replace k := later k hb
              clear hb
              (try replace F1 := F1.later k); (try replace F2 := F2.later k); (try replace F3 := F3.later k); (try replace F4 := F4.later k); (try replace F5 := F5.later k); (try replace F6 := F6.later k); (try replace F7 := F7.later k); (try replace F8 := F8.later k); (try replace F9 := F9.later k); (try replace G1 := G1.later k); (try replace G2 := G2.later k); (try replace G3 := G3.later k); (try replace z := z.later k); (try replace b := later b k); (try replace bB := mixed hB bB k)
              refine goQ_since (lasts_below (Nat.le_refl _)) k ?_
              clear k
              (try simp only [Act.put, List.setIfInBounds_toArray, List.set_cons_succ, List.set_cons_zero])
              refine plan_bar ?_
              simp only [pickOps, opAt, List.getElem?_cons_succ, List.getElem?_cons_zero, List.nil_append, List.cons_append]
              refine wpQuiet_nil ?_
              intro _ _ k
              (try replace F1 := F1.later k); (try replace F2 := F2.later k); (try replace F3 := F3.later k); (try replace F4 := F4.later k); (try replace F5 := F5.later k); (try replace F6 := F6.later k); (try replace F7 := F7.later k); (try replace F8 := F8.later k); (try replace F9 := F9.later k); (try replace G1 := G1.later k); (try replace G2 := G2.later k); (try replace G3 := G3.later k); (try replace z := z.later k); (try replace b := later b k); (try replace bB := mixed hB bB k)
              replace hs2 := hs2.later k
              clear k
              have q6 := OwnU.lt G3
              refine wpl_app rfl _ _ rfl rfl G2 rfl hs2 _ HRL.out (by omega) G1.lt ?_
              intro _ _ _ O5 hbB ht hob
              have O6 := G3.other ht HDIS.out
              have D2 := hide (dis_left HDIS.out hob q6)
              clear G2 G3 HDIS hob q6 ht hs2
              have G2 := O5.low (g := g8) k8
              have G3 := O6
              have HDIS := D2
              (try replace F1 := F1.below hbB (by omega)); (try replace F2 := F2.below hbB (by omega)); (try replace F3 := F3.below hbB (by omega)); (try replace F4 := F4.below hbB (by omega)); (try replace F5 := F5.below hbB (by omega)); (try replace F6 := F6.below hbB (by omega)); (try replace F7 := F7.below hbB (by omega)); (try replace F8 := F8.below hbB (by omega)); (try replace F9 := F9.below hbB (by omega)); (try replace G1 := G1.below hbB (by omega)); (try replace G2 := G2.below hbB (by omega)); (try replace G3 := G3.below hbB (by omega)); (try replace z := z.below hbB (by omega)); (try replace b := below_more b hbB (by omega)); (try replace bB := below_more bB hbB (by omega))
              clear O5 O6 D2 hbB
              refine goB_since ?_
              (try simp only [Act.put, List.setIfInBounds_toArray, List.set_cons_succ, List.set_cons_zero])
              refine plan_bar ?_
              simp only [pickOps, opAt, List.getElem?_cons_succ, List.getElem?_cons_zero, List.nil_append, List.cons_append]
              (repeat (first | go_big_quiet_skip | (go_big_quiet_want; first | (refine plan_load_hash _ rfl rfl (by assumption) ?_; simp only [Act.put, List.setIfInBounds_toArray, List.set_cons_succ, List.set_cons_zero]; go_big_quiet_on) | (refine plan_load_one 3 _ rfl rfl (EvoAt.cd (by assumption)) (by kernel_rfl) ?_; simp only [Act.put, List.setIfInBounds_toArray, List.set_cons_succ, List.set_cons_zero]; go_big_quiet_on) | (refine plan_load_one 3 _ rfl rfl (EvoAt.cp (by assumption)) (by kernel_rfl) ?_; simp only [Act.put, List.setIfInBounds_toArray, List.set_cons_succ, List.set_cons_zero]; go_big_quiet_on) | (refine plan_load_one 24 _ rfl rfl (EvoAt.cr (by assumption)) (by kernel_rfl) ?_; simp only [Act.put, List.setIfInBounds_toArray, List.set_cons_succ, List.set_cons_zero]; go_big_quiet_on) | (refine plan_load_one 24 _ rfl rfl (EvoAt.cs (by assumption)) (by kernel_rfl) ?_; simp only [Act.put, List.setIfInBounds_toArray, List.set_cons_succ, List.set_cons_zero]; go_big_quiet_on) | (refine plan_load_leaf _ rfl rfl (by assumption) ?_; simp only [Act.put, List.setIfInBounds_toArray, List.set_cons_succ, List.set_cons_zero]; go_big_quiet_on) | (go_big_quiet_op; go_big_quiet_on))))
              refine wpQuiet_nil ?_
              intro _ _ k
              (try replace F1 := F1.later k); (try replace F2 := F2.later k); (try replace F3 := F3.later k); (try replace F4 := F4.later k); (try replace F5 := F5.later k); (try replace F6 := F6.later k); (try replace F7 := F7.later k); (try replace F8 := F8.later k); (try replace F9 := F9.later k); (try replace G1 := G1.later k); (try replace G2 := G2.later k); (try replace G3 := G3.later k); (try replace z := z.later k); (try replace b := later b k); (try replace bB := mixed hB bB k)
              clear k
              go_wp2_with (with_reducible show wpList _ _ _ (⟨_, Op.store _ _ _, _, _, _, _⟩ :: _) _ _; refine wpl_set_right rfl _ _ rfl rfl rfl F9 ?_; intro _ t1 ht; (try replace F1 := F1.tt ht); (try replace F2 := F2.tt ht); (try replace F3 := F3.tt ht); (try replace F4 := F4.tt ht); (try replace F5 := F5.tt ht); (try replace F6 := F6.tt ht); (try replace F7 := F7.tt ht); (try replace F8 := F8.tt ht); (try replace F9 := F9.tt ht); (try replace G1 := G1.tt ht); (try replace G2 := G2.tt ht); (try replace G3 := G3.tt ht); (try replace z := z.tt ht); (try replace b := below_touch b ht (by omega) (by omega)); (try replace bB := below_touch bB ht (by omega) hB); replace F9 := t1; clear ht)
              refine goB_since ?_
              (try simp only [Act.put, List.setIfInBounds_toArray, List.set_cons_succ, List.set_cons_zero])
              refine plan_stop ?_
              simp only [pickOps, opAt, List.getElem?_cons_succ, List.getElem?_cons_zero, List.nil_append, List.cons_append]
              (repeat (first | go_big_quiet_skip | (go_big_quiet_want; first | (refine plan_load_hash _ rfl rfl (by assumption) ?_; simp only [Act.put, List.setIfInBounds_toArray, List.set_cons_succ, List.set_cons_zero]; go_big_quiet_on) | (refine plan_load_one 3 _ rfl rfl (EvoAt.cd (by assumption)) (by kernel_rfl) ?_; simp only [Act.put, List.setIfInBounds_toArray, List.set_cons_succ, List.set_cons_zero]; go_big_quiet_on) | (refine plan_load_one 3 _ rfl rfl (EvoAt.cp (by assumption)) (by kernel_rfl) ?_; simp only [Act.put, List.setIfInBounds_toArray, List.set_cons_succ, List.set_cons_zero]; go_big_quiet_on) | (refine plan_load_one 24 _ rfl rfl (EvoAt.cr (by assumption)) (by kernel_rfl) ?_; simp only [Act.put, List.setIfInBounds_toArray, List.set_cons_succ, List.set_cons_zero]; go_big_quiet_on) | (refine plan_load_one 24 _ rfl rfl (EvoAt.cs (by assumption)) (by kernel_rfl) ?_; simp only [Act.put, List.setIfInBounds_toArray, List.set_cons_succ, List.set_cons_zero]; go_big_quiet_on) | (refine plan_load_leaf _ rfl rfl (by assumption) ?_; simp only [Act.put, List.setIfInBounds_toArray, List.set_cons_succ, List.set_cons_zero]; go_big_quiet_on) | (go_big_quiet_op; go_big_quiet_on))))
              refine wpQuiet_nil ?_
              intro _ _ k
              (try replace F1 := F1.later k); (try replace F2 := F2.later k); (try replace F3 := F3.later k); (try replace F4 := F4.later k); (try replace F5 := F5.later k); (try replace F6 := F6.later k); (try replace F7 := F7.later k); (try replace F8 := F8.later k); (try replace F9 := F9.later k); (try replace G1 := G1.later k); (try replace G2 := G2.later k); (try replace G3 := G3.later k); (try replace z := z.later k); (try replace b := later b k); (try replace bB := mixed hB bB k)
              clear k
              clear CR
              obtain ⟨b2, k2, cap2, hv2, _, _, _, hcs2⟩ := F4.now.block (by rw [HSLn.out]; omega)
              simp only [Value.slice.injEq] at hv2
              obtain ⟨rfl, -, rfl⟩ := hv2
              have CS := hcs2 r (by rw [HSLn.out]; omega)
              rw [← HY.out] at CS
              clear hcs2
              go_wp2_with (first | (with_reducible show wpList _ _ _ (⟨_, Op.load _ _, _, _, _, _⟩ :: _) _ _; first | (refine wpl_load_hash rfl _ rfl rfl (by assumption) ?_) | (refine wpl_load_one rfl 3 _ rfl rfl (EvoAt.cd (by assumption)) (by kernel_rfl) ?_) | (refine wpl_load_one rfl 3 _ rfl rfl (EvoAt.cp (by assumption)) (by kernel_rfl) ?_) | (refine wpl_load_one rfl 24 _ rfl rfl (EvoAt.cr (by assumption)) (by kernel_rfl) ?_) | (refine wpl_load_one rfl 24 _ rfl rfl (EvoAt.cs (by assumption)) (by kernel_rfl) ?_) | (refine wpl_load_leaf rfl _ rfl rfl (by assumption) ?_) | (refine wpl_load_evo rfl _ rfl rfl (by assumption) ?_)) | (with_reducible show Code.wp _ (Code.region _ _ true) _ _ _; (try simp only [Act.put, List.setIfInBounds_toArray, List.set_cons_succ, List.set_cons_zero]); fail))
              (try simp only [Act.put, List.setIfInBounds_toArray, List.set_cons_succ, List.set_cons_zero])
              refine region_plan (fun x => Below (World.heap _).size _ x) (.one [0, 1, 2, 3, 4, 5, 6] 7 (.bar [] 8 (.bar [9] 10 (.stop [])))) (by kernel_rfl) (by kernel_rfl) (by kernel_rfl) (by decide) (lasts_below (Nat.le_refl _)) (Below.refl _ _) ?_
              intro wpl0 _ _ _
              refine plan_one ?_
              simp only [pickOps, opAt, List.getElem?_cons_succ, List.getElem?_cons_zero, List.nil_append, List.cons_append]
              (repeat (first | go_big_quiet_skip | (go_big_quiet_want; first | (refine plan_load_hash _ rfl rfl (by assumption) ?_; simp only [Act.put, List.setIfInBounds_toArray, List.set_cons_succ, List.set_cons_zero]; go_big_quiet_on) | (refine plan_load_one 3 _ rfl rfl (EvoAt.cd (by assumption)) (by kernel_rfl) ?_; simp only [Act.put, List.setIfInBounds_toArray, List.set_cons_succ, List.set_cons_zero]; go_big_quiet_on) | (refine plan_load_one 3 _ rfl rfl (EvoAt.cp (by assumption)) (by kernel_rfl) ?_; simp only [Act.put, List.setIfInBounds_toArray, List.set_cons_succ, List.set_cons_zero]; go_big_quiet_on) | (refine plan_load_one 24 _ rfl rfl (EvoAt.cr (by assumption)) (by kernel_rfl) ?_; simp only [Act.put, List.setIfInBounds_toArray, List.set_cons_succ, List.set_cons_zero]; go_big_quiet_on) | (refine plan_load_one 24 _ rfl rfl (EvoAt.cs (by assumption)) (by kernel_rfl) ?_; simp only [Act.put, List.setIfInBounds_toArray, List.set_cons_succ, List.set_cons_zero]; go_big_quiet_on) | (refine plan_load_leaf _ rfl rfl (by assumption) ?_; simp only [Act.put, List.setIfInBounds_toArray, List.set_cons_succ, List.set_cons_zero]; go_big_quiet_on) | (refine plan_load_elem _ rfl rfl CS YL.out ?_; simp only [Act.put, List.setIfInBounds_toArray, List.set_cons_succ, List.set_cons_zero]; go_big_quiet_on) | (go_big_quiet_op; go_big_quiet_on))))
              refine wpQuiet_nil ?_
              intro _ _ k
              refine wpl_hash1 rfl _ rfl rfl YL.out ?_
              intro _ gs _ hs2 hb
              replace k := later k hb
              clear hb
              (try replace F1 := F1.later k); (try replace F2 := F2.later k); (try replace F3 := F3.later k); (try replace F4 := F4.later k); (try replace F5 := F5.later k); (try replace F6 := F6.later k); (try replace F7 := F7.later k); (try replace F8 := F8.later k); (try replace F9 := F9.later k); (try replace G1 := G1.later k); (try replace G2 := G2.later k); (try replace G3 := G3.later k); (try replace z := z.later k); (try replace b := later b k); (try replace bB := mixed hB bB k)
              refine goQ_since (lasts_below (Nat.le_refl _)) k ?_
              clear k
              (try simp only [Act.put, List.setIfInBounds_toArray, List.set_cons_succ, List.set_cons_zero])
              refine plan_bar ?_
              simp only [pickOps, opAt, List.getElem?_cons_succ, List.getElem?_cons_zero, List.nil_append, List.cons_append]
              refine wpQuiet_nil ?_
              intro _ _ k
              (try replace F1 := F1.later k); (try replace F2 := F2.later k); (try replace F3 := F3.later k); (try replace F4 := F4.later k); (try replace F5 := F5.later k); (try replace F6 := F6.later k); (try replace F7 := F7.later k); (try replace F8 := F8.later k); (try replace F9 := F9.later k); (try replace G1 := G1.later k); (try replace G2 := G2.later k); (try replace G3 := G3.later k); (try replace z := z.later k); (try replace b := later b k); (try replace bB := mixed hB bB k)
              replace hs2 := hs2.later k
              clear k
              have q5 := OwnU.lt G2
              refine wpl_app rfl _ _ rfl rfl G3 rfl hs2 _ HSL.out (by omega) G1.lt ?_
              intro _ _ _ O6 hbB ht hob
              have O5 := G2.other ht (fun b h1 h2 => HDIS.out b h2 h1)
              have D2 := hide (dis_right HDIS.out hob q5)
              clear G2 G3 HDIS hob q5 ht hs2
              have G3 := O6.low (g := g8) k8
              have G2 := O5
              have HDIS := D2
              (try replace F1 := F1.below hbB (by omega)); (try replace F2 := F2.below hbB (by omega)); (try replace F3 := F3.below hbB (by omega)); (try replace F4 := F4.below hbB (by omega)); (try replace F5 := F5.below hbB (by omega)); (try replace F6 := F6.below hbB (by omega)); (try replace F7 := F7.below hbB (by omega)); (try replace F8 := F8.below hbB (by omega)); (try replace F9 := F9.below hbB (by omega)); (try replace G1 := G1.below hbB (by omega)); (try replace G2 := G2.below hbB (by omega)); (try replace G3 := G3.below hbB (by omega)); (try replace z := z.below hbB (by omega)); (try replace b := below_more b hbB (by omega)); (try replace bB := below_more bB hbB (by omega))
              clear O5 O6 D2 hbB
              refine goB_since ?_
              (try simp only [Act.put, List.setIfInBounds_toArray, List.set_cons_succ, List.set_cons_zero])
              refine plan_bar ?_
              simp only [pickOps, opAt, List.getElem?_cons_succ, List.getElem?_cons_zero, List.nil_append, List.cons_append]
              (repeat (first | go_big_quiet_skip | (go_big_quiet_want; first | (refine plan_load_hash _ rfl rfl (by assumption) ?_; simp only [Act.put, List.setIfInBounds_toArray, List.set_cons_succ, List.set_cons_zero]; go_big_quiet_on) | (refine plan_load_one 3 _ rfl rfl (EvoAt.cd (by assumption)) (by kernel_rfl) ?_; simp only [Act.put, List.setIfInBounds_toArray, List.set_cons_succ, List.set_cons_zero]; go_big_quiet_on) | (refine plan_load_one 3 _ rfl rfl (EvoAt.cp (by assumption)) (by kernel_rfl) ?_; simp only [Act.put, List.setIfInBounds_toArray, List.set_cons_succ, List.set_cons_zero]; go_big_quiet_on) | (refine plan_load_one 24 _ rfl rfl (EvoAt.cr (by assumption)) (by kernel_rfl) ?_; simp only [Act.put, List.setIfInBounds_toArray, List.set_cons_succ, List.set_cons_zero]; go_big_quiet_on) | (refine plan_load_one 24 _ rfl rfl (EvoAt.cs (by assumption)) (by kernel_rfl) ?_; simp only [Act.put, List.setIfInBounds_toArray, List.set_cons_succ, List.set_cons_zero]; go_big_quiet_on) | (refine plan_load_leaf _ rfl rfl (by assumption) ?_; simp only [Act.put, List.setIfInBounds_toArray, List.set_cons_succ, List.set_cons_zero]; go_big_quiet_on) | (go_big_quiet_op; go_big_quiet_on))))
              refine wpQuiet_nil ?_
              intro _ _ k
              (try replace F1 := F1.later k); (try replace F2 := F2.later k); (try replace F3 := F3.later k); (try replace F4 := F4.later k); (try replace F5 := F5.later k); (try replace F6 := F6.later k); (try replace F7 := F7.later k); (try replace F8 := F8.later k); (try replace F9 := F9.later k); (try replace G1 := G1.later k); (try replace G2 := G2.later k); (try replace G3 := G3.later k); (try replace z := z.later k); (try replace b := later b k); (try replace bB := mixed hB bB k)
              clear k
              go_wp2_with (with_reducible show wpList _ _ _ (⟨_, Op.store _ _ _, _, _, _, _⟩ :: _) _ _; refine wpl_set_side rfl _ _ rfl rfl rfl F9 ?_; intro _ t1 ht; (try replace F1 := F1.tt ht); (try replace F2 := F2.tt ht); (try replace F3 := F3.tt ht); (try replace F4 := F4.tt ht); (try replace F5 := F5.tt ht); (try replace F6 := F6.tt ht); (try replace F7 := F7.tt ht); (try replace F8 := F8.tt ht); (try replace F9 := F9.tt ht); (try replace G1 := G1.tt ht); (try replace G2 := G2.tt ht); (try replace G3 := G3.tt ht); (try replace z := z.tt ht); (try replace b := below_touch b ht (by omega) (by omega)); (try replace bB := below_touch bB ht (by omega) hB); replace F9 := t1; clear ht)
              refine goB_since ?_
              (try simp only [Act.put, List.setIfInBounds_toArray, List.set_cons_succ, List.set_cons_zero])
              refine plan_stop ?_
              simp only [pickOps, opAt, List.getElem?_cons_succ, List.getElem?_cons_zero, List.nil_append, List.cons_append]
              (repeat (first | go_big_quiet_skip | (go_big_quiet_want; first | (refine plan_load_hash _ rfl rfl (by assumption) ?_; simp only [Act.put, List.setIfInBounds_toArray, List.set_cons_succ, List.set_cons_zero]; go_big_quiet_on) | (refine plan_load_one 3 _ rfl rfl (EvoAt.cd (by assumption)) (by kernel_rfl) ?_; simp only [Act.put, List.setIfInBounds_toArray, List.set_cons_succ, List.set_cons_zero]; go_big_quiet_on) | (refine plan_load_one 3 _ rfl rfl (EvoAt.cp (by assumption)) (by kernel_rfl) ?_; simp only [Act.put, List.setIfInBounds_toArray, List.set_cons_succ, List.set_cons_zero]; go_big_quiet_on) | (refine plan_load_one 24 _ rfl rfl (EvoAt.cr (by assumption)) (by kernel_rfl) ?_; simp only [Act.put, List.setIfInBounds_toArray, List.set_cons_succ, List.set_cons_zero]; go_big_quiet_on) | (refine plan_load_one 24 _ rfl rfl (EvoAt.cs (by assumption)) (by kernel_rfl) ?_; simp only [Act.put, List.setIfInBounds_toArray, List.set_cons_succ, List.set_cons_zero]; go_big_quiet_on) | (refine plan_load_leaf _ rfl rfl (by assumption) ?_; simp only [Act.put, List.setIfInBounds_toArray, List.set_cons_succ, List.set_cons_zero]; go_big_quiet_on) | (go_big_quiet_op; go_big_quiet_on))))
              refine wpQuiet_nil ?_
              intro _ _ k
              (try replace F1 := F1.later k); (try replace F2 := F2.later k); (try replace F3 := F3.later k); (try replace F4 := F4.later k); (try replace F5 := F5.later k); (try replace F6 := F6.later k); (try replace F7 := F7.later k); (try replace F8 := F8.later k); (try replace F9 := F9.later k); (try replace G1 := G1.later k); (try replace G2 := G2.later k); (try replace G3 := G3.later k); (try replace z := z.later k); (try replace b := later b k); (try replace bB := mixed hB bB k)
              clear k
              clear CS
              go_wp2_with (with_reducible show wpList _ _ _ (⟨_, Op.load _ _, _, _, _, _⟩ :: _) _ _; first | (refine wpl_load_hash rfl _ rfl rfl (by assumption) ?_) | (refine wpl_load_one rfl 3 _ rfl rfl (EvoAt.cd (by assumption)) (by kernel_rfl) ?_) | (refine wpl_load_one rfl 3 _ rfl rfl (EvoAt.cp (by assumption)) (by kernel_rfl) ?_) | (refine wpl_load_one rfl 24 _ rfl rfl (EvoAt.cr (by assumption)) (by kernel_rfl) ?_) | (refine wpl_load_one rfl 24 _ rfl rfl (EvoAt.cs (by assumption)) (by kernel_rfl) ?_) | (refine wpl_load_leaf rfl _ rfl rfl (by assumption) ?_) | (refine wpl_load_evo rfl _ rfl rfl (by assumption) ?_))
              go_roundw
              case rel => exact ⟨r + 1, _, _, _, _, _, _, by simp, by omega, HR', HS', (by unfold Hid; rw [List.length_append, HRL.out]; rfl), (by unfold Hid; rw [List.length_append, HSL.out]; rfl), F9, G2, G3, HDIS, F1, F2, F3, F4, F5, F6, F7, F8, G1, b⟩
              case measure => simp [RowKit.intOf]; omega
            · obtain rfl : j = r := by omega
              have HRZ : Hid ((R ++ [zero32]).length = j + 1) := by unfold Hid; rw [List.length_append, HRL.out]; rfl
              have HSZ : Hid ((S ++ [U]).length = j + 1) := by unfold Hid; rw [List.length_append, HSL.out]; rfl
              have q6 := OwnU.lt G3
              go_wp2_with (first | (with_reducible show wpList _ _ _ (⟨_, Op.load _ _, _, _, _, _⟩ :: _) _ _; first | (refine wpl_load_hash rfl _ rfl rfl (by assumption) ?_) | (refine wpl_load_one rfl 3 _ rfl rfl (EvoAt.cd (by assumption)) (by kernel_rfl) ?_) | (refine wpl_load_one rfl 3 _ rfl rfl (EvoAt.cp (by assumption)) (by kernel_rfl) ?_) | (refine wpl_load_one rfl 24 _ rfl rfl (EvoAt.cr (by assumption)) (by kernel_rfl) ?_) | (refine wpl_load_one rfl 24 _ rfl rfl (EvoAt.cs (by assumption)) (by kernel_rfl) ?_) | (refine wpl_load_leaf rfl _ rfl rfl (by assumption) ?_) | (refine wpl_load_evo rfl _ rfl rfl (by assumption) ?_)) | (with_reducible show wpList _ _ _ (⟨_, Op.build _ _, _, _, _, _⟩ :: _) _ _; refine wpl_zero_hash rfl rfl ?_) | (with_reducible show wpList _ _ _ (⟨_, Op.buildSlice _ _ _, _, _, _, _⟩ :: _) _ _; refine wpl_hash1 rfl _ rfl rfl rfl ?_; intro _ gs _ hs2 hb; (try have := F1.lt); (try have := F2.lt); (try have := F3.lt); (try have := F4.lt); (try have := F5.lt); (try have := F6.lt); (try have := F7.lt); (try have := F8.lt); (try have := F9.lt); (try have := z.lt); (try have := G1.lt); (try have := G2.lt); (try have := G3.lt); (try replace F1 := F1.later hb); (try replace F2 := F2.later hb); (try replace F3 := F3.later hb); (try replace F4 := F4.later hb); (try replace F5 := F5.later hb); (try replace F6 := F6.later hb); (try replace F7 := F7.later hb); (try replace F8 := F8.later hb); (try replace F9 := F9.later hb); (try replace G1 := G1.later hb); (try replace G2 := G2.later hb); (try replace G3 := G3.later hb); (try replace z := z.later hb); (try replace b := later b hb); (try replace bB := mixed hB bB hb); clear hb) | (with_reducible show wpList _ _ _ (⟨_, Op.call _, _, _, _, _⟩ :: _) _ _; generalize hstop : wpList _ _ _ _ _ _ = Gstop))
              rw [← hstop]; clear hstop
              clear q6
              have q6 := OwnU.lt G3
              refine wpl_app rfl _ _ rfl rfl G2 rfl hs2 j HRL.out (by omega) G1.lt ?_
              intro _ _ _ O5 hbB ht hob
              have O6 := G3.other ht HDIS.out
              have D2 := hide (dis_left HDIS.out hob q6)
              clear G2 G3 HDIS hob q6 ht hs2
              have G2 := O5.low (g := g8) k8
              have G3 := O6
              have HDIS := D2
              (try replace F1 := F1.below hbB (by omega)); (try replace F2 := F2.below hbB (by omega)); (try replace F3 := F3.below hbB (by omega)); (try replace F4 := F4.below hbB (by omega)); (try replace F5 := F5.below hbB (by omega)); (try replace F6 := F6.below hbB (by omega)); (try replace F7 := F7.below hbB (by omega)); (try replace F8 := F8.below hbB (by omega)); (try replace F9 := F9.below hbB (by omega)); (try replace G1 := G1.below hbB (by omega)); (try replace G2 := G2.below hbB (by omega)); (try replace G3 := G3.below hbB (by omega)); (try replace z := z.below hbB (by omega)); (try replace b := below_more b hbB (by omega)); (try replace bB := below_more bB hbB (by omega))
              clear O5 O6 D2 hbB
              go_wp2_with (first | (with_reducible show wpList _ _ _ (⟨_, Op.load _ _, _, _, _, _⟩ :: _) _ _; first | (refine wpl_load_hash rfl _ rfl rfl (by assumption) ?_) | (refine wpl_load_one rfl 3 _ rfl rfl (EvoAt.cd (by assumption)) (by kernel_rfl) ?_) | (refine wpl_load_one rfl 3 _ rfl rfl (EvoAt.cp (by assumption)) (by kernel_rfl) ?_) | (refine wpl_load_one rfl 24 _ rfl rfl (EvoAt.cr (by assumption)) (by kernel_rfl) ?_) | (refine wpl_load_one rfl 24 _ rfl rfl (EvoAt.cs (by assumption)) (by kernel_rfl) ?_) | (refine wpl_load_leaf rfl _ rfl rfl (by assumption) ?_) | (refine wpl_load_evo rfl _ rfl rfl (by assumption) ?_)) | (with_reducible show wpList _ _ _ (⟨_, Op.store _ _ _, _, _, _, _⟩ :: _) _ _; refine wpl_set_right rfl _ _ rfl rfl rfl F9 ?_; intro _ t1 ht; (try replace F1 := F1.tt ht); (try replace F2 := F2.tt ht); (try replace F3 := F3.tt ht); (try replace F4 := F4.tt ht); (try replace F5 := F5.tt ht); (try replace F6 := F6.tt ht); (try replace F7 := F7.tt ht); (try replace F8 := F8.tt ht); (try replace F9 := F9.tt ht); (try replace G1 := G1.tt ht); (try replace G2 := G2.tt ht); (try replace G3 := G3.tt ht); (try replace z := z.tt ht); (try replace b := below_touch b ht (by omega) (by omega)); (try replace bB := below_touch bB ht (by omega) hB); replace F9 := t1; clear ht) | (with_reducible show Code.wp _ (Code.region _ _ true) _ _ _; (try simp only [Act.put, List.setIfInBounds_toArray, List.set_cons_succ, List.set_cons_zero]); fail))
              (try simp only [Act.put, List.setIfInBounds_toArray, List.set_cons_succ, List.set_cons_zero])
              refine region_plan (fun x => Below (World.heap _).size _ x) (.fl [0, 1, 2, 3, 5, 6, 7, 8, 9] 4 (.fl [] 10 (.one [] 11 (.bar [] 12 (.bar [13] 14 (.stop [])))))) (by kernel_rfl) (by kernel_rfl) (by kernel_rfl) (by decide) (lasts_below (Nat.le_refl _)) (Below.refl _ _) ?_
              intro wpl0 _ _ _
              refine plan_fl ?_
              simp only [pickOps, opAt, List.getElem?_cons_succ, List.getElem?_cons_zero, List.nil_append, List.cons_append]
              (repeat (first | go_big_quiet_skip | (go_big_quiet_want; first | (refine plan_load_hash _ rfl rfl (by assumption) ?_; simp only [Act.put, List.setIfInBounds_toArray, List.set_cons_succ, List.set_cons_zero]; go_big_quiet_on) | (refine plan_load_one 3 _ rfl rfl (EvoAt.cd (by assumption)) (by kernel_rfl) ?_; simp only [Act.put, List.setIfInBounds_toArray, List.set_cons_succ, List.set_cons_zero]; go_big_quiet_on) | (refine plan_load_one 3 _ rfl rfl (EvoAt.cp (by assumption)) (by kernel_rfl) ?_; simp only [Act.put, List.setIfInBounds_toArray, List.set_cons_succ, List.set_cons_zero]; go_big_quiet_on) | (refine plan_load_one 24 _ rfl rfl (EvoAt.cr (by assumption)) (by kernel_rfl) ?_; simp only [Act.put, List.setIfInBounds_toArray, List.set_cons_succ, List.set_cons_zero]; go_big_quiet_on) | (refine plan_load_one 24 _ rfl rfl (EvoAt.cs (by assumption)) (by kernel_rfl) ?_; simp only [Act.put, List.setIfInBounds_toArray, List.set_cons_succ, List.set_cons_zero]; go_big_quiet_on) | (refine plan_load_leaf _ rfl rfl (by assumption) ?_; simp only [Act.put, List.setIfInBounds_toArray, List.set_cons_succ, List.set_cons_zero]; go_big_quiet_on) | (go_big_quiet_op; go_big_quiet_on))))
              refine wpQuiet_nil ?_
              refine fl_call (by rfl) rfl (by kernel_rfl) (by simp only [List.map_toArray, List.map_cons, List.map_nil]; rfl) (fun w' hC => HPK.out w') ?_
              simp only [Act.put, List.setIfInBounds_toArray, List.set_cons_succ, List.set_cons_zero]
              refine plan_fl ?_
              simp only [pickOps, opAt, List.getElem?_cons_succ, List.getElem?_cons_zero, List.nil_append, List.cons_append]
              (repeat (first | go_big_quiet_skip | (go_big_quiet_want; first | (refine plan_load_hash _ rfl rfl (by assumption) ?_; simp only [Act.put, List.setIfInBounds_toArray, List.set_cons_succ, List.set_cons_zero]; go_big_quiet_on) | (refine plan_load_one 3 _ rfl rfl (EvoAt.cd (by assumption)) (by kernel_rfl) ?_; simp only [Act.put, List.setIfInBounds_toArray, List.set_cons_succ, List.set_cons_zero]; go_big_quiet_on) | (refine plan_load_one 3 _ rfl rfl (EvoAt.cp (by assumption)) (by kernel_rfl) ?_; simp only [Act.put, List.setIfInBounds_toArray, List.set_cons_succ, List.set_cons_zero]; go_big_quiet_on) | (refine plan_load_one 24 _ rfl rfl (EvoAt.cr (by assumption)) (by kernel_rfl) ?_; simp only [Act.put, List.setIfInBounds_toArray, List.set_cons_succ, List.set_cons_zero]; go_big_quiet_on) | (refine plan_load_one 24 _ rfl rfl (EvoAt.cs (by assumption)) (by kernel_rfl) ?_; simp only [Act.put, List.setIfInBounds_toArray, List.set_cons_succ, List.set_cons_zero]; go_big_quiet_on) | (refine plan_load_leaf _ rfl rfl (by assumption) ?_; simp only [Act.put, List.setIfInBounds_toArray, List.set_cons_succ, List.set_cons_zero]; go_big_quiet_on) | (go_big_quiet_op; go_big_quiet_on))))
              refine wpQuiet_nil ?_
              refine fl_call (by rfl) rfl (by kernel_rfl) (by simp only [List.map_toArray, List.map_cons, List.map_nil]; rfl) (fun w' hC => HOV.out w' (F8.later (Kl.out hC)).now (F4.later (Kl.out hC)).now) ?_
              simp only [Act.put, List.setIfInBounds_toArray, List.set_cons_succ, List.set_cons_zero]
              refine plan_one ?_
              simp only [pickOps, opAt, List.getElem?_cons_succ, List.getElem?_cons_zero, List.nil_append, List.cons_append]
              (repeat (first | go_big_quiet_skip | (go_big_quiet_want; first | (refine plan_load_hash _ rfl rfl (by assumption) ?_; simp only [Act.put, List.setIfInBounds_toArray, List.set_cons_succ, List.set_cons_zero]; go_big_quiet_on) | (refine plan_load_one 3 _ rfl rfl (EvoAt.cd (by assumption)) (by kernel_rfl) ?_; simp only [Act.put, List.setIfInBounds_toArray, List.set_cons_succ, List.set_cons_zero]; go_big_quiet_on) | (refine plan_load_one 3 _ rfl rfl (EvoAt.cp (by assumption)) (by kernel_rfl) ?_; simp only [Act.put, List.setIfInBounds_toArray, List.set_cons_succ, List.set_cons_zero]; go_big_quiet_on) | (refine plan_load_one 24 _ rfl rfl (EvoAt.cr (by assumption)) (by kernel_rfl) ?_; simp only [Act.put, List.setIfInBounds_toArray, List.set_cons_succ, List.set_cons_zero]; go_big_quiet_on) | (refine plan_load_one 24 _ rfl rfl (EvoAt.cs (by assumption)) (by kernel_rfl) ?_; simp only [Act.put, List.setIfInBounds_toArray, List.set_cons_succ, List.set_cons_zero]; go_big_quiet_on) | (refine plan_load_leaf _ rfl rfl (by assumption) ?_; simp only [Act.put, List.setIfInBounds_toArray, List.set_cons_succ, List.set_cons_zero]; go_big_quiet_on) | fail | (go_big_quiet_op; go_big_quiet_on))))
              refine wpQuiet_nil ?_
              intro _ _ k
              refine wpl_hash1 rfl _ rfl rfl HUL.out ?_
              intro _ gs _ hs2 hb
              replace k := later k hb
              clear hb
              (try replace F1 := F1.later k); (try replace F2 := F2.later k); (try replace F3 := F3.later k); (try replace F4 := F4.later k); (try replace F5 := F5.later k); (try replace F6 := F6.later k); (try replace F7 := F7.later k); (try replace F8 := F8.later k); (try replace F9 := F9.later k); (try replace G1 := G1.later k); (try replace G2 := G2.later k); (try replace G3 := G3.later k); (try replace z := z.later k); (try replace b := later b k); (try replace bB := mixed hB bB k)
              refine goQ_since (lasts_below (Nat.le_refl _)) k ?_
              clear k
              (try simp only [Act.put, List.setIfInBounds_toArray, List.set_cons_succ, List.set_cons_zero])
              refine plan_bar ?_
              simp only [pickOps, opAt, List.getElem?_cons_succ, List.getElem?_cons_zero, List.nil_append, List.cons_append]
              refine wpQuiet_nil ?_
              intro _ _ k
              (try replace F1 := F1.later k); (try replace F2 := F2.later k); (try replace F3 := F3.later k); (try replace F4 := F4.later k); (try replace F5 := F5.later k); (try replace F6 := F6.later k); (try replace F7 := F7.later k); (try replace F8 := F8.later k); (try replace F9 := F9.later k); (try replace G1 := G1.later k); (try replace G2 := G2.later k); (try replace G3 := G3.later k); (try replace z := z.later k); (try replace b := later b k); (try replace bB := mixed hB bB k)
              replace hs2 := hs2.later k
              clear k
              have q5 := OwnU.lt G2
              refine wpl_app rfl _ _ rfl rfl G3 rfl hs2 _ HSL.out (by omega) G1.lt ?_
              intro _ _ _ O6 hbB ht hob
              have O5 := G2.other ht (fun b h1 h2 => HDIS.out b h2 h1)
              have D2 := hide (dis_right HDIS.out hob q5)
              clear G2 G3 HDIS hob q5 ht hs2
              have G3 := O6.low (g := g8) k8
              have G2 := O5
              have HDIS := D2
              (try replace F1 := F1.below hbB (by omega)); (try replace F2 := F2.below hbB (by omega)); (try replace F3 := F3.below hbB (by omega)); (try replace F4 := F4.below hbB (by omega)); (try replace F5 := F5.below hbB (by omega)); (try replace F6 := F6.below hbB (by omega)); (try replace F7 := F7.below hbB (by omega)); (try replace F8 := F8.below hbB (by omega)); (try replace F9 := F9.below hbB (by omega)); (try replace G1 := G1.below hbB (by omega)); (try replace G2 := G2.below hbB (by omega)); (try replace G3 := G3.below hbB (by omega)); (try replace z := z.below hbB (by omega)); (try replace b := below_more b hbB (by omega)); (try replace bB := below_more bB hbB (by omega))
              clear O5 O6 D2 hbB
              refine goB_since ?_
              (try simp only [Act.put, List.setIfInBounds_toArray, List.set_cons_succ, List.set_cons_zero])
              refine plan_bar ?_
              simp only [pickOps, opAt, List.getElem?_cons_succ, List.getElem?_cons_zero, List.nil_append, List.cons_append]
              (repeat (first | go_big_quiet_skip | (go_big_quiet_want; first | (refine plan_load_hash _ rfl rfl (by assumption) ?_; simp only [Act.put, List.setIfInBounds_toArray, List.set_cons_succ, List.set_cons_zero]; go_big_quiet_on) | (refine plan_load_one 3 _ rfl rfl (EvoAt.cd (by assumption)) (by kernel_rfl) ?_; simp only [Act.put, List.setIfInBounds_toArray, List.set_cons_succ, List.set_cons_zero]; go_big_quiet_on) | (refine plan_load_one 3 _ rfl rfl (EvoAt.cp (by assumption)) (by kernel_rfl) ?_; simp only [Act.put, List.setIfInBounds_toArray, List.set_cons_succ, List.set_cons_zero]; go_big_quiet_on) | (refine plan_load_one 24 _ rfl rfl (EvoAt.cr (by assumption)) (by kernel_rfl) ?_; simp only [Act.put, List.setIfInBounds_toArray, List.set_cons_succ, List.set_cons_zero]; go_big_quiet_on) | (refine plan_load_one 24 _ rfl rfl (EvoAt.cs (by assumption)) (by kernel_rfl) ?_; simp only [Act.put, List.setIfInBounds_toArray, List.set_cons_succ, List.set_cons_zero]; go_big_quiet_on) | (refine plan_load_leaf _ rfl rfl (by assumption) ?_; simp only [Act.put, List.setIfInBounds_toArray, List.set_cons_succ, List.set_cons_zero]; go_big_quiet_on) | (go_big_quiet_op; go_big_quiet_on))))
              refine wpQuiet_nil ?_
              intro _ _ k
              (try replace F1 := F1.later k); (try replace F2 := F2.later k); (try replace F3 := F3.later k); (try replace F4 := F4.later k); (try replace F5 := F5.later k); (try replace F6 := F6.later k); (try replace F7 := F7.later k); (try replace F8 := F8.later k); (try replace F9 := F9.later k); (try replace G1 := G1.later k); (try replace G2 := G2.later k); (try replace G3 := G3.later k); (try replace z := z.later k); (try replace b := later b k); (try replace bB := mixed hB bB k)
              clear k
              go_wp2_with (with_reducible show wpList _ _ _ (⟨_, Op.store _ _ _, _, _, _, _⟩ :: _) _ _; refine wpl_set_side rfl _ _ rfl rfl rfl F9 ?_; intro _ t1 ht; (try replace F1 := F1.tt ht); (try replace F2 := F2.tt ht); (try replace F3 := F3.tt ht); (try replace F4 := F4.tt ht); (try replace F5 := F5.tt ht); (try replace F6 := F6.tt ht); (try replace F7 := F7.tt ht); (try replace F8 := F8.tt ht); (try replace F9 := F9.tt ht); (try replace G1 := G1.tt ht); (try replace G2 := G2.tt ht); (try replace G3 := G3.tt ht); (try replace z := z.tt ht); (try replace b := below_touch b ht (by omega) (by omega)); (try replace bB := below_touch bB ht (by omega) hB); replace F9 := t1; clear ht)
              refine goB_since ?_
              (try simp only [Act.put, List.setIfInBounds_toArray, List.set_cons_succ, List.set_cons_zero])
              refine plan_stop ?_
              simp only [pickOps, opAt, List.getElem?_cons_succ, List.getElem?_cons_zero, List.nil_append, List.cons_append]
              (repeat (first | go_big_quiet_skip | (go_big_quiet_want; first | (refine plan_load_hash _ rfl rfl (by assumption) ?_; simp only [Act.put, List.setIfInBounds_toArray, List.set_cons_succ, List.set_cons_zero]; go_big_quiet_on) | (refine plan_load_one 3 _ rfl rfl (EvoAt.cd (by assumption)) (by kernel_rfl) ?_; simp only [Act.put, List.setIfInBounds_toArray, List.set_cons_succ, List.set_cons_zero]; go_big_quiet_on) | (refine plan_load_one 3 _ rfl rfl (EvoAt.cp (by assumption)) (by kernel_rfl) ?_; simp only [Act.put, List.setIfInBounds_toArray, List.set_cons_succ, List.set_cons_zero]; go_big_quiet_on) | (refine plan_load_one 24 _ rfl rfl (EvoAt.cr (by assumption)) (by kernel_rfl) ?_; simp only [Act.put, List.setIfInBounds_toArray, List.set_cons_succ, List.set_cons_zero]; go_big_quiet_on) | (refine plan_load_one 24 _ rfl rfl (EvoAt.cs (by assumption)) (by kernel_rfl) ?_; simp only [Act.put, List.setIfInBounds_toArray, List.set_cons_succ, List.set_cons_zero]; go_big_quiet_on) | (refine plan_load_leaf _ rfl rfl (by assumption) ?_; simp only [Act.put, List.setIfInBounds_toArray, List.set_cons_succ, List.set_cons_zero]; go_big_quiet_on) | (go_big_quiet_op; go_big_quiet_on))))
              refine wpQuiet_nil ?_
              intro _ _ k
              (try replace F1 := F1.later k); (try replace F2 := F2.later k); (try replace F3 := F3.later k); (try replace F4 := F4.later k); (try replace F5 := F5.later k); (try replace F6 := F6.later k); (try replace F7 := F7.later k); (try replace F8 := F8.later k); (try replace F9 := F9.later k); (try replace G1 := G1.later k); (try replace G2 := G2.later k); (try replace G3 := G3.later k); (try replace z := z.later k); (try replace b := later b k); (try replace bB := mixed hB bB k)
              clear k
              clear F3 F4 F8 HRL HSL
              go_wp2_with (with_reducible show wpList _ _ _ (⟨_, Op.load _ _, _, _, _, _⟩ :: _) _ _; first | (refine wpl_load_hash rfl _ rfl rfl (by assumption) ?_) | (refine wpl_load_one rfl 3 _ rfl rfl (EvoAt.cd (by assumption)) (by kernel_rfl) ?_) | (refine wpl_load_one rfl 3 _ rfl rfl (EvoAt.cp (by assumption)) (by kernel_rfl) ?_) | (refine wpl_load_one rfl 24 _ rfl rfl (EvoAt.cr (by assumption)) (by kernel_rfl) ?_) | (refine wpl_load_one rfl 24 _ rfl rfl (EvoAt.cs (by assumption)) (by kernel_rfl) ?_) | (refine wpl_load_leaf rfl _ rfl rfl (by assumption) ?_) | (refine wpl_load_evo rfl _ rfl rfl (by assumption) ?_))
              go_loopw [10] (fun i wr => ∃ (r : Nat) (ra2 : Option Addr) (rc2 : Nat) (sa2 : Option Addr) (sc2 : Nat) (R2 S2 : List (List UInt8)), i = .int .i64 r ∧ r ≤ D ∧ Hid (R2 = (R ++ [zero32]) ++ RR.take r) ∧ Hid (S2 = (S ++ [U]) ++ SS.take r) ∧ Hid (R2.length = j + 1 + r) ∧ Hid (S2.length = j + 1 + r) ∧ EvoAt wr g8 d ((p : Int) + 1) LL (.slice ra2 (j + 1 + r) rc2) (.slice sa2 (j + 1 + r) sc2) ∧ OwnU wr B (.slice ra2 (j + 1 + r) rc2) R2 [g8] ∧ OwnU wr B (.slice sa2 (j + 1 + r) sc2) S2 [g8] ∧ Hid (∀ b, (Value.slice ra2 (j + 1 + r) rc2).ownBlock = some b → (Value.slice sa2 (j + 1 + r) sc2).ownBlock ≠ some b) ∧
                EvoAt wr g1 d p leaf (.slice ar d cr) (.slice as' d cs') ∧ EvoAt wr g2 0 0 zero32 (.slice none 0 0) (.slice none 0 0) ∧ Stab (fun w => Hs w (.slice ra D rc) RR) m5 wr ∧ Stab (fun w => Hs w (.slice sa D sc) SS) m5 wr ∧ EvoAt wr g7 D 0 LL (.slice ra D rc) (.slice sa D sc) ∧ Geq wr B ∧ Below w.heap.size w wr) (fun i _ => D - (RowKit.intOf i).toNat)
              case atStart => exact ⟨0, _, _, _, _, _, _, rfl, by omega, (by unfold Hid; rw [List.take_zero, List.append_nil]), (by unfold Hid; rw [List.take_zero, List.append_nil]), HRZ, HSZ, F9, G2, G3, HDIS, F1, F2, F5, F6, F7, G1, b⟩
              case round =>
                clear F1 F2 F5 F6 F7 F9 G1 G2 G3 HDIS b
                obtain ⟨r, ra2, rc2, sa2, sc2, R2, S2, rfl, hrj, HR2, HS2, HRL, HSL, F9, G2, G3, HDIS, F1, F2, F5, F6, F7, G1, b⟩ := hrel
                by_cases hlt : r < D
                · obtain ⟨b1, k1', cap1, hv1, _, _, _, hcs1⟩ := F5.now.block (by rw [HDR.out]; omega)
                  simp only [Value.slice.injEq] at hv1
                  obtain ⟨rfl, -, rfl⟩ := hv1
                  have CR := hcs1 r (by rw [HDR.out]; omega)
                  have XL := hide (side_len F5.now (i := r) (by rw [HDR.out]; omega))
                  have YL := hide (side_len F6.now (i := r) (by rw [HDS.out]; omega))
                  have HR' : Hid (R2 ++ [RR.getD r []] = (R ++ [zero32]) ++ RR.take (r + 1)) := by unfold Hid; rw [HR2.out, take_more RR _ (by rw [HDR.out]; omega), List.append_assoc]
                  have HS' : Hid (S2 ++ [SS.getD r []] = (S ++ [U]) ++ SS.take (r + 1)) := by unfold Hid; rw [HS2.out, take_more SS _ (by rw [HDS.out]; omega), List.append_assoc]
                  obtain ⟨x, hx⟩ : ∃ x, x = RR.getD r [] := ⟨_, rfl⟩
                  obtain ⟨y, hy⟩ : ∃ x, x = SS.getD r [] := ⟨_, rfl⟩
                  have HY := hide hy
                  rw [← hx] at CR XL HR'
                  rw [← hy] at YL HS'
                  clear hcs1 hx hy HR2 HS2
                  go_wp2_with (first | (with_reducible show wpList _ _ _ (⟨_, Op.load _ _, _, _, _, _⟩ :: _) _ _; first | (refine wpl_load_hash rfl _ rfl rfl (by assumption) ?_) | (refine wpl_load_one rfl 3 _ rfl rfl (EvoAt.cd (by assumption)) (by kernel_rfl) ?_) | (refine wpl_load_one rfl 3 _ rfl rfl (EvoAt.cp (by assumption)) (by kernel_rfl) ?_) | (refine wpl_load_one rfl 24 _ rfl rfl (EvoAt.cr (by assumption)) (by kernel_rfl) ?_) | (refine wpl_load_one rfl 24 _ rfl rfl (EvoAt.cs (by assumption)) (by kernel_rfl) ?_) | (refine wpl_load_leaf rfl _ rfl rfl (by assumption) ?_) | (refine wpl_load_evo rfl _ rfl rfl (by assumption) ?_)) | (with_reducible show Code.wp _ (Code.region _ _ true) _ _ _; (try simp only [Act.put, List.setIfInBounds_toArray, List.set_cons_succ, List.set_cons_zero]); fail))
                  (try simp only [Act.put, List.setIfInBounds_toArray, List.set_cons_succ, List.set_cons_zero])
                  refine region_plan (fun x => Below (World.heap _).size _ x) (.one [0, 1, 2, 3, 4, 5, 6] 7 (.bar [] 8 (.bar [9] 10 (.stop [])))) (by kernel_rfl) (by kernel_rfl) (by kernel_rfl) (by decide) (lasts_below (Nat.le_refl _)) (Below.refl _ _) ?_
                  intro wpl0 _ _ _
                  refine plan_one ?_
                  simp only [pickOps, opAt, List.getElem?_cons_succ, List.getElem?_cons_zero, List.nil_append, List.cons_append]
                  (repeat (first | go_big_quiet_skip | (go_big_quiet_want; first | (refine plan_load_hash _ rfl rfl (by assumption) ?_; simp only [Act.put, List.setIfInBounds_toArray, List.set_cons_succ, List.set_cons_zero]; go_big_quiet_on) | (refine plan_load_one 3 _ rfl rfl (EvoAt.cd (by assumption)) (by kernel_rfl) ?_; simp only [Act.put, List.setIfInBounds_toArray, List.set_cons_succ, List.set_cons_zero]; go_big_quiet_on) | (refine plan_load_one 3 _ rfl rfl (EvoAt.cp (by assumption)) (by kernel_rfl) ?_; simp only [Act.put, List.setIfInBounds_toArray, List.set_cons_succ, List.set_cons_zero]; go_big_quiet_on) | (refine plan_load_one 24 _ rfl rfl (EvoAt.cr (by assumption)) (by kernel_rfl) ?_; simp only [Act.put, List.setIfInBounds_toArray, List.set_cons_succ, List.set_cons_zero]; go_big_quiet_on) | (refine plan_load_one 24 _ rfl rfl (EvoAt.cs (by assumption)) (by kernel_rfl) ?_; simp only [Act.put, List.setIfInBounds_toArray, List.set_cons_succ, List.set_cons_zero]; go_big_quiet_on) | (refine plan_load_leaf _ rfl rfl (by assumption) ?_; simp only [Act.put, List.setIfInBounds_toArray, List.set_cons_succ, List.set_cons_zero]; go_big_quiet_on) | (refine plan_load_elem _ rfl rfl CR XL.out ?_; simp only [Act.put, List.setIfInBounds_toArray, List.set_cons_succ, List.set_cons_zero]; go_big_quiet_on) | (go_big_quiet_op; go_big_quiet_on))))
                  refine wpQuiet_nil ?_
                  intro _ _ k
                  refine wpl_hash1 rfl _ rfl rfl XL.out ?_
                  intro _ gs _ hs2 hb
                  replace k := later k hb
                  clear hb
                  (try replace F1 := F1.later k); (try replace F2 := F2.later k); (try replace F3 := F3.later k); (try replace F4 := F4.later k); (try replace F5 := F5.later k); (try replace F6 := F6.later k); (try replace F7 := F7.later k); (try replace F8 := F8.later k); (try replace F9 := F9.later k); (try replace G1 := G1.later k); (try replace G2 := G2.later k); (try replace G3 := G3.later k); (try replace z := z.later k); (try replace b := later b k); (try replace bB := mixed hB bB k)
                  refine goQ_since (lasts_below (Nat.le_refl _)) k ?_
                  clear k
                  (try simp only [Act.put, List.setIfInBounds_toArray, List.set_cons_succ, List.set_cons_zero])
                  refine plan_bar ?_
                  simp only [pickOps, opAt, List.getElem?_cons_succ, List.getElem?_cons_zero, List.nil_append, List.cons_append]
                  refine wpQuiet_nil ?_
                  intro _ _ k
                  (try replace F1 := F1.later k); (try replace F2 := F2.later k); (try replace F3 := F3.later k); (try replace F4 := F4.later k); (try replace F5 := F5.later k); (try replace F6 := F6.later k); (try replace F7 := F7.later k); (try replace F8 := F8.later k); (try replace F9 := F9.later k); (try replace G1 := G1.later k); (try replace G2 := G2.later k); (try replace G3 := G3.later k); (try replace z := z.later k); (try replace b := later b k); (try replace bB := mixed hB bB k)
                  replace hs2 := hs2.later k
                  clear k
                  have q6 := OwnU.lt G3
                  refine wpl_app rfl _ _ rfl rfl G2 rfl hs2 _ HRL.out (by omega) G1.lt ?_
                  intro _ _ _ O5 hbB ht hob
                  have O6 := G3.other ht HDIS.out
                  have D2 := hide (dis_left HDIS.out hob q6)
                  clear G2 G3 HDIS hob q6 ht hs2
                  have G2 := O5.low (g := g8) k8
                  have G3 := O6
                  have HDIS := D2
                  (try replace F1 := F1.below hbB (by omega)); (try replace F2 := F2.below hbB (by omega)); (try replace F3 := F3.below hbB (by omega)); (try replace F4 := F4.below hbB (by omega)); (try replace F5 := F5.below hbB (by omega)); (try replace F6 := F6.below hbB (by omega)); (try replace F7 := F7.below hbB (by omega)); (try replace F8 := F8.below hbB (by omega)); (try replace F9 := F9.below hbB (by omega)); (try replace G1 := G1.below hbB (by omega)); (try replace G2 := G2.below hbB (by omega)); (try replace G3 := G3.below hbB (by omega)); (try replace z := z.below hbB (by omega)); (try replace b := below_more b hbB (by omega)); (try replace bB := below_more bB hbB (by omega))
                  clear O5 O6 D2 hbB
                  refine goB_since ?_
                  (try simp only [Act.put, List.setIfInBounds_toArray, List.set_cons_succ, List.set_cons_zero])
                  refine plan_bar ?_
                  simp only [pickOps, opAt, List.getElem?_cons_succ, List.getElem?_cons_zero, List.nil_append, List.cons_append]
                  (repeat (first | go_big_quiet_skip | (go_big_quiet_want; first | (refine plan_load_hash _ rfl rfl (by assumption) ?_; simp only [Act.put, List.setIfInBounds_toArray, List.set_cons_succ, List.set_cons_zero]; go_big_quiet_on) | (refine plan_load_one 3 _ rfl rfl (EvoAt.cd (by assumption)) (by kernel_rfl) ?_; simp only [Act.put, List.setIfInBounds_toArray, List.set_cons_succ, List.set_cons_zero]; go_big_quiet_on) | (refine plan_load_one 3 _ rfl rfl (EvoAt.cp (by assumption)) (by kernel_rfl) ?_; simp only [Act.put, List.setIfInBounds_toArray, List.set_cons_succ, List.set_cons_zero]; go_big_quiet_on) | (refine plan_load_one 24 _ rfl rfl (EvoAt.cr (by assumption)) (by kernel_rfl) ?_; simp only [Act.put, List.setIfInBounds_toArray, List.set_cons_succ, List.set_cons_zero]; go_big_quiet_on) | (refine plan_load_one 24 _ rfl rfl (EvoAt.cs (by assumption)) (by kernel_rfl) ?_; simp only [Act.put, List.setIfInBounds_toArray, List.set_cons_succ, List.set_cons_zero]; go_big_quiet_on) | (refine plan_load_leaf _ rfl rfl (by assumption) ?_; simp only [Act.put, List.setIfInBounds_toArray, List.set_cons_succ, List.set_cons_zero]; go_big_quiet_on) | (go_big_quiet_op; go_big_quiet_on))))
                  refine wpQuiet_nil ?_
                  intro _ _ k
                  (try replace F1 := F1.later k); (try replace F2 := F2.later k); (try replace F3 := F3.later k); (try replace F4 := F4.later k); (try replace F5 := F5.later k); (try replace F6 := F6.later k); (try replace F7 := F7.later k); (try replace F8 := F8.later k); (try replace F9 := F9.later k); (try replace G1 := G1.later k); (try replace G2 := G2.later k); (try replace G3 := G3.later k); (try replace z := z.later k); (try replace b := later b k); (try replace bB := mixed hB bB k)
                  clear k
                  go_wp2_with (with_reducible show wpList _ _ _ (⟨_, Op.store _ _ _, _, _, _, _⟩ :: _) _ _; refine wpl_set_right rfl _ _ rfl rfl rfl F9 ?_; intro _ t1 ht; (try replace F1 := F1.tt ht); (try replace F2 := F2.tt ht); (try replace F3 := F3.tt ht); (try replace F4 := F4.tt ht); (try replace F5 := F5.tt ht); (try replace F6 := F6.tt ht); (try replace F7 := F7.tt ht); (try replace F8 := F8.tt ht); (try replace F9 := F9.tt ht); (try replace G1 := G1.tt ht); (try replace G2 := G2.tt ht); (try replace G3 := G3.tt ht); (try replace z := z.tt ht); (try replace b := below_touch b ht (by omega) (by omega)); (try replace bB := below_touch bB ht (by omega) hB); replace F9 := t1; clear ht)
                  refine goB_since ?_
                  (try simp only [Act.put, List.setIfInBounds_toArray, List.set_cons_succ, List.set_cons_zero])
                  refine plan_stop ?_
                  simp only [pickOps, opAt, List.getElem?_cons_succ, List.getElem?_cons_zero, List.nil_append, List.cons_append]
                  (repeat (first | go_big_quiet_skip | (go_big_quiet_want; first | (refine plan_load_hash _ rfl rfl (by assumption) ?_; simp only [Act.put, List.setIfInBounds_toArray, List.set_cons_succ, List.set_cons_zero]; go_big_quiet_on) | (refine plan_load_one 3 _ rfl rfl (EvoAt.cd (by assumption)) (by kernel_rfl) ?_; simp only [Act.put, List.setIfInBounds_toArray, List.set_cons_succ, List.set_cons_zero]; go_big_quiet_on) | (refine plan_load_one 3 _ rfl rfl (EvoAt.cp (by assumption)) (by kernel_rfl) ?_; simp only [Act.put, List.setIfInBounds_toArray, List.set_cons_succ, List.set_cons_zero]; go_big_quiet_on) | (refine plan_load_one 24 _ rfl rfl (EvoAt.cr (by assumption)) (by kernel_rfl) ?_; simp only [Act.put, List.setIfInBounds_toArray, List.set_cons_succ, List.set_cons_zero]; go_big_quiet_on) | (refine plan_load_one 24 _ rfl rfl (EvoAt.cs (by assumption)) (by kernel_rfl) ?_; simp only [Act.put, List.setIfInBounds_toArray, List.set_cons_succ, List.set_cons_zero]; go_big_quiet_on) | (refine plan_load_leaf _ rfl rfl (by assumption) ?_; simp only [Act.put, List.setIfInBounds_toArray, List.set_cons_succ, List.set_cons_zero]; go_big_quiet_on) | (go_big_quiet_op; go_big_quiet_on))))
                  refine wpQuiet_nil ?_
                  intro _ _ k
                  (try replace F1 := F1.later k); (try replace F2 := F2.later k); (try replace F3 := F3.later k); (try replace F4 := F4.later k); (try replace F5 := F5.later k); (try replace F6 := F6.later k); (try replace F7 := F7.later k); (try replace F8 := F8.later k); (try replace F9 := F9.later k); (try replace G1 := G1.later k); (try replace G2 := G2.later k); (try replace G3 := G3.later k); (try replace z := z.later k); (try replace b := later b k); (try replace bB := mixed hB bB k)
                  clear k
                  clear CR
                  obtain ⟨b2, k2, cap2, hv2, _, _, _, hcs2⟩ := F6.now.block (by rw [HDS.out]; omega)
                  simp only [Value.slice.injEq] at hv2
                  obtain ⟨rfl, -, rfl⟩ := hv2
                  have CS := hcs2 r (by rw [HDS.out]; omega)
                  rw [← HY.out] at CS
                  clear hcs2
                  go_wp2_with (first | (with_reducible show wpList _ _ _ (⟨_, Op.load _ _, _, _, _, _⟩ :: _) _ _; first | (refine wpl_load_hash rfl _ rfl rfl (by assumption) ?_) | (refine wpl_load_one rfl 3 _ rfl rfl (EvoAt.cd (by assumption)) (by kernel_rfl) ?_) | (refine wpl_load_one rfl 3 _ rfl rfl (EvoAt.cp (by assumption)) (by kernel_rfl) ?_) | (refine wpl_load_one rfl 24 _ rfl rfl (EvoAt.cr (by assumption)) (by kernel_rfl) ?_) | (refine wpl_load_one rfl 24 _ rfl rfl (EvoAt.cs (by assumption)) (by kernel_rfl) ?_) | (refine wpl_load_leaf rfl _ rfl rfl (by assumption) ?_) | (refine wpl_load_evo rfl _ rfl rfl (by assumption) ?_)) | (with_reducible show Code.wp _ (Code.region _ _ true) _ _ _; (try simp only [Act.put, List.setIfInBounds_toArray, List.set_cons_succ, List.set_cons_zero]); fail))
                  (try simp only [Act.put, List.setIfInBounds_toArray, List.set_cons_succ, List.set_cons_zero])
                  refine region_plan (fun x => Below (World.heap _).size _ x) (.one [0, 1, 2, 3, 4, 5, 6] 7 (.bar [] 8 (.bar [9] 10 (.stop [])))) (by kernel_rfl) (by kernel_rfl) (by kernel_rfl) (by decide) (lasts_below (Nat.le_refl _)) (Below.refl _ _) ?_
                  intro wpl0 _ _ _
                  refine plan_one ?_
                  simp only [pickOps, opAt, List.getElem?_cons_succ, List.getElem?_cons_zero, List.nil_append, List.cons_append]
                  (repeat (first | go_big_quiet_skip | (go_big_quiet_want; first | (refine plan_load_hash _ rfl rfl (by assumption) ?_; simp only [Act.put, List.setIfInBounds_toArray, List.set_cons_succ, List.set_cons_zero]; go_big_quiet_on) | (refine plan_load_one 3 _ rfl rfl (EvoAt.cd (by assumption)) (by kernel_rfl) ?_; simp only [Act.put, List.setIfInBounds_toArray, List.set_cons_succ, List.set_cons_zero]; go_big_quiet_on) | (refine plan_load_one 3 _ rfl rfl (EvoAt.cp (by assumption)) (by kernel_rfl) ?_; simp only [Act.put, List.setIfInBounds_toArray, List.set_cons_succ, List.set_cons_zero]; go_big_quiet_on) | (refine plan_load_one 24 _ rfl rfl (EvoAt.cr (by assumption)) (by kernel_rfl) ?_; simp only [Act.put, List.setIfInBounds_toArray, List.set_cons_succ, List.set_cons_zero]; go_big_quiet_on) | (refine plan_load_one 24 _ rfl rfl (EvoAt.cs (by assumption)) (by kernel_rfl) ?_; simp only [Act.put, List.setIfInBounds_toArray, List.set_cons_succ, List.set_cons_zero]; go_big_quiet_on) | (refine plan_load_leaf _ rfl rfl (by assumption) ?_; simp only [Act.put, List.setIfInBounds_toArray, List.set_cons_succ, List.set_cons_zero]; go_big_quiet_on) | (refine plan_load_elem _ rfl rfl CS YL.out ?_; simp only [Act.put, List.setIfInBounds_toArray, List.set_cons_succ, List.set_cons_zero]; go_big_quiet_on) | (go_big_quiet_op; go_big_quiet_on))))
                  refine wpQuiet_nil ?_
                  intro _ _ k
                  refine wpl_hash1 rfl _ rfl rfl YL.out ?_
                  intro _ gs _ hs2 hb
                  replace k := later k hb
                  clear hb
                  (try replace F1 := F1.later k); (try replace F2 := F2.later k); (try replace F3 := F3.later k); (try replace F4 := F4.later k); (try replace F5 := F5.later k); (try replace F6 := F6.later k); (try replace F7 := F7.later k); (try replace F8 := F8.later k); (try replace F9 := F9.later k); (try replace G1 := G1.later k); (try replace G2 := G2.later k); (try replace G3 := G3.later k); (try replace z := z.later k); (try replace b := later b k); (try replace bB := mixed hB bB k)
                  refine goQ_since (lasts_below (Nat.le_refl _)) k ?_
                  clear k
                  (try simp only [Act.put, List.setIfInBounds_toArray, List.set_cons_succ, List.set_cons_zero])
                  refine plan_bar ?_
                  simp only [pickOps, opAt, List.getElem?_cons_succ, List.getElem?_cons_zero, List.nil_append, List.cons_append]
                  refine wpQuiet_nil ?_
                  intro _ _ k
                  (try replace F1 := F1.later k); (try replace F2 := F2.later k); (try replace F3 := F3.later k); (try replace F4 := F4.later k); (try replace F5 := F5.later k); (try replace F6 := F6.later k); (try replace F7 := F7.later k); (try replace F8 := F8.later k); (try replace F9 := F9.later k); (try replace G1 := G1.later k); (try replace G2 := G2.later k); (try replace G3 := G3.later k); (try replace z := z.later k); (try replace b := later b k); (try replace bB := mixed hB bB k)
                  replace hs2 := hs2.later k
                  clear k
                  have q5 := OwnU.lt G2
                  refine wpl_app rfl _ _ rfl rfl G3 rfl hs2 _ HSL.out (by omega) G1.lt ?_
                  intro _ _ _ O6 hbB ht hob
                  have O5 := G2.other ht (fun b h1 h2 => HDIS.out b h2 h1)
                  have D2 := hide (dis_right HDIS.out hob q5)
                  clear G2 G3 HDIS hob q5 ht hs2
                  have G3 := O6.low (g := g8) k8
                  have G2 := O5
                  have HDIS := D2
                  (try replace F1 := F1.below hbB (by omega)); (try replace F2 := F2.below hbB (by omega)); (try replace F3 := F3.below hbB (by omega)); (try replace F4 := F4.below hbB (by omega)); (try replace F5 := F5.below hbB (by omega)); (try replace F6 := F6.below hbB (by omega)); (try replace F7 := F7.below hbB (by omega)); (try replace F8 := F8.below hbB (by omega)); (try replace F9 := F9.below hbB (by omega)); (try replace G1 := G1.below hbB (by omega)); (try replace G2 := G2.below hbB (by omega)); (try replace G3 := G3.below hbB (by omega)); (try replace z := z.below hbB (by omega)); (try replace b := below_more b hbB (by omega)); (try replace bB := below_more bB hbB (by omega))
                  clear O5 O6 D2 hbB
                  refine goB_since ?_
                  (try simp only [Act.put, List.setIfInBounds_toArray, List.set_cons_succ, List.set_cons_zero])
                  refine plan_bar ?_
                  simp only [pickOps, opAt, List.getElem?_cons_succ, List.getElem?_cons_zero, List.nil_append, List.cons_append]
                  (repeat (first | go_big_quiet_skip | (go_big_quiet_want; first | (refine plan_load_hash _ rfl rfl (by assumption) ?_; simp only [Act.put, List.setIfInBounds_toArray, List.set_cons_succ, List.set_cons_zero]; go_big_quiet_on) | (refine plan_load_one 3 _ rfl rfl (EvoAt.cd (by assumption)) (by kernel_rfl) ?_; simp only [Act.put, List.setIfInBounds_toArray, List.set_cons_succ, List.set_cons_zero]; go_big_quiet_on) | (refine plan_load_one 3 _ rfl rfl (EvoAt.cp (by assumption)) (by kernel_rfl) ?_; simp only [Act.put, List.setIfInBounds_toArray, List.set_cons_succ, List.set_cons_zero]; go_big_quiet_on) | (refine plan_load_one 24 _ rfl rfl (EvoAt.cr (by assumption)) (by kernel_rfl) ?_; simp only [Act.put, List.setIfInBounds_toArray, List.set_cons_succ, List.set_cons_zero]; go_big_quiet_on) | (refine plan_load_one 24 _ rfl rfl (EvoAt.cs (by assumption)) (by kernel_rfl) ?_; simp only [Act.put, List.setIfInBounds_toArray, List.set_cons_succ, List.set_cons_zero]; go_big_quiet_on) | (refine plan_load_leaf _ rfl rfl (by assumption) ?_; simp only [Act.put, List.setIfInBounds_toArray, List.set_cons_succ, List.set_cons_zero]; go_big_quiet_on) | (go_big_quiet_op; go_big_quiet_on))))
                  refine wpQuiet_nil ?_
                  intro _ _ k
                  (try replace F1 := F1.later k); (try replace F2 := F2.later k); (try replace F3 := F3.later k); (try replace F4 := F4.later k); (try replace F5 := F5.later k); (try replace F6 := F6.later k); (try replace F7 := F7.later k); (try replace F8 := F8.later k); (try replace F9 := F9.later k); (try replace G1 := G1.later k); (try replace G2 := G2.later k); (try replace G3 := G3.later k); (try replace z := z.later k); (try replace b := later b k); (try replace bB := mixed hB bB k)
                  clear k
                  go_wp2_with (with_reducible show wpList _ _ _ (⟨_, Op.store _ _ _, _, _, _, _⟩ :: _) _ _; refine wpl_set_side rfl _ _ rfl rfl rfl F9 ?_; intro _ t1 ht; (try replace F1 := F1.tt ht); (try replace F2 := F2.tt ht); (try replace F3 := F3.tt ht); (try replace F4 := F4.tt ht); (try replace F5 := F5.tt ht); (try replace F6 := F6.tt ht); (try replace F7 := F7.tt ht); (try replace F8 := F8.tt ht); (try replace F9 := F9.tt ht); (try replace G1 := G1.tt ht); (try replace G2 := G2.tt ht); (try replace G3 := G3.tt ht); (try replace z := z.tt ht); (try replace b := below_touch b ht (by omega) (by omega)); (try replace bB := below_touch bB ht (by omega) hB); replace F9 := t1; clear ht)
                  refine goB_since ?_
                  (try simp only [Act.put, List.setIfInBounds_toArray, List.set_cons_succ, List.set_cons_zero])
                  refine plan_stop ?_
                  simp only [pickOps, opAt, List.getElem?_cons_succ, List.getElem?_cons_zero, List.nil_append, List.cons_append]
                  (repeat (first | go_big_quiet_skip | (go_big_quiet_want; first | (refine plan_load_hash _ rfl rfl (by assumption) ?_; simp only [Act.put, List.setIfInBounds_toArray, List.set_cons_succ, List.set_cons_zero]; go_big_quiet_on) | (refine plan_load_one 3 _ rfl rfl (EvoAt.cd (by assumption)) (by kernel_rfl) ?_; simp only [Act.put, List.setIfInBounds_toArray, List.set_cons_succ, List.set_cons_zero]; go_big_quiet_on) | (refine plan_load_one 3 _ rfl rfl (EvoAt.cp (by assumption)) (by kernel_rfl) ?_; simp only [Act.put, List.setIfInBounds_toArray, List.set_cons_succ, List.set_cons_zero]; go_big_quiet_on) | (refine plan_load_one 24 _ rfl rfl (EvoAt.cr (by assumption)) (by kernel_rfl) ?_; simp only [Act.put, List.setIfInBounds_toArray, List.set_cons_succ, List.set_cons_zero]; go_big_quiet_on) | (refine plan_load_one 24 _ rfl rfl (EvoAt.cs (by assumption)) (by kernel_rfl) ?_; simp only [Act.put, List.setIfInBounds_toArray, List.set_cons_succ, List.set_cons_zero]; go_big_quiet_on) | (refine plan_load_leaf _ rfl rfl (by assumption) ?_; simp only [Act.put, List.setIfInBounds_toArray, List.set_cons_succ, List.set_cons_zero]; go_big_quiet_on) | (go_big_quiet_op; go_big_quiet_on))))
                  refine wpQuiet_nil ?_
                  intro _ _ k
                  (try replace F1 := F1.later k); (try replace F2 := F2.later k); (try replace F3 := F3.later k); (try replace F4 := F4.later k); (try replace F5 := F5.later k); (try replace F6 := F6.later k); (try replace F7 := F7.later k); (try replace F8 := F8.later k); (try replace F9 := F9.later k); (try replace G1 := G1.later k); (try replace G2 := G2.later k); (try replace G3 := G3.later k); (try replace z := z.later k); (try replace b := later b k); (try replace bB := mixed hB bB k)
                  clear k
                  clear CS
                  go_wp2_with (with_reducible show wpList _ _ _ (⟨_, Op.load _ _, _, _, _, _⟩ :: _) _ _; first | (refine wpl_load_hash rfl _ rfl rfl (by assumption) ?_) | (refine wpl_load_one rfl 3 _ rfl rfl (EvoAt.cd (by assumption)) (by kernel_rfl) ?_) | (refine wpl_load_one rfl 3 _ rfl rfl (EvoAt.cp (by assumption)) (by kernel_rfl) ?_) | (refine wpl_load_one rfl 24 _ rfl rfl (EvoAt.cr (by assumption)) (by kernel_rfl) ?_) | (refine wpl_load_one rfl 24 _ rfl rfl (EvoAt.cs (by assumption)) (by kernel_rfl) ?_) | (refine wpl_load_leaf rfl _ rfl rfl (by assumption) ?_) | (refine wpl_load_evo rfl _ rfl rfl (by assumption) ?_))
                  go_roundw
                  case rel => exact ⟨r + 1, _, _, _, _, _, _, by simp, by omega, HR', HS', (by unfold Hid; rw [List.length_append, HRL.out]; rfl), (by unfold Hid; rw [List.length_append, HSL.out]; rfl), F9, G2, G3, HDIS, F1, F2, F5, F6, F7, G1, b⟩
                  case measure => simp [RowKit.intOf]; omega
                · obtain rfl : D = r := by omega
                  replace G2 := G2.low (g := g2) k2'
                  replace G3 := G3.low (g := g2) k2'
                  have HRE : Hid (R2 = NX.right) := by unfold Hid; rw [HR2.out, HNX.out, HR.out, List.take_of_length_le (l := RR) (by rw [HDR.out]; omega)]
                  have HSE : Hid (S2 = NX.side) := by unfold Hid; rw [HS2.out, HNX.out, HS.out, List.take_of_length_le (l := SS) (by rw [HDS.out]; omega)]
                  have HE3 : Hid (NX.d = d ∧ NX.p = (p : Int) + 1 ∧ NX.leaf = LL) := by rw [HNX.out]; exact ⟨rfl, rfl, rfl⟩
                  clear HR2 HS2 HNX F5 F6
                  go_wp2_with (first | (with_reducible show wpList _ _ _ (⟨_, Op.load _ _, _, _, _, _⟩ :: _) _ _; first | (refine wpl_load_hash rfl _ rfl rfl (by assumption) ?_) | (refine wpl_load_one rfl 3 _ rfl rfl (EvoAt.cd (by assumption)) (by kernel_rfl) ?_) | (refine wpl_load_one rfl 3 _ rfl rfl (EvoAt.cp (by assumption)) (by kernel_rfl) ?_) | (refine wpl_load_one rfl 24 _ rfl rfl (EvoAt.cr (by assumption)) (by kernel_rfl) ?_) | (refine wpl_load_one rfl 24 _ rfl rfl (EvoAt.cs (by assumption)) (by kernel_rfl) ?_) | (refine wpl_load_leaf rfl _ rfl rfl (by assumption) ?_) | (refine wpl_load_evo rfl _ rfl rfl (by assumption) ?_)) | (with_reducible show wpList _ _ _ (⟨_, Op.store _ _ _, _, _, _, _⟩ :: _) _ _; refine wpl_set_evo rfl _ _ rfl rfl rfl HLL.out rfl rfl F2 ?_; intro _ t1 ht; (try replace F1 := F1.tt ht); (try replace F2 := F2.tt ht); (try replace F3 := F3.tt ht); (try replace F4 := F4.tt ht); (try replace F5 := F5.tt ht); (try replace F6 := F6.tt ht); (try replace F7 := F7.tt ht); (try replace F8 := F8.tt ht); (try replace F9 := F9.tt ht); (try replace G1 := G1.tt ht); (try replace G2 := G2.tt ht); (try replace G3 := G3.tt ht); (try replace z := z.tt ht); (try replace b := below_touch b ht (by omega) (by omega)); (try replace bB := below_touch bB ht (by omega) hB); replace F2 := t1; clear ht))
                  refine bodyPost_ret (ret_evo_tmp rfl _ _ _ rfl rfl F2) rfl ?_
                  rw [HPR.out]
                  obtain ⟨e1, e2, e3⟩ := HE3.out
                  have h2 := G2.hs
                  have h3 := G3.hs
                  rw [HRE.out] at h2
                  rw [HSE.out] at h3
                  exact ⟨_, rfl, ⟨_, _, by rw [e1, e2, e3], h2, h3, by rw [e3]; exact HLL.out⟩, b⟩
end Go.Proofs.Ytofjjpielkfloaa
