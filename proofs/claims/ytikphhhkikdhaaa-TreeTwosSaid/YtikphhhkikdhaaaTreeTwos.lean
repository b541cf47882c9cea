/- Laws of trees: TreeTwos. -/
import Derived.Test.YtikphhhkikdhaaaTreeWorks
import Derived.Test.YtikphhhkikdhaaaAppend
import Derived.Test.YtikphhhkikdhaaaTwosL
namespace Go.Proofs.Ytikphhhkikdhaaa
open Go.RowKit Go.Lib
set_option linter.unusedVariables false
set_option linter.unusedSimpArgs false

theorem two_pow_of (n : Nat) (h : n ≤ 64) (h0 : n ≠ 0) (hb : bits BinOp.and IntKind.i64 (n : Int) ((n : Int) - 1) = 0) : ∃ e, n = 2 ^ e := by
  have : ∀ n : Fin 65, n.1 ≠ 0 → bits BinOp.and IntKind.i64 (n.1 : Int) ((n.1 : Int) - 1) = 0 → ∃ e : Fin 7, n.1 = 2 ^ e.1 := by decide +kernel
  obtain ⟨e, he⟩ := this ⟨n, by omega⟩ h0 hb
  exact ⟨e.1, he⟩
set_option maxRecDepth 100000 in
set_option maxHeartbeats 1600000 in
theorem twos_out (w : World) (v u : Value) (l m : List H32) (hv0 : Hs w v l) (hu0 : Hs w u m) (h : 64 < l.length ∨ l.length ≠ m.length ∨ l.length = 0 ∨ bits BinOp.and IntKind.i64 (l.length : Int) ((l.length : Int) - 1) ≠ 0) :
    Calls Try.prog 13 #[v, u] w fun e w' => e = .returned (.bool true) ∧ Below w.heap.size w w' := by
  obtain ⟨a1, p1, rfl, _, _, _⟩ := hv0.shape
  obtain ⟨a2, p2, rfl, _, _, _⟩ := hu0.shape
  have b := Below.refl w.heap.size w
  generalize l.length = n at *
  generalize m.length = k at *
  by_cases h1 : 64 < n
  · go_enter Try.func13, Try.ntmps13
    go_wp2_with fail
    refine (works04 _).mono ?_
    rintro _ wc1 ⟨rfl, hc1⟩
    replace b := later b hc1
    clear hc1
    go_wp2_with fail
    go_ret
    exact ⟨rfl, b⟩
  · by_cases h2 : n = k
    · subst h2
      by_cases h3 : n = 0
      · subst h3
        go_enter Try.func13, Try.ntmps13
        go_wp2_with fail
        refine (works04 _).mono ?_
        rintro _ wc2 ⟨rfl, hc2⟩
        replace b := later b hc2
        clear hc2
        go_wp2_with fail
        go_ret
        exact ⟨rfl, b⟩
      · have h4 : bits BinOp.and IntKind.i64 (n : Int) ((n : Int) - 1) ≠ 0 := by
          rcases h with h | h | h | h
          · omega
          · exact absurd rfl h
          · omega
          · exact h
        have hb4 : (bits BinOp.and IntKind.i64 (n : Int) ((n : Int) - 1) == 0) = false := beq_eq_false_iff_ne.2 h4
        have hb3 : ((n : Int) == 0) = false := beq_eq_false_iff_ne.2 (by omega)
        have hb5 : (bits BinOp.and IntKind.i64 (n : Int) ((n : Int) - 1) != 0) = true := bne_iff_ne.2 h4
        go_enter Try.func13, Try.ntmps13
        go_wp2_with fail
        refine (works04 _).mono ?_
        rintro _ wc3 ⟨rfl, hc3⟩
        replace b := later b hc3
        clear hc3
        go_wp2_with fail
        go_ret
        exact ⟨rfl, b⟩
    · have hb2 : ((n : Int) == (k : Int)) = false := beq_eq_false_iff_ne.2 (by omega)
      go_enter Try.func13, Try.ntmps13
      go_wp2_with fail
      refine (works04 _).mono ?_
      rintro _ wc4 ⟨rfl, hc4⟩
      replace b := later b hc4
      clear hc4
      go_wp2_with fail
      go_ret
      exact ⟨rfl, b⟩
set_option maxRecDepth 100000 in
set_option maxHeartbeats 3200000 in
theorem twos_in (w : World) (v u : Value) (l m : List H32) (hv0 : Hs w v l) (hu0 : Hs w u m) (e : Nat) (hl : l.length = 2 ^ e) (hm : m.length = 2 ^ e) (h64 : 2 ^ e ≤ 64) (hb : bits BinOp.and IntKind.i64 ((2 ^ e : Nat) : Int) (((2 ^ e : Nat) : Int) - 1) = 0) :
    Calls Try.prog 13 #[v, u] w fun e w' => e = .returned (.bool true) ∧ Below w.heap.size w w' := by
  obtain ⟨a1, p1, rfl, _, _, _⟩ := hv0.shape
  obtain ⟨a2, p2, rfl, _, _, _⟩ := hu0.shape
  have hT : ∀ i, i < 2 ^ e → (∃ x, provL (l ++ m) i = provL l i ++ [x]) ∧ (∃ x, provL (l ++ m) (2 ^ e + i) = provL m i ++ [x]) := fun i hi => prov_twos e l m i hl hm hi
  have hS : ∀ i, (provL l i).length = (provL m i).length := fun i => prov_same l m i (by rw [hl, hm])
  have h0 : 0 < 2 ^ e := Nat.two_pow_pos e
  have hlm : (l ++ m).length = 2 ^ e + 2 ^ e := by rw [List.length_append, hl, hm]
  have hm32 : ∀ h ∈ l ++ m, h.length = 32 := fun h hh => by rcases List.mem_append.1 hh with h1 | h1; exact hv0.2 h h1; exact hu0.2 h h1
  have HPA : Hid (∀ w i, i < 2 ^ e → Hs w (.slice a1 l.length p1) l → Calls Try.prog 32 #[.slice a1 l.length p1, .int .i64 ((i : Nat) : Int)] w (HsOk w (provL l i))) := fun w i hi h => prove_in _ l i w h (by omega) (by omega)
  have HPB : Hid (∀ w i, i < 2 ^ e → Hs w (.slice a2 m.length p2) m → Calls Try.prog 32 #[.slice a2 m.length p2, .int .i64 ((i : Nat) : Int)] w (HsOk w (provL m i))) := fun w i hi h => prove_in _ m i w h (by omega) (by omega)
  have HPC : Hid (∀ w i v, i < 2 ^ e + 2 ^ e → Hs w v (l ++ m) → Calls Try.prog 32 #[v, .int .i64 ((i : Nat) : Int)] w (HsOk w (provL (l ++ m) i))) := fun w i v hi h => prove_in _ (l ++ m) i w h (by omega) (by omega)
  rw [hl] at hv0 HPA
  rw [hm] at hu0 HPB
  rw [hl, hm]
  have HL := hide hl
  have HM := hide hm
  have HT := hide hT
  have HS := hide hS
  have b := Below.refl w.heap.size w
  clear hT hS hl hm hlm
  generalize 2 ^ e = n at *
  have hb3 : ((n : Int) == 0) = false := beq_eq_false_iff_ne.2 (by omega)
  go_enter Try.func13, Try.ntmps13
  go_wp2_with (first | (refine wpl_hashes_none rfl rfl ?_; intro w1 own1 b1 lt1) | (refine wpl_append_hs rfl _ _ rfl rfl own1 rfl (hv0.later b1) n (by rw [HL.out]; simp) (by omega) b1.size ?_; intro a5 c5 w5 own5 ht5 _; have b5 := b1.trans (ht5.below b1.size (fun x hx => (World.ownsRow.lt own1 x hx).1))) | (refine wpl_append_hs rfl _ _ rfl rfl own5 rfl (hu0.later b5) (n + n) (by rw [List.nil_append, HL.out, HM.out]) (by omega) b5.size ?_; intro a6 c6 w6 own6 ht6 _; have b6 := b5.trans (ht6.below b5.size (fun x hx => (World.ownsRow.lt own5 x hx).1))))
  rw [List.nil_append] at own6
  have hx6 : Hs w6 (.slice a6 (n + n) c6) (l ++ m) := own6.hs hm32
  have hv6 := hv0.later b6
  have hu6 := hu0.later b6
  clear own1 own5 own6 ht5 ht6 b1 b5 hv0 hu0 hm32 b
  go_loopw [45] (fun i wr => ∃ k : Nat, i = .int .i64 k ∧ k ≤ n ∧ Hs wr (.slice a1 n p1) l ∧ Hs wr (.slice a2 n p2) m ∧ Hs wr (.slice a6 (n + n) c6) (l ++ m) ∧ Below w.heap.size w wr) (fun i _ => n - (RowKit.intOf i).toNat)
  case atStart => exact ⟨0, rfl, by omega, hv6, hu6, hx6, b6⟩
  case round =>
    clear hv6 hu6 hx6 b6
    obtain ⟨k, rfl, hk, hv, hu, hx, b⟩ := hrel
    by_cases hlt : k < n
    · obtain ⟨⟨x, e2⟩, ⟨y, e4⟩⟩ := HT.out k hlt
      have e3 := HS.out k
      have PA := hide (fun w h => HPA.out w k hlt h)
      have PB := hide (fun w h => HPB.out w k hlt h)
      have PC := hide (fun w h => HPC.out w k (.slice a6 (n + n) c6) (by omega) h)
      have PD := hide (fun w h => HPC.out w (n + k) (.slice a6 (n + n) c6) (by omega) h)
      clear HPA HPB HPC
      rw [e2] at PC
      rw [e4, Int.natCast_add] at PD
      have hNs : (provL l k).length ≤ 64 := by have := proof_small l.length (l.map leafL) k; have hL := HL.out; unfold provL; omega
      generalize provL l k = p at *
      generalize provL m k = r at *
      have E3 := hide e3
      clear e2 e3 e4
      go_wp2_with fail
      obtain ⟨N, hN⟩ : ∃ N, N = p.length := ⟨_, rfl⟩
      have NP := hide hN
      have NR : Hid (N = r.length) := hN.trans E3.out
      have L2 : Hid ((p ++ [x]).length = N + 1) := by unfold Hid; rw [List.length_append, ← hN]; rfl
      have L4 : Hid ((r ++ [y]).length = N + 1) := by unfold Hid; rw [List.length_append, ← NR.out]; rfl
      rw [← hN] at hNs
      clear hN
      refine (PA.out _ hv).mono ?_
      rintro _ w1 ⟨v1, rfl, t1, hb1⟩
      obtain ⟨q1, d1, rfl, f1, _, _⟩ := t1.shape
      rw [← NP.out] at t1 f1 ⊢
      replace hv := hv.later hb1
      replace hu := hu.later hb1
      replace hx := hx.later hb1
      replace b := later b hb1
      go_wp2_with fail
      refine (PC.out _ hx).mono ?_
      rintro _ w2 ⟨v2, rfl, t2, hb2⟩
      obtain ⟨q2, d2, rfl, f2, _, _⟩ := t2.shape
      rw [L2.out] at t2 f2 ⊢
      replace hv := hv.later hb2
      replace hu := hu.later hb2
      replace hx := hx.later hb2
      replace b := later b hb2
      replace t1 := t1.later hb2
      go_wp2_with fail
      refine (PB.out _ hu).mono ?_
      rintro _ w3 ⟨v3, rfl, t3, hb3⟩
      obtain ⟨q3, d3, rfl, f3, _, _⟩ := t3.shape
      rw [← NR.out] at t3 f3 ⊢
      replace hv := hv.later hb3
      replace hu := hu.later hb3
      replace hx := hx.later hb3
      replace b := later b hb3
      replace t1 := t1.later hb3
      replace t2 := t2.later hb3
      go_wp2_with fail
      refine (PD.out _ hx).mono ?_
      rintro _ w4 ⟨v4, rfl, t4, hb4⟩
      obtain ⟨q4, d4, rfl, f4, _, _⟩ := t4.shape
      rw [L4.out] at t4 f4 ⊢
      replace hv := hv.later hb4
      replace hu := hu.later hb4
      replace hx := hx.later hb4
      replace b := later b hb4
      replace t1 := t1.later hb4
      replace t2 := t2.later hb4
      replace t3 := t3.later hb4
      clear PA PB PC PD L2 L4
      clear f1 f2 f3 f4
      go_wp2_with fail
      go_loopw [106] (fun i wr => ∃ j : Nat, i = .int .i64 j ∧ j ≤ N ∧ Below w4.heap.size w4 wr) (fun i _ => N - (RowKit.intOf i).toNat)
      case atStart => exact ⟨0, rfl, by omega, Below.refl _ _⟩
      case round =>
        obtain ⟨j, rfl, hj, bj⟩ := hrel
        by_cases hjN : j < N
        · obtain ⟨b1, k1, _, z1, _, _, _, c1⟩ := (t1.later bj).block (by rw [← NP.out]; omega)
          obtain ⟨b2, k2, _, z2, _, _, _, c2⟩ := (t2.later bj).block (by simp)
          obtain ⟨b3, k3, _, z3, _, _, _, c3⟩ := (t3.later bj).block (by rw [← NR.out]; omega)
          obtain ⟨b4, k4, _, z4, _, _, _, c4⟩ := (t4.later bj).block (by simp)
          simp only [Value.slice.injEq] at z1 z2 z3 z4
          obtain ⟨rfl, -, rfl⟩ := z1
          obtain ⟨rfl, -, rfl⟩ := z2
          obtain ⟨rfl, -, rfl⟩ := z3
          obtain ⟨rfl, -, rfl⟩ := z4
          have hjp : j < p.length := by rw [← NP.out]; exact hjN
          have hjr : j < r.length := by rw [← NR.out]; exact hjN
          have g1 := c1 j hjp
          have g2 := c2 j (by rw [List.length_append]; omega)
          have g3 := c3 j hjr
          have g4 := c4 j (by rw [List.length_append]; omega)
          rw [show (p ++ [x]).getD j [] = p.getD j [] by rw [List.getD_eq_getElem?_getD, List.getD_eq_getElem?_getD, List.getElem?_append_left hjp]] at g2
          rw [show (r ++ [y]).getD j [] = r.getD j [] by rw [List.getD_eq_getElem?_getD, List.getD_eq_getElem?_getD, List.getElem?_append_left hjr]] at g4
          have lp : (p.getD j []).length = 32 := t1.2 _ (by rw [List.getD_eq_getElem?_getD, List.getElem?_eq_getElem hjp]; exact List.getElem_mem _)
          have lr : (r.getD j []).length = 32 := t3.2 _ (by rw [List.getD_eq_getElem?_getD, List.getElem?_eq_getElem hjr]; exact List.getElem_mem _)
          have LP := hide lp
          have LR := hide lr
          clear c1 c2 c3 c4 lp lr hjp hjr
          generalize p.getD j [] = X at *
          generalize r.getD j [] = Y at *
          go_wp2_with fail
          refine region_since (by kernel_rfl) (by kernel_rfl) ?_
          repeat (first | go_big_quiet_skip | (go_big_quiet_want; first | (refine quiet_load_hash _ rfl rfl (by assumption) ?_; simp only [Act.put, List.setIfInBounds_toArray, List.set_cons_succ, List.set_cons_zero]; go_big_quiet_on) | ((first | (refine since_load_elem _ rfl rfl g1 LP.out ?_) | (refine since_load_elem _ rfl rfl g2 LP.out ?_) | (refine since_load_elem _ rfl rfl g3 LR.out ?_) | (refine since_load_elem _ rfl rfl g4 LR.out ?_) | (refine quiet_ne _ _ rfl rfl rfl LP.out LP.out ?_; simp only [decide_true, Bool.not_true]) | (refine quiet_ne _ _ rfl rfl rfl LR.out LR.out ?_; simp only [decide_true, Bool.not_true])); simp only [Act.put, List.setIfInBounds_toArray, List.set_cons_succ, List.set_cons_zero]; go_big_quiet_on) | (go_big_quiet_op; go_big_quiet_on)))
          refine wpQuiet_nil ?_
          intro w7 hb7
          replace bj := later bj hb7
          clear g1 g2 g3 g4 hb7
          go_wp2_with fail
          go_roundw
          case rel => exact ⟨j + 1, by simp, by omega, bj⟩
          case measure => simp [RowKit.intOf]; omega
        · have hjn : j = N := by omega
          subst hjn
          replace hv := hv.later bj
          replace hu := hu.later bj
          replace hx := hx.later bj
          replace b := later b bj
          clear t1 t2 t3 t4 bj
          go_wp2_with fail
          go_roundw
          case rel => exact ⟨k + 1, by simp, by omega, hv, hu, hx, b⟩
          case measure => simp [RowKit.intOf]; omega
    · have hkn : k = n := by omega
      subst hkn
      clear HPA HPB HPC HT HS hv hu hx
      go_wp2_with fail
      refine (works04 _).mono ?_
      rintro _ wc5 ⟨rfl, hc5⟩
      replace b := later b hc5
      clear hc5
      go_wp2_with fail
      go_ret
      exact ⟨rfl, b⟩
end Go.Proofs.Ytikphhhkikdhaaa
