/- The reference of layer 3: times, less. -/
import Derived.Test.YtbbfnpfkbbpjgaaRootsP
import Derived.Test.YtbbfnpfkbbpjgaaSlEl
import Derived.Test.YtbbfnpfkbbpjgaaElOf
namespace Go.Proofs.Ytbbfnpfkbbpjgaa
open Go.RowKit Go.Lib
set_option linter.unusedVariables false
set_option linter.unusedSimpArgs false

def numC (n : Nat) : List Value := [.int .u64 n]
def numsC (l : List Nat) : List (List Value) := l.map numC
theorem numElem : ElemOf Try.prog 111 23 1 8 := elOf Try.underlying111 (by decide) (by kernel_rfl)
theorem numC_one (n : Nat) : ∀ v ∈ numC n, v.oneCell' = true := by intro v hv; simp [numC] at hv; subst hv; rfl
theorem Cells.num {w : World} {b k i n : Nat} (h : Cells w b (k + i * 1) (numC n)) : w.cell? ⟨b, k + i, none⟩ = some (.int .u64 n) := by
  have := Cells.one h
  rwa [Nat.mul_one] at this
set_option maxRecDepth 100000 in
set_option maxHeartbeats 1600000 in
theorem times03_any (v : Value) (ds : List Nat) (n : Nat) (w : World) (hv : Sl w v 1 (numsC ds)) (hd : DigsR 20 ds) (hn : n < 1099511627776) :
    Calls Try.prog 199 #[v, .int .u64 n] w fun e w' => ∃ v', e = .returned v' ∧ OwnR w' w.heap.size 23 1 v' (numsC (timesN ds n)) [] ∧ Below w.heap.size w w' := by
  obtain ⟨a, c, rfl, hc1, hc2, _⟩ := Sl.shape hv
  obtain ⟨m, hm⟩ : ∃ m, m = ds.length := ⟨_, rfl⟩
  have HM := hide hm
  have hm20 : m ≤ 20 := by rw [hm]; exact hd.1
  rw [← hm]
  have HD := hide hd
  have b := Below.refl w.heap.size w
  clear hc1 hc2 hm hd
  go_enter Try.func199, Try.ntmps199
  go_wp2_with fail
  go_loopw [5, 6, 7] (fun vo ov i wr => ∃ (k o : Nat) (P : List Nat), ov = .int .u64 o ∧ i = .int .i64 k ∧ P.length = k ∧ OwnR wr w.heap.size 23 1 vo (numsC P) [] ∧ Hid (P ++ timesF (ds.length + 4 - k) (ds.drop k) n o = timesN ds n) ∧ Carry m n k o ∧ Below w.heap.size w wr) (fun _ _ i _ => m + 4 - (RowKit.intOf i).toNat)
  case atStart => exact ⟨0, 0, [], rfl, rfl, rfl, OwnR.nil _ _ _ _, hide rfl, carry_start, b⟩
  case round =>
    clear b
    obtain ⟨k, o, P, rfl, rfl, hP, O1, HT, hca, b⟩ := hrel
    have hvr := hv.later b
    have hPl : (numsC P).length = k := by rw [← hP]; exact List.length_map ..
    have ho := carry_small hca hn
    have qb := b.size
    have hk3 := hca.2.1
    by_cases hlt : k < m
    · have hx : ∃ x, ds[k]? = some x := ⟨_, List.getElem?_eq_getElem (by rw [← HM.out]; exact hlt)⟩
      obtain ⟨x, hx⟩ := hx
      have hx6 := digsr_get HD.out hx
      obtain ⟨bb, k0, c', he, _, hcs⟩ := Sl.block hvr (by rw [← HM.out]; omega)
      simp only [Value.slice.injEq] at he
      obtain ⟨rfl, _, rfl⟩ := he
      have d1 := (hcs k x hx).num
      obtain ⟨m1, m2⟩ := carry_mul hn ho hx6
      have HN : Hid ((P ++ [(o + x * n) % 65536]) ++ timesF (ds.length + 4 - (k + 1)) (ds.drop (k + 1)) n ((o + x * n) / 65536) = timesN ds n) := by rw [← times_next P n o hx]; exact HT
      have HC := hide (carry_next hca hlt hx6)
      have w1 : IntKind.u64.wrap ((x : Int) * (n : Int)) = ((x * n : Nat) : Int) := by rw [IntKind.wrap_u64]; push_cast; omega
      have w2 : IntKind.u64.wrap ((o : Int) + ((x * n : Nat) : Int)) = ((o + x * n : Nat) : Int) := by rw [IntKind.wrap_u64]; push_cast; omega
      have HP := hide hPl
      clear hcs hx HT hca hP hPl m1
      generalize x * n = xn at *
      generalize o + xn = z at *
      go_wp2_with (first | (with_reducible show wpList _ _ _ (⟨_, Op.load _ _, _, _, _, _⟩ :: _) _ _; refine wpl_load_one rfl 23 _ rfl rfl d1 (by kernel_rfl) ?_) | ((with_reducible show wpList _ _ _ (⟨_, Op.buildSlice _ _ _, _, _, _, _⟩ :: _) _ _); refine wpl_row1 rfl numElem (by decide) _ rfl (v := .int .u64 ((z % 65536 : Nat) : Int)) (el := numC (z % 65536)) (by simp; rfl) rfl rfl (numC_one _) ?_; intro _ g9 h9 O9 hb; replace O1 := O1.later hb; replace b := later b hb; clear hb) | ((with_reducible show wpList _ _ _ (⟨_, Op.call _, _, _, _, _⟩ :: _) _ _); refine wpl_append_row rfl _ _ numElem rfl rfl O1 rfl O9.sl O9.2.1 (k + 1) (by rw [HP.out]; rfl) (by omega) (by omega) b.size ?_; intro a2 c2 w2 O2 ht2 _; replace b := b.trans (ht2.below (B := w.heap.size) b.size (fun x hx => O1.ge x hx)); clear O1 O9 ht2))
      go_roundw
      case rel => exact ⟨k + 1, z / 65536, P ++ [z % 65536], by simp, by simp, by simp; have := HP.out; simpa [numsC] using this, by unfold numsC; rw [List.map_append]; exact O2, HN, HC.out, b⟩
      case measure => simp [RowKit.intOf]; omega
    · have hlt' : ¬ (k : Int) < (m : Int) := by omega
      by_cases h0 : 0 < o
      · have c0 := decide_eq_true (show (0 : Int) < (o : Int) by omega)
        have hmk : ds.length ≤ k := by rw [← HM.out]; omega
        obtain ⟨q1, q2⟩ := carry_more hca hn (by omega) h0
        have HN : Hid ((P ++ [o % 65536]) ++ timesF (ds.length + 4 - (k + 1)) (ds.drop (k + 1)) n (o / 65536) = timesN ds n) := by rw [← times_more P n o hmk (by rw [← HM.out]; omega) h0]; exact HT
        have HC := hide q2
        have HP := hide hPl
        clear HT hca hP hPl q2 hmk
        go_wp2_with (first | ((with_reducible show wpList _ _ _ (⟨_, Op.buildSlice _ _ _, _, _, _, _⟩ :: _) _ _); refine wpl_row1 rfl numElem (by decide) _ rfl (v := .int .u64 ((o % 65536 : Nat) : Int)) (el := numC (o % 65536)) (by simp; rfl) rfl rfl (numC_one _) ?_; intro _ g9 h9 O9 hb; replace O1 := O1.later hb; replace b := later b hb; clear hb) | ((with_reducible show wpList _ _ _ (⟨_, Op.call _, _, _, _, _⟩ :: _) _ _); refine wpl_append_row rfl _ _ numElem rfl rfl O1 rfl O9.sl O9.2.1 (k + 1) (by rw [HP.out]; rfl) (by omega) (by omega) b.size ?_; intro a2 c2 w2 O2 ht2 _; replace b := b.trans (ht2.below (B := w.heap.size) b.size (fun x hx => O1.ge x hx)); clear O1 O9 ht2))
        go_roundw
        case rel => exact ⟨k + 1, o / 65536, P ++ [o % 65536], by simp, by simp, by simp; have := HP.out; simpa [numsC] using this, by unfold numsC; rw [List.map_append]; exact O2, HN, HC.out, b⟩
        case measure => simp [RowKit.intOf]; omega
      · obtain rfl : o = 0 := by omega
        have hT := HT.out
        rw [times_end P n (by rw [← HM.out]; omega)] at hT
        clear HT
        go_wp2_with fail
        go_ret
        exact ⟨_, rfl, by rw [← hT]; exact O1, b⟩
set_option maxRecDepth 100000 in
set_option maxHeartbeats 1600000 in
theorem less03_any (v u : Value) (l m : List Nat) (w : World) (hv : Sl w v 1 (numsC l)) (hu : Sl w u 1 (numsC m)) :
    Calls Try.prog 200 #[v, u] w fun e w' => e = .returned (.bool (lessN l m)) ∧ Below w.heap.size w w' := by
  obtain ⟨a, c, rfl, hc1, hc2, _⟩ := Sl.shape hv
  obtain ⟨a2, c2, rfl, hc3, hc4, _⟩ := Sl.shape hu
  unfold maxLen at hc2 hc4
  have b := Below.refl w.heap.size w
  unfold lessN
  obtain ⟨nl, hnl⟩ : ∃ n, n = l.length := ⟨_, rfl⟩
  obtain ⟨nm, hnm⟩ : ∃ n, n = m.length := ⟨_, rfl⟩
  have HL := hide hnl
  have HM := hide hnm
  rw [← hnl] at hc1 ⊢
  rw [← hnm] at hc3 ⊢
  have hl63 : nl ≤ 9223372036854775807 := by omega
  have hm63 : nm ≤ 9223372036854775807 := by omega
  clear hc1 hc2 hc3 hc4 hnl hnm
  obtain ⟨M, hM⟩ : ∃ M, M = max nl nm := ⟨_, rfl⟩
  have m1 : max (nl : Int) (nm : Int) = (M : Int) := by rw [hM]; omega
  have m2 : nl ≤ M := by omega
  have m3 : nm ≤ M := by omega
  have m4 : M ≤ 9223372036854775807 := by omega
  have m5 : M ≤ nl ∨ M ≤ nm := by omega
  rw [← hM]
  generalize hR : lessF l m M = R at *
  have HR := hide hR
  clear hR hM
  go_enter Try.func200, Try.ntmps200
  go_wp2_with fail
  go_loopw [5] (fun i wr => ∃ (k : Nat) (q : Int), i = .int .i64 q ∧ q = (k : Int) - 1 ∧ k ≤ M ∧ Hid (lessF l m k = R) ∧ Below w.heap.size w wr) (fun i _ => (RowKit.intOf i + 1).toNat)
  case atStart => exact ⟨M, _, rfl, rfl, Nat.le_refl _, HR, b⟩
  case round =>
    clear b HR
    obtain ⟨k, q, rfl, hq, hk, HR, b⟩ := hrel
    have hvr := hv.later b
    have hur := hu.later b
    cases k with
    | zero =>
      have c0 : decide ((0 : Int) ≤ q) = false := decide_eq_false (by omega)
      have hR : R = false := HR.out.symm
      subst hR
      clear HR
      go_wp2_with fail
      go_ret
      exact ⟨rfl, b⟩
    | succ j =>
      obtain rfl : q = (j : Int) := by omega
      have hR := HR.out
      rw [less_next] at hR
      clear HR hq
      have g1 : ∀ h : j < l.length, l[j]? = some (l.getD j 0) := fun h => by rw [List.getD_eq_getElem?_getD, List.getElem?_eq_getElem h]; rfl
      have g2 : ∀ h : j < m.length, m[j]? = some (m.getD j 0) := fun h => by rw [List.getD_eq_getElem?_getD, List.getElem?_eq_getElem h]; rfl
      have g3 : ¬ j < l.length → l.getD j 0 = 0 := fun h => by rw [List.getD_eq_getElem?_getD, List.getElem?_eq_none (by omega)]; rfl
      have g4 : ¬ j < m.length → m.getD j 0 = 0 := fun h => by rw [List.getD_eq_getElem?_getD, List.getElem?_eq_none (by omega)]; rfl
      by_cases h1 : j < nl
      · skip
        obtain ⟨bb1, kk1, cc1, he1, _, hcs1⟩ := Sl.block hvr (by rw [← HL.out]; omega)
        simp only [Value.slice.injEq] at he1
        obtain ⟨rfl, _, rfl⟩ := he1
        have d1 := (hcs1 j _ (g1 (by rw [← HL.out]; assumption))).num
        clear hcs1
        by_cases h2 : j < nm
        · skip
          obtain ⟨bb2, kk2, cc2, he2, _, hcs2⟩ := Sl.block hur (by rw [← HM.out]; omega)
          simp only [Value.slice.injEq] at he2
          obtain ⟨rfl, _, rfl⟩ := he2
          have d2 := (hcs2 j _ (g2 (by rw [← HM.out]; assumption))).num
          clear hcs2
          generalize hX : l.getD j 0 = x at *
          generalize hY : m.getD j 0 = y at *
          clear hX hY g1 g2 g3 g4
          by_cases hxy : x = y
          · subst hxy
            rw [if_pos rfl] at hR
            have HR := hide hR
            clear hR
            go_wp2_with (first | (with_reducible show wpList _ _ _ (⟨_, Op.load _ _, _, _, _, _⟩ :: _) _ _; refine wpl_load_one rfl 23 _ rfl rfl d1 (by kernel_rfl) ?_) | (with_reducible show wpList _ _ _ (⟨_, Op.load _ _, _, _, _, _⟩ :: _) _ _; refine wpl_load_one rfl 23 _ rfl rfl d2 (by kernel_rfl) ?_))
            go_roundw
            case rel => exact ⟨j, _, rfl, by omega, by omega, HR, b⟩
            case measure => first | (simp [RowKit.intOf]; done) | (simp [RowKit.intOf]; omega)
          · rw [if_neg hxy] at hR
            have c0 : ((x : Int) != (y : Int)) = true := by rw [bne_iff_ne]; omega
            subst hR
            clear hxy
            go_wp2_with (first | (with_reducible show wpList _ _ _ (⟨_, Op.load _ _, _, _, _, _⟩ :: _) _ _; refine wpl_load_one rfl 23 _ rfl rfl d1 (by kernel_rfl) ?_) | (with_reducible show wpList _ _ _ (⟨_, Op.load _ _, _, _, _, _⟩ :: _) _ _; refine wpl_load_one rfl 23 _ rfl rfl d2 (by kernel_rfl) ?_))
            go_ret
            exact ⟨by simp, b⟩
        · rw [g4 (by rw [← HM.out]; exact h2)] at hR
          clear g4
          generalize hX : l.getD j 0 = x at *
          have hY : True := True.intro
          clear hX hY g1 g2 g3
          by_cases hxy : x = 0
          · subst hxy
            rw [if_pos rfl] at hR
            have HR := hide hR
            clear hR
            go_wp2_with (first | (with_reducible show wpList _ _ _ (⟨_, Op.load _ _, _, _, _, _⟩ :: _) _ _; refine wpl_load_one rfl 23 _ rfl rfl d1 (by kernel_rfl) ?_) | (with_reducible show wpList _ _ _ (⟨_, Op.load _ _, _, _, _, _⟩ :: _) _ _; refine wpl_load_one rfl 23 _ rfl rfl d2 (by kernel_rfl) ?_))
            go_roundw
            case rel => exact ⟨j, _, rfl, by omega, by omega, HR, b⟩
            case measure => first | (simp [RowKit.intOf]; done) | (simp [RowKit.intOf]; omega)
          · rw [if_neg hxy] at hR
            have c0 : ((x : Int) != (0 : Int)) = true := by rw [bne_iff_ne]; omega
            subst hR
            clear hxy
            go_wp2_with (first | (with_reducible show wpList _ _ _ (⟨_, Op.load _ _, _, _, _, _⟩ :: _) _ _; refine wpl_load_one rfl 23 _ rfl rfl d1 (by kernel_rfl) ?_) | (with_reducible show wpList _ _ _ (⟨_, Op.load _ _, _, _, _, _⟩ :: _) _ _; refine wpl_load_one rfl 23 _ rfl rfl d2 (by kernel_rfl) ?_))
            go_ret
            exact ⟨by simp, b⟩
      · rw [g3 (by rw [← HL.out]; exact h1)] at hR
        clear g3
        have h2 : j < nm := by omega
        obtain ⟨bb2, kk2, cc2, he2, _, hcs2⟩ := Sl.block hur (by rw [← HM.out]; omega)
        simp only [Value.slice.injEq] at he2
        obtain ⟨rfl, _, rfl⟩ := he2
        have d2 := (hcs2 j _ (g2 (by rw [← HM.out]; assumption))).num
        clear hcs2
        have hX : True := True.intro
        generalize hY : m.getD j 0 = y at *
        clear hX hY g1 g2 g4
        by_cases hxy : 0 = y
        · subst hxy
          rw [if_pos rfl] at hR
          have HR := hide hR
          clear hR
          go_wp2_with (first | (with_reducible show wpList _ _ _ (⟨_, Op.load _ _, _, _, _, _⟩ :: _) _ _; refine wpl_load_one rfl 23 _ rfl rfl d1 (by kernel_rfl) ?_) | (with_reducible show wpList _ _ _ (⟨_, Op.load _ _, _, _, _, _⟩ :: _) _ _; refine wpl_load_one rfl 23 _ rfl rfl d2 (by kernel_rfl) ?_))
          go_roundw
          case rel => exact ⟨j, _, rfl, by omega, by omega, HR, b⟩
          case measure => first | (simp [RowKit.intOf]; done) | (simp [RowKit.intOf]; omega)
        · rw [if_neg hxy] at hR
          have c0 : ((0 : Int) != (y : Int)) = true := by rw [bne_iff_ne]; omega
          subst hR
          clear hxy
          go_wp2_with (first | (with_reducible show wpList _ _ _ (⟨_, Op.load _ _, _, _, _, _⟩ :: _) _ _; refine wpl_load_one rfl 23 _ rfl rfl d1 (by kernel_rfl) ?_) | (with_reducible show wpList _ _ _ (⟨_, Op.load _ _, _, _, _, _⟩ :: _) _ _; refine wpl_load_one rfl 23 _ rfl rfl d2 (by kernel_rfl) ?_))
          go_ret
          exact ⟨by simp, b⟩
end Go.Proofs.Ytbbfnpfkbbpjgaa
