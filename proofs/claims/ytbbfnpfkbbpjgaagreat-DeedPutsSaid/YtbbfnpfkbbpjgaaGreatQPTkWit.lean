/- deed.taken, at api.Wit. -/
import Derived.Test.YtbbfnpfkbbpjgaaGreatQPRdPay
import Derived.Test.YtbbfnpfkbbpjgaaGreatQPDeedI
namespace Go.Proofs.YtbbfnpfkbbpjgaaGreat
open Go.RowKit Go.Lib
set_option linter.unusedVariables false
set_option linter.unusedSimpArgs false

set_option maxRecDepth 100000 in
set_option maxHeartbeats 3200000 in
theorem takenWit (c g : Nat) (st : Option (List UInt8)) (most : Nat) (w : World) (F1 : One w c 133 (.pointer (some ⟨g, 0, none⟩))) (F5 : RdD w g st) (hcg : c ≠ g) (hm : most ≤ 8) :
    Calls Tryz.prog 106 #[.pointer (some ⟨g, 0, none⟩), .int .i64 most, .func (.func 107) #[] #[.pointer (some ⟨c, 0, none⟩)]] w fun e w' => ∃ (l : List WitT) (st' : Option (List UInt8)) (v : Value), e = .returned v ∧ (∀ x ∈ l, x.Ok) ∧ l.length ≤ most ∧ OwnR w' w.heap.size 74 33 v (l.map witCs) [] ∧ RdD w' g st' ∧ Got (listP most witP) st l st' ∧ Touch (fun b => b = g) w w' := by
  have HC := hide (fun (st : Option (List UInt8)) (w : World) (h1 : One w c 133 (.pointer (some ⟨g, 0, none⟩))) (h5 : RdD w g st) => rdWit c g st w h1 h5 hcg)
  have HN := hide (fun (w : World) (h5 : RdD w g st) => rdNumber g st w h5)
  have ht := Touch.refl (fun b => b = g) w
  have hgw := F5.lt
  have hcw := F1.lt
  have wm : IntKind.u64.wrap (most : Int) = (most : Int) := by rw [IntKind.wrap_u64]; omega
  go_enter Tryz.func106, Tryz.ntmps106
  go_wp2_with (first | (go_at_call 98; refine (HN.out _ F5).mono ?_; rintro _ w1 ⟨n, st1, rfl, hn, h1, hg, ht1⟩; clear F5; have F5 := h1; clear h1; replace F1 := F1.touch ht1 (by show ¬ _ = _; omega); replace ht := ht.add ht1 (fun x h => h); clear ht1) | (with_reducible show wpList _ _ _ (⟨_, Op.binOp BinOp.gtr _ _ _ _, _, _, _, _⟩ :: _) _ _; generalize hstop : wpList _ _ _ _ _ _ = Gstop))
  by_cases hq : most < n
  · have c1 := decide_eq_true (show (most : Int) < (n : Int) by omega)
    obtain ⟨s, bb, FA, hs, _, _⟩ := F5
    have HG := hide (hg.over (p := witP) hq ([] : List WitT))
    have c2 := decide_eq_true hq
    clear F1 hg hn HC HN
    rw [← hstop]; clear hstop
    go_wp2_with (with_reducible show wpList _ _ _ (⟨_, Op.store _ _ _, _, _, _, _⟩ :: _) _ _; refine wpl_set_bad rfl _ _ rfl rfl rfl FA ?_; intro _ t1 h2; clear FA; have FA := t1; replace ht := ht.add h2 (fun x h => h); clear t1 h2)
    go_ret
    exact ⟨[], none, _, rfl, by simp, by simp, OwnR.nil _ _ _ _, RdD.bad FA hs, HG.out, ht⟩
  · have c1 := decide_eq_false (show ¬ (most : Int) < (n : Int) by omega)
    have HG := hide hg
    have hgw2 := F5.lt
    have hqn : n ≤ 8 := by omega
    have c2 := decide_eq_false hq
    clear hg hn HN
    rw [← hstop]; clear hstop
    go_wp2_with fail
    go_loopw [8, 19] (fun v i wr => ∃ (k : Nat) (l : List WitT) (sk : Option (List UInt8)), i = .int .u64 k ∧ k ≤ n ∧ l.length = k ∧ (∀ x ∈ l, x.Ok) ∧ OwnR wr w.heap.size 74 33 v (l.map witCs) [] ∧ Hid (Got (manyP witP k) st1 l sk) ∧ RdD wr g sk ∧ One wr c 133 (.pointer (some ⟨g, 0, none⟩)) ∧ Touch (fun b => b = g) w wr) (fun _ i _ => n - (RowKit.intOf i).toNat)
    case atStart => exact ⟨0, [], st1, rfl, by omega, rfl, by simp, OwnR.nil _ _ _ _, hide (got_none _ _), F5, F1, ht⟩
    case round =>
      clear F1 F5 ht
      obtain ⟨k, l, sk, rfl, hk, hl, hok, O1, HK, F5, F1, ht⟩ := hrel
      by_cases hlt : k < n
      · have hkw : IntKind.u64.wrap ((k : Int) + 1) = ((k + 1 : Nat) : Int) := by rw [IntKind.wrap_u64]; omega
        have hsz := ht.size
        have HOK := hide hok
        have HLL := hide hl
        clear hok hl c1 c2 HG
        go_wp2_with (first | (go_at_call 107; refine (HC.out _ _ F1 F5).mono ?_; rintro _ w1 ⟨x, s2, rfl, hx, h1, hg, ht1⟩; clear F5; have F5 := h1; clear h1; have l1 := F1.lt; replace F1 := F1.touch ht1 (by show ¬ _ = _; omega); replace O1 := O1.tg ht1 hgw; replace ht := ht.add ht1 (fun x h => h); clear ht1) | ((with_reducible show wpList _ _ _ (⟨_, Op.buildSlice _ _ _, _, _, _, _⟩ :: _) _ _); refine wpl_row1 rfl witElem (by decide) _ rfl (v := witV x) (el := witCs x) rfl (by simp [witV, Value.cells]) (witCs_length hx) (witCs_one x) ?_; intro _ g9 h9 O9 hb; have l1 := F1.lt; replace F1 := F1.later hb; replace F5 := F5.later hb; replace O1 := O1.later hb; replace ht := ht.behind hb; clear hb) | ((with_reducible show wpList _ _ _ (⟨_, Op.call _, _, _, _, _⟩ :: _) _ _); refine wpl_append_row rfl _ _ witElem rfl rfl O1 rfl O9.sl O9.2.1 (k + 1) (by rw [List.length_map, HLL.out]; rfl) (by omega) (by omega) (by have := ht.size; omega) ?_; intro a2 c2 w2 O2 ht2 _; replace F5 := F5.touch ht2 (O1.off hgw); replace F1 := F1.touch ht2 (O1.off hcw); replace ht := ht.trans ht2 (fun b hb => .inr (O1.ge b hb)); clear O1 O9 ht2))
        go_roundw
        case rel => exact ⟨k + 1, l ++ [x], s2, by simp, by omega, by simp [HLL.out], ok_snoc HOK.out hx, by rw [List.map_append]; exact O2, hide (HK.out.snoc hg), F5, F1, ht⟩
        case measure => simp [RowKit.intOf]; omega
      · obtain rfl : n = k := by omega
        have HOK := hide hok
        have HLL := hide hl
        clear hok hl
        obtain ⟨av, cv, rfl⟩ := O1.shape
        go_wp2_with fail
        go_ret
        exact ⟨l, sk, _, rfl, HOK.out, by rw [HLL.out]; omega, O1, F5, HG.out.list hq HK.out, ht⟩
end Go.Proofs.YtbbfnpfkbbpjgaaGreat
