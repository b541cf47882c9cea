/- Laws of trees: TreeBack (gen_treeback.py prints it). -/
import Derived.Test.YtikphhhkikdhaaaTreeWorks
import Derived.Test.YtikphhhkikdhaaaAppend
namespace Go.Proofs.Ytikphhhkikdhaaa
open Go.RowKit Go.Lib
set_option linter.unusedVariables false
set_option linter.unusedSimpArgs false

/-- What Check is asked. -/
def Asks (R : H32) (n i : Int) (x : H32) (p : List H32) (r : Bool) : Prop := ∀ w v, Hs w v p → Calls Try.prog 30 #[hv R, .int .i64 n, .int .i64 i, hv x, v] w fun e w' => e = .returned (.bool r) ∧ Below w.heap.size w w'
set_option maxRecDepth 100000 in
set_option maxHeartbeats 12800000 in
theorem treeBack_row (w : World) (v : Value) (l : List H32) (hv0 : Hs w v l) (hn : l.length ≤ 9223372036854775807) :
    Calls Try.prog 11 #[v] w fun e w' => e = .returned (.bool true) ∧ Below w.heap.size w w' := by
  obtain ⟨a, cap, rfl, hc1, hc2, hc0⟩ := hv0.shape
  have b := Below.refl w.heap.size w
  by_cases h : l.length ≤ 40
  · obtain ⟨R, hR⟩ : ∃ R, R = treeL l := ⟨_, rfl⟩
    have hRl : R.length = 32 := by rw [hR]; exact rootL_length _ _
    have HRL := hide hRl
    have HT : Hid (∀ w, Hs w (.slice a l.length cap) l → Calls Try.prog 28 #[.slice a l.length cap] w fun e w' => e = .returned (hv R) ∧ Below w.heap.size w w') := fun w h => by rw [hR]; exact treeRoot_any _ l w h (by omega)
    have HPR : Hid (∀ w i, i < l.length → Hs w (.slice a l.length cap) l → Calls Try.prog 32 #[.slice a l.length cap, .int .i64 ((i : Nat) : Int)] w (HsOk w (provL l i))) := fun w i hi h => prove_in _ l i w h (by omega) hi
    have HS : Hid (∀ i, (provL l i).length ≤ l.length) := fun i => by have := proof_small l.length (l.map leafL) i; unfold provL; exact this
    have D0 : Hid (∀ i, i < l.length → (l.getD i []).length = 32 → Asks R l.length i (l.getD i []) (provL l i) true) := fun i hi hx w v hv => by
      have h1 := HS.out i
      have := treeCheck_any R (l.getD i []) l.length i v (provL l i) w hRl hx hv (by omega)
      rwa [hR, check_back l i hi (by omega), ← hR] at this
    have D1 : Hid (∀ i, i < l.length → (l.getD i []).length = 32 → Asks R l.length i (l.getD i []) (provL l i ++ [l.getD i []]) false) := fun i hi hx w v hv => by
      have h1 := HS.out i
      have := treeCheck_any R (l.getD i []) l.length i v _ w hRl hx hv (by rw [List.length_append, List.length_singleton]; omega)
      rwa [check_more l i hi (by omega)] at this
    have D2 : Hid (∀ i, i < l.length → (l.getD i []).length = 32 → 0 < (provL l i).length → Asks R l.length i (l.getD i []) ((provL l i).drop 1) false) := fun i hi hx hp w v hv => by
      have h1 := HS.out i
      have := treeCheck_any R (l.getD i []) l.length i v _ w hRl hx hv (by rw [List.length_drop]; omega)
      rwa [check_less l i hi (by omega) _ _ hp] at this
    have D3 : Hid (∀ i, i < l.length → (l.getD i []).length = 32 → Asks R l.length ((l.length : Int) + i) (l.getD i []) (provL l i) false) := fun i hi hx w v hv => by
      have h1 := HS.out i
      have := treeCheck_any R (l.getD i []) l.length ((l.length : Int) + i) v (provL l i) w hRl hx hv (by omega)
      rwa [check_out l i] at this
    clear hR hRl
    obtain ⟨n, hn'⟩ : ∃ n, n = l.length := ⟨_, rfl⟩
    have HN := hide hn'
    rw [← hn'] at hc1 hn h HT HPR HS D0 D1 D2 D3 ⊢
    rw [← hn'] at hv0
    clear hn'
    go_enter Try.func11, Try.ntmps11
    go_wp2_with fail
    refine (HT.out _ hv0).mono ?_
    rintro _ wc1 ⟨rfl, hc1⟩
    replace hv0 := hv0.later hc1
    replace b := later b hc1
    clear hc1
    go_wp2_with (refine wpl_new_hash rfl _ _ rfl rfl rfl HRL.out ?_; intro w2 z hn2; replace hv0 := hv0.later hn2; replace b := later b hn2; clear hn2)
    generalize wc1.heap.size = g at *
    go_loopw [16] (fun i wr => ∃ k : Nat, i = .int .i64 k ∧ k ≤ n ∧ Hs wr (.slice a n cap) l ∧ HashAt wr g R ∧ Below w.heap.size w wr) (fun i _ => n - (RowKit.intOf i).toNat)
    case atStart => exact ⟨0, rfl, by omega, hv0, z, b⟩
    case round =>
      clear z b hv0
      obtain ⟨k9, rfl, hk, hvl, hz, b⟩ := hrel
      by_cases hlt : k9 < n
      · obtain ⟨bb, k0, cap', hve, _, _, _, hcs0⟩ := hvl.block (by rw [← HN.out]; omega)
        simp only [Value.slice.injEq] at hve
        obtain ⟨rfl, -, rfl⟩ := hve
        have c0 := hcs0 k9 (by rw [← HN.out]; omega)
        have xl : (l.getD k9 []).length = 32 := hvl.2 _ (by rw [List.getD_eq_getElem?_getD, List.getElem?_eq_getElem (by rw [← HN.out]; omega)]; exact List.getElem_mem _)
        have HPK := hide (fun w h => HPR.out w k9 hlt h)
        have C0 := hide (D0.out k9 hlt xl)
        have C1 := hide (D1.out k9 hlt xl)
        have C2' := hide (D2.out k9 hlt xl)
        have C3 := hide (D3.out k9 hlt xl)
        have hps := HS.out k9
        have hp32 : ∀ h ∈ provL l k9, h.length = 32 := proofF_32 _ _ _ (fun h hh => by obtain ⟨y, _, rfl⟩ := List.mem_map.1 hh; exact leafL_length y)
        generalize provL l k9 = p at *
        generalize l.getD k9 [] = x at *
        have hpx : ∀ h ∈ p ++ [x], h.length = 32 := fun h hh => by rcases List.mem_append.1 hh with h1 | h1; exact hp32 h h1; simp at h1; subst h1; exact xl
        have XL := hide xl
        clear hcs0 xl hp32
        go_wp2_with (first | (refine wpl_load_elem rfl _ rfl rfl c0 XL.out ?_) | (refine wpl_new_hash rfl _ _ rfl rfl rfl XL.out ?_; intro w3 z3 hn3; replace hvl := hvl.later hn3; replace hz := hz.later hn3; replace b := later b hn3; clear hn3))
        refine (HPK.out _ hvl).mono ?_
        rintro _ w4 ⟨v4, rfl, hsP, hb4⟩
        obtain ⟨a4, c4, rfl, hqc, _, _⟩ := hsP.shape
        replace hvl := hvl.later hb4
        replace hz := hz.later hb4
        replace z3 := z3.later hb4
        replace b := later b hb4
        obtain ⟨q, hq⟩ : ∃ q, q = p.length := ⟨_, rfl⟩
        have PL := hide hq
        rw [← hq] at hsP hps hqc ⊢
        clear HPK c0 hq
        generalize wr.heap.size = g3 at *
        by_cases hq0 : q = 0
        · subst hq0
          clear C2'
          go_wp2_with fail
          refine region_plan (fun x => Below (w4).heap.size (w4) x) (.fl [0, 1, 2, 3, 4, 5, 6, 7, 8] 9 (.two [10, 11, 12, 13, 14, 15, 16, 17, 19, 21] 18 (.two [] 20 (.one [] 22 (.one [] 23 (.fl [] 24 (.fl [25, 26, 27, 28, 29, 30, 31, 32, 33, 34, 35, 36, 37] 38 (.fl [39, 40, 41, 42, 43, 44, 45, 46, 47, 48, 49, 50] 51 (.stop [52])))))) 22 (.one [] 20 (.one [] 23 (.fl [] 24 (.fl [25, 26, 27, 28, 29, 30, 31, 32, 33, 34, 35, 36, 37] 38 (.fl [39, 40, 41, 42, 43, 44, 45, 46, 47, 48, 49, 50] 51 (.stop [52]))))))) 22 (.one [] 18 (.one [] 20 (.one [] 23 (.fl [] 24 (.fl [25, 26, 27, 28, 29, 30, 31, 32, 33, 34, 35, 36, 37] 38 (.fl [39, 40, 41, 42, 43, 44, 45, 46, 47, 48, 49, 50] 51 (.stop [52]))))))))) (by kernel_rfl) (by kernel_rfl) (by kernel_rfl) (by decide) (lasts_below (Nat.le_refl _)) (Below.refl _ _) ?_
          intro wpl0 _ _ _
          refine plan_fl ?_
          simp only [pickOps, opAt, List.getElem?_cons_succ, List.getElem?_cons_zero, List.nil_append, List.cons_append]
          repeat (first | go_big_quiet_skip | (go_big_quiet_want; first | (refine plan_load_hash _ rfl rfl (by assumption) ?_; simp only [Act.put, List.setIfInBounds_toArray, List.set_cons_succ, List.set_cons_zero]; go_big_quiet_on) | (go_big_quiet_op; go_big_quiet_on)))
          refine wpQuiet_nil ?_
          refine fl_call (args := #[hv R, .int .i64 n, .int .i64 k9, hv x, .slice a4 0 c4]) (by rfl) rfl (by kernel_rfl) (by simp only [List.map_toArray, List.map_cons, List.map_nil]; rfl) (fun w' hC => C0.out _ _ (hsP.later (Kl.out hC))) ?_
          simp only [Act.put, List.setIfInBounds_toArray, List.set_cons_succ, List.set_cons_zero]
          refine plan_two ?_
          simp only [pickOps, opAt, List.getElem?_cons_succ, List.getElem?_cons_zero, List.nil_append, List.cons_append]
          repeat (first | go_big_quiet_skip | (go_big_quiet_want; first | (refine plan_load_hash _ rfl rfl (by assumption) ?_; simp only [Act.put, List.setIfInBounds_toArray, List.set_cons_succ, List.set_cons_zero]; go_big_quiet_on) | (go_big_quiet_op; go_big_quiet_on)))
          refine wpQuiet_nil ?_
          intro w' kb k
          refine ⟨?_, ?_⟩
          · skip
            refine wpl_hashes_none rfl rfl ?_
            intro w18 own b18 lt18
            replace own : OwnHs w18 w4.heap.size (.slice (some ⟨w'.heap.size, 0, none⟩) 0 0) [] := owns_base own k.size
            refine goQ_same (lasts_below (Nat.le_refl _)) (later k b18) ?_
            simp only [Act.put, List.setIfInBounds_toArray, List.set_cons_succ, List.set_cons_zero]
            clear k kb b18
            generalize w'.heap.size = g18 at *
            refine plan_two ?_
            simp only [pickOps, opAt, List.getElem?_cons_succ, List.getElem?_cons_zero, List.nil_append, List.cons_append]
            repeat (first | go_big_quiet_skip | (go_big_quiet_want; first | (refine plan_load_hash _ rfl rfl (by assumption) ?_; simp only [Act.put, List.setIfInBounds_toArray, List.set_cons_succ, List.set_cons_zero]; go_big_quiet_on) | (go_big_quiet_op; go_big_quiet_on)))
            refine wpQuiet_nil ?_
            intro w' kb k
            replace own := own.later kb
            refine ⟨?_, ?_⟩
            · skip
              refine wpl_append_hs rfl _ _ rfl rfl own rfl (hsP.later k) 0 (by rw [PL.out]; simp) (by omega) k.size ?_
              intro a20 c20 w20 own20 ht20 _
              rw [List.nil_append] at own20
              have k20 := k.trans (ht20.below k.size (fun x hx => (World.ownsRow.lt own x hx).1))
              refine goQ_same (lasts_below (Nat.le_refl _)) k20 ?_
              simp only [Act.put, List.setIfInBounds_toArray, List.set_cons_succ, List.set_cons_zero]
              clear k kb k20 ht20 own
              refine plan_one ?_
              simp only [pickOps, opAt, List.getElem?_cons_succ, List.getElem?_cons_zero, List.nil_append, List.cons_append]
              repeat (first | go_big_quiet_skip | (go_big_quiet_want; first | (refine plan_load_hash _ rfl rfl (by assumption) ?_; simp only [Act.put, List.setIfInBounds_toArray, List.set_cons_succ, List.set_cons_zero]; go_big_quiet_on) | (go_big_quiet_op; go_big_quiet_on)))
              refine wpQuiet_nil ?_
              intro w' kb k
              replace own20 := own20.later kb
              refine wpl_hashes rfl 1 _ rfl [x] rfl (by simp only [List.map_toArray, List.map_cons, List.map_nil]; rfl) (by intro h hh; simp at hh; subst hh; exact XL.out) (by decide) (by decide) ?_
              intro w22 hsx b22 lt22
              replace own20 := own20.later b22
              refine goQ_same (lasts_below (Nat.le_refl _)) (later k b22) ?_
              simp only [Act.put, List.setIfInBounds_toArray, List.set_cons_succ, List.set_cons_zero]
              clear k kb b22
              generalize w'.heap.size = g22 at *
              refine plan_one ?_
              simp only [pickOps, opAt, List.getElem?_cons_succ, List.getElem?_cons_zero, List.nil_append, List.cons_append]
              repeat (first | go_big_quiet_skip | (go_big_quiet_want; first | (refine plan_load_hash _ rfl rfl (by assumption) ?_; simp only [Act.put, List.setIfInBounds_toArray, List.set_cons_succ, List.set_cons_zero]; go_big_quiet_on) | (go_big_quiet_op; go_big_quiet_on)))
              refine wpQuiet_nil ?_
              intro w' kb k
              replace own20 := own20.later kb
              replace hsx := hsx.later kb
              refine wpl_append_hash rfl _ _ rfl rfl own20 rfl hsx 0 PL.out.symm (by rw [← PL.out]; omega) k.size ?_
              intro a23 c23 w23 own23 ht23 _
              have k23 := k.trans (ht23.below k.size (fun x hx => (World.ownsRow.lt own20 x hx).1))
              have hs23 := own23.hs hpx
              replace hsP := hsP.later k23
              replace hvl := hvl.later k23
              replace hz := hz.later k23
              replace z3 := z3.later k23
              replace b := later b k23
              clear own20 hsx ht23 own23 k kb
              refine goQ_since (lasts_below (Nat.le_refl _)) k23 ?_
              simp only [Act.put, List.setIfInBounds_toArray, List.set_cons_succ, List.set_cons_zero]
              clear k23
              refine plan_fl ?_
              simp only [pickOps, opAt, List.getElem?_cons_succ, List.getElem?_cons_zero, List.nil_append, List.cons_append]
              refine wpQuiet_nil ?_
              refine fl_call (args := #[hv R, .int .i64 n, .int .i64 k9, hv x, .slice a23 (0 + 1) c23]) (by rfl) rfl (by kernel_rfl) (by simp only [List.map_toArray, List.map_cons, List.map_nil]; rfl) (fun w' hC => C1.out _ _ (hs23.later (Kl.out hC))) ?_
              simp only [Act.put, List.setIfInBounds_toArray, List.set_cons_succ, List.set_cons_zero]
              refine plan_fl ?_
              simp only [pickOps, opAt, List.getElem?_cons_succ, List.getElem?_cons_zero, List.nil_append, List.cons_append]
              repeat (first | go_big_quiet_skip | (go_big_quiet_want; first | (refine plan_load_hash _ rfl rfl (by assumption) ?_; simp only [Act.put, List.setIfInBounds_toArray, List.set_cons_succ, List.set_cons_zero]; go_big_quiet_on) | (go_big_quiet_op; go_big_quiet_on)))
              refine wpQuiet_nil ?_
              refine ⟨_, .inr ⟨by rfl, rfl⟩, ?_⟩
              simp only [Act.put, List.setIfInBounds_toArray, List.set_cons_succ, List.set_cons_zero]
              refine plan_fl ?_
              simp only [pickOps, opAt, List.getElem?_cons_succ, List.getElem?_cons_zero, List.nil_append, List.cons_append]
              repeat (first | go_big_quiet_skip | (go_big_quiet_want; first | (refine plan_load_hash _ rfl rfl (by assumption) ?_; simp only [Act.put, List.setIfInBounds_toArray, List.set_cons_succ, List.set_cons_zero]; go_big_quiet_on) | (go_big_quiet_op; go_big_quiet_on)))
              refine wpQuiet_nil ?_
              refine fl_call (args := #[hv R, .int .i64 n, .int .i64 (n + k9), hv x, .slice a4 0 c4]) (by rfl) rfl (by kernel_rfl) (by simp only [List.map_toArray, List.map_cons, List.map_nil]; rfl) (fun w' hC => C3.out _ _ (hsP.later (Kl.out hC))) ?_
              simp only [Act.put, List.setIfInBounds_toArray, List.set_cons_succ, List.set_cons_zero]
              refine plan_stop ?_
              simp only [pickOps, opAt, List.getElem?_cons_succ, List.getElem?_cons_zero, List.nil_append, List.cons_append]
              repeat (first | go_big_quiet_skip | (go_big_quiet_want; first | (refine plan_load_hash _ rfl rfl (by assumption) ?_; simp only [Act.put, List.setIfInBounds_toArray, List.set_cons_succ, List.set_cons_zero]; go_big_quiet_on) | (go_big_quiet_op; go_big_quiet_on)))
              refine wpQuiet_nil ?_
              intro w' _ k
              replace hvl := hvl.later k
              replace hz := hz.later k
              replace b := later b k
              clear k hsP hs23 z3 C0 C1 C3
              go_wp2_with fail
              go_roundw
              case rel => exact ⟨k9 + 1, by simp, by omega, hvl, hz, b⟩
              case measure => simp [RowKit.intOf]; omega
            · skip
              refine wpl_hashes rfl 1 _ rfl [x] rfl (by simp only [List.map_toArray, List.map_cons, List.map_nil]; rfl) (by intro h hh; simp at hh; subst hh; exact XL.out) (by decide) (by decide) ?_
              intro w22 hsx b22 lt22
              replace own := own.later b22
              have hne : w'.heap.size ≠ g18 := by have := kb.size; omega
              refine goQ_same (lasts_below (Nat.le_refl _)) (later k b22) ?_
              simp only [Act.put, List.setIfInBounds_toArray, List.set_cons_succ, List.set_cons_zero]
              clear k kb b22
              generalize w'.heap.size = g22 at *
              refine plan_one ?_
              simp only [pickOps, opAt, List.getElem?_cons_succ, List.getElem?_cons_zero, List.nil_append, List.cons_append]
              repeat (first | go_big_quiet_skip | (go_big_quiet_want; first | (refine plan_load_hash _ rfl rfl (by assumption) ?_; simp only [Act.put, List.setIfInBounds_toArray, List.set_cons_succ, List.set_cons_zero]; go_big_quiet_on) | (go_big_quiet_op; go_big_quiet_on)))
              refine wpQuiet_nil ?_
              intro w' kb k
              replace own := own.later kb
              replace hsx := hsx.later kb
              refine wpl_append_hs rfl _ _ rfl rfl own rfl (hsP.later k) 0 (by rw [PL.out]; simp) (by omega) k.size ?_
              intro a20 c20 w20 own20 ht20 _
              rw [List.nil_append] at own20
              have k20 := k.trans (ht20.below k.size (fun x hx => (World.ownsRow.lt own x hx).1))
              replace hsx := hsx.touch2 ht20 (fun _ b hb hS => hne (Option.some.inj (hb.trans hS.symm)))
              refine goQ_same (lasts_below (Nat.le_refl _)) k20 ?_
              simp only [Act.put, List.setIfInBounds_toArray, List.set_cons_succ, List.set_cons_zero]
              clear k kb k20 ht20 own
              refine plan_one ?_
              simp only [pickOps, opAt, List.getElem?_cons_succ, List.getElem?_cons_zero, List.nil_append, List.cons_append]
              repeat (first | go_big_quiet_skip | (go_big_quiet_want; first | (refine plan_load_hash _ rfl rfl (by assumption) ?_; simp only [Act.put, List.setIfInBounds_toArray, List.set_cons_succ, List.set_cons_zero]; go_big_quiet_on) | (go_big_quiet_op; go_big_quiet_on)))
              refine wpQuiet_nil ?_
              intro w' kb k
              replace own20 := own20.later kb
              replace hsx := hsx.later kb
              refine wpl_append_hash rfl _ _ rfl rfl own20 rfl hsx 0 PL.out.symm (by rw [← PL.out]; omega) k.size ?_
              intro a23 c23 w23 own23 ht23 _
              have k23 := k.trans (ht23.below k.size (fun x hx => (World.ownsRow.lt own20 x hx).1))
              have hs23 := own23.hs hpx
              replace hsP := hsP.later k23
              replace hvl := hvl.later k23
              replace hz := hz.later k23
              replace z3 := z3.later k23
              replace b := later b k23
              clear own20 hsx ht23 own23 k kb
              refine goQ_since (lasts_below (Nat.le_refl _)) k23 ?_
              simp only [Act.put, List.setIfInBounds_toArray, List.set_cons_succ, List.set_cons_zero]
              clear k23
              refine plan_fl ?_
              simp only [pickOps, opAt, List.getElem?_cons_succ, List.getElem?_cons_zero, List.nil_append, List.cons_append]
              refine wpQuiet_nil ?_
              refine fl_call (args := #[hv R, .int .i64 n, .int .i64 k9, hv x, .slice a23 (0 + 1) c23]) (by rfl) rfl (by kernel_rfl) (by simp only [List.map_toArray, List.map_cons, List.map_nil]; rfl) (fun w' hC => C1.out _ _ (hs23.later (Kl.out hC))) ?_
              simp only [Act.put, List.setIfInBounds_toArray, List.set_cons_succ, List.set_cons_zero]
              refine plan_fl ?_
              simp only [pickOps, opAt, List.getElem?_cons_succ, List.getElem?_cons_zero, List.nil_append, List.cons_append]
              repeat (first | go_big_quiet_skip | (go_big_quiet_want; first | (refine plan_load_hash _ rfl rfl (by assumption) ?_; simp only [Act.put, List.setIfInBounds_toArray, List.set_cons_succ, List.set_cons_zero]; go_big_quiet_on) | (go_big_quiet_op; go_big_quiet_on)))
              refine wpQuiet_nil ?_
              refine ⟨_, .inr ⟨by rfl, rfl⟩, ?_⟩
              simp only [Act.put, List.setIfInBounds_toArray, List.set_cons_succ, List.set_cons_zero]
              refine plan_fl ?_
              simp only [pickOps, opAt, List.getElem?_cons_succ, List.getElem?_cons_zero, List.nil_append, List.cons_append]
              repeat (first | go_big_quiet_skip | (go_big_quiet_want; first | (refine plan_load_hash _ rfl rfl (by assumption) ?_; simp only [Act.put, List.setIfInBounds_toArray, List.set_cons_succ, List.set_cons_zero]; go_big_quiet_on) | (go_big_quiet_op; go_big_quiet_on)))
              refine wpQuiet_nil ?_
              refine fl_call (args := #[hv R, .int .i64 n, .int .i64 (n + k9), hv x, .slice a4 0 c4]) (by rfl) rfl (by kernel_rfl) (by simp only [List.map_toArray, List.map_cons, List.map_nil]; rfl) (fun w' hC => C3.out _ _ (hsP.later (Kl.out hC))) ?_
              simp only [Act.put, List.setIfInBounds_toArray, List.set_cons_succ, List.set_cons_zero]
              refine plan_stop ?_
              simp only [pickOps, opAt, List.getElem?_cons_succ, List.getElem?_cons_zero, List.nil_append, List.cons_append]
              repeat (first | go_big_quiet_skip | (go_big_quiet_want; first | (refine plan_load_hash _ rfl rfl (by assumption) ?_; simp only [Act.put, List.setIfInBounds_toArray, List.set_cons_succ, List.set_cons_zero]; go_big_quiet_on) | (go_big_quiet_op; go_big_quiet_on)))
              refine wpQuiet_nil ?_
              intro w' _ k
              replace hvl := hvl.later k
              replace hz := hz.later k
              replace b := later b k
              clear k hsP hs23 z3 C0 C1 C3
              go_wp2_with fail
              go_roundw
              case rel => exact ⟨k9 + 1, by simp, by omega, hvl, hz, b⟩
              case measure => simp [RowKit.intOf]; omega
          · skip
            refine wpl_hashes rfl 1 _ rfl [x] rfl (by simp only [List.map_toArray, List.map_cons, List.map_nil]; rfl) (by intro h hh; simp at hh; subst hh; exact XL.out) (by decide) (by decide) ?_
            intro w22 hsx b22 lt22
            refine goQ_same (lasts_below (Nat.le_refl _)) (later k b22) ?_
            simp only [Act.put, List.setIfInBounds_toArray, List.set_cons_succ, List.set_cons_zero]
            clear k kb b22
            generalize w'.heap.size = g22 at *
            refine plan_one ?_
            simp only [pickOps, opAt, List.getElem?_cons_succ, List.getElem?_cons_zero, List.nil_append, List.cons_append]
            repeat (first | go_big_quiet_skip | (go_big_quiet_want; first | (refine plan_load_hash _ rfl rfl (by assumption) ?_; simp only [Act.put, List.setIfInBounds_toArray, List.set_cons_succ, List.set_cons_zero]; go_big_quiet_on) | (go_big_quiet_op; go_big_quiet_on)))
            refine wpQuiet_nil ?_
            intro w' kb k
            replace hsx := hsx.later kb
            refine wpl_hashes_none rfl rfl ?_
            intro w18 own b18 lt18
            replace own : OwnHs w18 w4.heap.size (.slice (some ⟨w'.heap.size, 0, none⟩) 0 0) [] := owns_base own k.size
            replace hsx := hsx.later b18
            have hne : g22 ≠ w'.heap.size := by have := kb.size; omega
            refine goQ_same (lasts_below (Nat.le_refl _)) (later k b18) ?_
            simp only [Act.put, List.setIfInBounds_toArray, List.set_cons_succ, List.set_cons_zero]
            clear k kb b18
            generalize w'.heap.size = g18 at *
            refine plan_one ?_
            simp only [pickOps, opAt, List.getElem?_cons_succ, List.getElem?_cons_zero, List.nil_append, List.cons_append]
            repeat (first | go_big_quiet_skip | (go_big_quiet_want; first | (refine plan_load_hash _ rfl rfl (by assumption) ?_; simp only [Act.put, List.setIfInBounds_toArray, List.set_cons_succ, List.set_cons_zero]; go_big_quiet_on) | (go_big_quiet_op; go_big_quiet_on)))
            refine wpQuiet_nil ?_
            intro w' kb k
            replace own := own.later kb
            replace hsx := hsx.later kb
            refine wpl_append_hs rfl _ _ rfl rfl own rfl (hsP.later k) 0 (by rw [PL.out]; simp) (by omega) k.size ?_
            intro a20 c20 w20 own20 ht20 _
            rw [List.nil_append] at own20
            have k20 := k.trans (ht20.below k.size (fun x hx => (World.ownsRow.lt own x hx).1))
            replace hsx := hsx.touch2 ht20 (fun _ b hb hS => hne (Option.some.inj (hb.trans hS.symm)))
            refine goQ_same (lasts_below (Nat.le_refl _)) k20 ?_
            simp only [Act.put, List.setIfInBounds_toArray, List.set_cons_succ, List.set_cons_zero]
            clear k kb k20 ht20 own
            refine plan_one ?_
            simp only [pickOps, opAt, List.getElem?_cons_succ, List.getElem?_cons_zero, List.nil_append, List.cons_append]
            repeat (first | go_big_quiet_skip | (go_big_quiet_want; first | (refine plan_load_hash _ rfl rfl (by assumption) ?_; simp only [Act.put, List.setIfInBounds_toArray, List.set_cons_succ, List.set_cons_zero]; go_big_quiet_on) | (go_big_quiet_op; go_big_quiet_on)))
            refine wpQuiet_nil ?_
            intro w' kb k
            replace own20 := own20.later kb
            replace hsx := hsx.later kb
            refine wpl_append_hash rfl _ _ rfl rfl own20 rfl hsx 0 PL.out.symm (by rw [← PL.out]; omega) k.size ?_
            intro a23 c23 w23 own23 ht23 _
            have k23 := k.trans (ht23.below k.size (fun x hx => (World.ownsRow.lt own20 x hx).1))
            have hs23 := own23.hs hpx
            replace hsP := hsP.later k23
            replace hvl := hvl.later k23
            replace hz := hz.later k23
            replace z3 := z3.later k23
            replace b := later b k23
            clear own20 hsx ht23 own23 k kb
            refine goQ_since (lasts_below (Nat.le_refl _)) k23 ?_
            simp only [Act.put, List.setIfInBounds_toArray, List.set_cons_succ, List.set_cons_zero]
            clear k23
            refine plan_fl ?_
            simp only [pickOps, opAt, List.getElem?_cons_succ, List.getElem?_cons_zero, List.nil_append, List.cons_append]
            refine wpQuiet_nil ?_
            refine fl_call (args := #[hv R, .int .i64 n, .int .i64 k9, hv x, .slice a23 (0 + 1) c23]) (by rfl) rfl (by kernel_rfl) (by simp only [List.map_toArray, List.map_cons, List.map_nil]; rfl) (fun w' hC => C1.out _ _ (hs23.later (Kl.out hC))) ?_
            simp only [Act.put, List.setIfInBounds_toArray, List.set_cons_succ, List.set_cons_zero]
            refine plan_fl ?_
            simp only [pickOps, opAt, List.getElem?_cons_succ, List.getElem?_cons_zero, List.nil_append, List.cons_append]
            repeat (first | go_big_quiet_skip | (go_big_quiet_want; first | (refine plan_load_hash _ rfl rfl (by assumption) ?_; simp only [Act.put, List.setIfInBounds_toArray, List.set_cons_succ, List.set_cons_zero]; go_big_quiet_on) | (go_big_quiet_op; go_big_quiet_on)))
            refine wpQuiet_nil ?_
            refine ⟨_, .inr ⟨by rfl, rfl⟩, ?_⟩
            simp only [Act.put, List.setIfInBounds_toArray, List.set_cons_succ, List.set_cons_zero]
            refine plan_fl ?_
            simp only [pickOps, opAt, List.getElem?_cons_succ, List.getElem?_cons_zero, List.nil_append, List.cons_append]
            repeat (first | go_big_quiet_skip | (go_big_quiet_want; first | (refine plan_load_hash _ rfl rfl (by assumption) ?_; simp only [Act.put, List.setIfInBounds_toArray, List.set_cons_succ, List.set_cons_zero]; go_big_quiet_on) | (go_big_quiet_op; go_big_quiet_on)))
            refine wpQuiet_nil ?_
            refine fl_call (args := #[hv R, .int .i64 n, .int .i64 (n + k9), hv x, .slice a4 0 c4]) (by rfl) rfl (by kernel_rfl) (by simp only [List.map_toArray, List.map_cons, List.map_nil]; rfl) (fun w' hC => C3.out _ _ (hsP.later (Kl.out hC))) ?_
            simp only [Act.put, List.setIfInBounds_toArray, List.set_cons_succ, List.set_cons_zero]
            refine plan_stop ?_
            simp only [pickOps, opAt, List.getElem?_cons_succ, List.getElem?_cons_zero, List.nil_append, List.cons_append]
            repeat (first | go_big_quiet_skip | (go_big_quiet_want; first | (refine plan_load_hash _ rfl rfl (by assumption) ?_; simp only [Act.put, List.setIfInBounds_toArray, List.set_cons_succ, List.set_cons_zero]; go_big_quiet_on) | (go_big_quiet_op; go_big_quiet_on)))
            refine wpQuiet_nil ?_
            intro w' _ k
            replace hvl := hvl.later k
            replace hz := hz.later k
            replace b := later b k
            clear k hsP hs23 z3 C0 C1 C3
            go_wp2_with fail
            go_roundw
            case rel => exact ⟨k9 + 1, by simp, by omega, hvl, hz, b⟩
            case measure => simp [RowKit.intOf]; omega
        · obtain ⟨t, rfl⟩ : ∃ t, q = t + 1 := ⟨q - 1, by omega⟩
          have hqi : (0 : Int) < (t : Int) + 1 := by omega
          have C2 := hide (C2'.out (by rw [← PL.out]; omega))
          clear C2'
          have hd := hsP.drop 1 (by omega)
          go_wp2_with fail
          refine region_plan (fun x => Below (w4).heap.size (w4) x) (.fl [0, 1, 2, 3, 4, 5, 6, 7, 8] 9 (.two [10, 11, 12, 13, 14, 15, 16, 17, 19, 21] 18 (.two [] 20 (.one [] 22 (.one [] 23 (.fl [] 24 (.fl [25, 26, 27, 28, 29, 30, 31, 32, 33, 34, 35, 36, 37] 38 (.fl [39, 40, 41, 42, 43, 44, 45, 46, 47, 48, 49, 50] 51 (.stop [52])))))) 22 (.one [] 20 (.one [] 23 (.fl [] 24 (.fl [25, 26, 27, 28, 29, 30, 31, 32, 33, 34, 35, 36, 37] 38 (.fl [39, 40, 41, 42, 43, 44, 45, 46, 47, 48, 49, 50] 51 (.stop [52]))))))) 22 (.one [] 18 (.one [] 20 (.one [] 23 (.fl [] 24 (.fl [25, 26, 27, 28, 29, 30, 31, 32, 33, 34, 35, 36, 37] 38 (.fl [39, 40, 41, 42, 43, 44, 45, 46, 47, 48, 49, 50] 51 (.stop [52]))))))))) (by kernel_rfl) (by kernel_rfl) (by kernel_rfl) (by decide) (lasts_below (Nat.le_refl _)) (Below.refl _ _) ?_
          intro wpl0 _ _ _
          refine plan_fl ?_
          simp only [pickOps, opAt, List.getElem?_cons_succ, List.getElem?_cons_zero, List.nil_append, List.cons_append]
          repeat (first | go_big_quiet_skip | (go_big_quiet_want; first | (refine plan_load_hash _ rfl rfl (by assumption) ?_; simp only [Act.put, List.setIfInBounds_toArray, List.set_cons_succ, List.set_cons_zero]; go_big_quiet_on) | (go_big_quiet_op; go_big_quiet_on)))
          refine wpQuiet_nil ?_
          refine fl_call (args := #[hv R, .int .i64 n, .int .i64 k9, hv x, .slice a4 (t + 1) c4]) (by rfl) rfl (by kernel_rfl) (by simp only [List.map_toArray, List.map_cons, List.map_nil]; rfl) (fun w' hC => C0.out _ _ (hsP.later (Kl.out hC))) ?_
          simp only [Act.put, List.setIfInBounds_toArray, List.set_cons_succ, List.set_cons_zero]
          refine plan_two ?_
          simp only [pickOps, opAt, List.getElem?_cons_succ, List.getElem?_cons_zero, List.nil_append, List.cons_append]
          repeat (first | go_big_quiet_skip | (go_big_quiet_want; first | (refine plan_load_hash _ rfl rfl (by assumption) ?_; simp only [Act.put, List.setIfInBounds_toArray, List.set_cons_succ, List.set_cons_zero]; go_big_quiet_on) | (go_big_quiet_op; go_big_quiet_on)))
          refine wpQuiet_nil ?_
          intro w' kb k
          refine ⟨?_, ?_⟩
          · skip
            refine wpl_hashes_none rfl rfl ?_
            intro w18 own b18 lt18
            replace own : OwnHs w18 w4.heap.size (.slice (some ⟨w'.heap.size, 0, none⟩) 0 0) [] := owns_base own k.size
            refine goQ_same (lasts_below (Nat.le_refl _)) (later k b18) ?_
            simp only [Act.put, List.setIfInBounds_toArray, List.set_cons_succ, List.set_cons_zero]
            clear k kb b18
            generalize w'.heap.size = g18 at *
            refine plan_two ?_
            simp only [pickOps, opAt, List.getElem?_cons_succ, List.getElem?_cons_zero, List.nil_append, List.cons_append]
            repeat (first | go_big_quiet_skip | (go_big_quiet_want; first | (refine plan_load_hash _ rfl rfl (by assumption) ?_; simp only [Act.put, List.setIfInBounds_toArray, List.set_cons_succ, List.set_cons_zero]; go_big_quiet_on) | (go_big_quiet_op; go_big_quiet_on)))
            refine wpQuiet_nil ?_
            intro w' kb k
            replace own := own.later kb
            refine ⟨?_, ?_⟩
            · skip
              refine wpl_append_hs rfl _ _ rfl rfl own rfl (hsP.later k) (t + 1) (by rw [PL.out]; simp) (by omega) k.size ?_
              intro a20 c20 w20 own20 ht20 _
              rw [List.nil_append] at own20
              have k20 := k.trans (ht20.below k.size (fun x hx => (World.ownsRow.lt own x hx).1))
              refine goQ_same (lasts_below (Nat.le_refl _)) k20 ?_
              simp only [Act.put, List.setIfInBounds_toArray, List.set_cons_succ, List.set_cons_zero]
              clear k kb k20 ht20 own
              refine plan_one ?_
              simp only [pickOps, opAt, List.getElem?_cons_succ, List.getElem?_cons_zero, List.nil_append, List.cons_append]
              repeat (first | go_big_quiet_skip | (go_big_quiet_want; first | (refine plan_load_hash _ rfl rfl (by assumption) ?_; simp only [Act.put, List.setIfInBounds_toArray, List.set_cons_succ, List.set_cons_zero]; go_big_quiet_on) | (go_big_quiet_op; go_big_quiet_on)))
              refine wpQuiet_nil ?_
              intro w' kb k
              replace own20 := own20.later kb
              refine wpl_hashes rfl 1 _ rfl [x] rfl (by simp only [List.map_toArray, List.map_cons, List.map_nil]; rfl) (by intro h hh; simp at hh; subst hh; exact XL.out) (by decide) (by decide) ?_
              intro w22 hsx b22 lt22
              replace own20 := own20.later b22
              refine goQ_same (lasts_below (Nat.le_refl _)) (later k b22) ?_
              simp only [Act.put, List.setIfInBounds_toArray, List.set_cons_succ, List.set_cons_zero]
              clear k kb b22
              generalize w'.heap.size = g22 at *
              refine plan_one ?_
              simp only [pickOps, opAt, List.getElem?_cons_succ, List.getElem?_cons_zero, List.nil_append, List.cons_append]
              repeat (first | go_big_quiet_skip | (go_big_quiet_want; first | (refine plan_load_hash _ rfl rfl (by assumption) ?_; simp only [Act.put, List.setIfInBounds_toArray, List.set_cons_succ, List.set_cons_zero]; go_big_quiet_on) | (go_big_quiet_op; go_big_quiet_on)))
              refine wpQuiet_nil ?_
              intro w' kb k
              replace own20 := own20.later kb
              replace hsx := hsx.later kb
              refine wpl_append_hash rfl _ _ rfl rfl own20 rfl hsx (t + 1) PL.out.symm (by rw [← PL.out]; omega) k.size ?_
              intro a23 c23 w23 own23 ht23 _
              have k23 := k.trans (ht23.below k.size (fun x hx => (World.ownsRow.lt own20 x hx).1))
              have hs23 := own23.hs hpx
              replace hsP := hsP.later k23
              replace hvl := hvl.later k23
              replace hz := hz.later k23
              replace z3 := z3.later k23
              replace b := later b k23
              replace hd := hd.later k23
              clear own20 hsx ht23 own23 k kb
              refine goQ_since (lasts_below (Nat.le_refl _)) k23 ?_
              simp only [Act.put, List.setIfInBounds_toArray, List.set_cons_succ, List.set_cons_zero]
              clear k23
              refine plan_fl ?_
              simp only [pickOps, opAt, List.getElem?_cons_succ, List.getElem?_cons_zero, List.nil_append, List.cons_append]
              refine wpQuiet_nil ?_
              refine fl_call (args := #[hv R, .int .i64 n, .int .i64 k9, hv x, .slice a23 ((t + 1) + 1) c23]) (by rfl) rfl (by kernel_rfl) (by simp only [List.map_toArray, List.map_cons, List.map_nil]; rfl) (fun w' hC => C1.out _ _ (hs23.later (Kl.out hC))) ?_
              simp only [Act.put, List.setIfInBounds_toArray, List.set_cons_succ, List.set_cons_zero]
              refine plan_fl ?_
              simp only [pickOps, opAt, List.getElem?_cons_succ, List.getElem?_cons_zero, List.nil_append, List.cons_append]
              repeat (first | go_big_quiet_skip | (go_big_quiet_want; first | (refine plan_load_hash _ rfl rfl (by assumption) ?_; simp only [Act.put, List.setIfInBounds_toArray, List.set_cons_succ, List.set_cons_zero]; go_big_quiet_on) | ((refine quiet_tail _ rfl rfl (by omega) hqc ?_); simp only [Act.put, List.setIfInBounds_toArray, List.set_cons_succ, List.set_cons_zero]; go_big_quiet_on) | (go_big_quiet_op; go_big_quiet_on)))
              refine wpQuiet_nil ?_
              refine fl_call (args := #[hv R, .int .i64 n, .int .i64 k9, hv x, _]) (by rfl) rfl (by kernel_rfl) (by simp only [List.map_toArray, List.map_cons, List.map_nil]; rfl) (fun w' hC => C2.out _ _ (hd.later (Kl.out hC))) ?_
              simp only [Act.put, List.setIfInBounds_toArray, List.set_cons_succ, List.set_cons_zero]
              refine plan_fl ?_
              simp only [pickOps, opAt, List.getElem?_cons_succ, List.getElem?_cons_zero, List.nil_append, List.cons_append]
              repeat (first | go_big_quiet_skip | (go_big_quiet_want; first | (refine plan_load_hash _ rfl rfl (by assumption) ?_; simp only [Act.put, List.setIfInBounds_toArray, List.set_cons_succ, List.set_cons_zero]; go_big_quiet_on) | (go_big_quiet_op; go_big_quiet_on)))
              refine wpQuiet_nil ?_
              refine fl_call (args := #[hv R, .int .i64 n, .int .i64 (n + k9), hv x, .slice a4 (t + 1) c4]) (by rfl) rfl (by kernel_rfl) (by simp only [List.map_toArray, List.map_cons, List.map_nil]; rfl) (fun w' hC => C3.out _ _ (hsP.later (Kl.out hC))) ?_
              simp only [Act.put, List.setIfInBounds_toArray, List.set_cons_succ, List.set_cons_zero]
              refine plan_stop ?_
              simp only [pickOps, opAt, List.getElem?_cons_succ, List.getElem?_cons_zero, List.nil_append, List.cons_append]
              repeat (first | go_big_quiet_skip | (go_big_quiet_want; first | (refine plan_load_hash _ rfl rfl (by assumption) ?_; simp only [Act.put, List.setIfInBounds_toArray, List.set_cons_succ, List.set_cons_zero]; go_big_quiet_on) | (go_big_quiet_op; go_big_quiet_on)))
              refine wpQuiet_nil ?_
              intro w' _ k
              replace hvl := hvl.later k
              replace hz := hz.later k
              replace b := later b k
              clear k hsP hs23 z3 C0 C1 C3
              go_wp2_with fail
              go_roundw
              case rel => exact ⟨k9 + 1, by simp, by omega, hvl, hz, b⟩
              case measure => simp [RowKit.intOf]; omega
            · skip
              refine wpl_hashes rfl 1 _ rfl [x] rfl (by simp only [List.map_toArray, List.map_cons, List.map_nil]; rfl) (by intro h hh; simp at hh; subst hh; exact XL.out) (by decide) (by decide) ?_
              intro w22 hsx b22 lt22
              replace own := own.later b22
              have hne : w'.heap.size ≠ g18 := by have := kb.size; omega
              refine goQ_same (lasts_below (Nat.le_refl _)) (later k b22) ?_
              simp only [Act.put, List.setIfInBounds_toArray, List.set_cons_succ, List.set_cons_zero]
              clear k kb b22
              generalize w'.heap.size = g22 at *
              refine plan_one ?_
              simp only [pickOps, opAt, List.getElem?_cons_succ, List.getElem?_cons_zero, List.nil_append, List.cons_append]
              repeat (first | go_big_quiet_skip | (go_big_quiet_want; first | (refine plan_load_hash _ rfl rfl (by assumption) ?_; simp only [Act.put, List.setIfInBounds_toArray, List.set_cons_succ, List.set_cons_zero]; go_big_quiet_on) | (go_big_quiet_op; go_big_quiet_on)))
              refine wpQuiet_nil ?_
              intro w' kb k
              replace own := own.later kb
              replace hsx := hsx.later kb
              refine wpl_append_hs rfl _ _ rfl rfl own rfl (hsP.later k) (t + 1) (by rw [PL.out]; simp) (by omega) k.size ?_
              intro a20 c20 w20 own20 ht20 _
              rw [List.nil_append] at own20
              have k20 := k.trans (ht20.below k.size (fun x hx => (World.ownsRow.lt own x hx).1))
              replace hsx := hsx.touch2 ht20 (fun _ b hb hS => hne (Option.some.inj (hb.trans hS.symm)))
              refine goQ_same (lasts_below (Nat.le_refl _)) k20 ?_
              simp only [Act.put, List.setIfInBounds_toArray, List.set_cons_succ, List.set_cons_zero]
              clear k kb k20 ht20 own
              refine plan_one ?_
              simp only [pickOps, opAt, List.getElem?_cons_succ, List.getElem?_cons_zero, List.nil_append, List.cons_append]
              repeat (first | go_big_quiet_skip | (go_big_quiet_want; first | (refine plan_load_hash _ rfl rfl (by assumption) ?_; simp only [Act.put, List.setIfInBounds_toArray, List.set_cons_succ, List.set_cons_zero]; go_big_quiet_on) | (go_big_quiet_op; go_big_quiet_on)))
              refine wpQuiet_nil ?_
              intro w' kb k
              replace own20 := own20.later kb
              replace hsx := hsx.later kb
              refine wpl_append_hash rfl _ _ rfl rfl own20 rfl hsx (t + 1) PL.out.symm (by rw [← PL.out]; omega) k.size ?_
              intro a23 c23 w23 own23 ht23 _
              have k23 := k.trans (ht23.below k.size (fun x hx => (World.ownsRow.lt own20 x hx).1))
              have hs23 := own23.hs hpx
              replace hsP := hsP.later k23
              replace hvl := hvl.later k23
              replace hz := hz.later k23
              replace z3 := z3.later k23
              replace b := later b k23
              replace hd := hd.later k23
              clear own20 hsx ht23 own23 k kb
              refine goQ_since (lasts_below (Nat.le_refl _)) k23 ?_
              simp only [Act.put, List.setIfInBounds_toArray, List.set_cons_succ, List.set_cons_zero]
              clear k23
              refine plan_fl ?_
              simp only [pickOps, opAt, List.getElem?_cons_succ, List.getElem?_cons_zero, List.nil_append, List.cons_append]
              refine wpQuiet_nil ?_
              refine fl_call (args := #[hv R, .int .i64 n, .int .i64 k9, hv x, .slice a23 ((t + 1) + 1) c23]) (by rfl) rfl (by kernel_rfl) (by simp only [List.map_toArray, List.map_cons, List.map_nil]; rfl) (fun w' hC => C1.out _ _ (hs23.later (Kl.out hC))) ?_
              simp only [Act.put, List.setIfInBounds_toArray, List.set_cons_succ, List.set_cons_zero]
              refine plan_fl ?_
              simp only [pickOps, opAt, List.getElem?_cons_succ, List.getElem?_cons_zero, List.nil_append, List.cons_append]
              repeat (first | go_big_quiet_skip | (go_big_quiet_want; first | (refine plan_load_hash _ rfl rfl (by assumption) ?_; simp only [Act.put, List.setIfInBounds_toArray, List.set_cons_succ, List.set_cons_zero]; go_big_quiet_on) | ((refine quiet_tail _ rfl rfl (by omega) hqc ?_); simp only [Act.put, List.setIfInBounds_toArray, List.set_cons_succ, List.set_cons_zero]; go_big_quiet_on) | (go_big_quiet_op; go_big_quiet_on)))
              refine wpQuiet_nil ?_
              refine fl_call (args := #[hv R, .int .i64 n, .int .i64 k9, hv x, _]) (by rfl) rfl (by kernel_rfl) (by simp only [List.map_toArray, List.map_cons, List.map_nil]; rfl) (fun w' hC => C2.out _ _ (hd.later (Kl.out hC))) ?_
              simp only [Act.put, List.setIfInBounds_toArray, List.set_cons_succ, List.set_cons_zero]
              refine plan_fl ?_
              simp only [pickOps, opAt, List.getElem?_cons_succ, List.getElem?_cons_zero, List.nil_append, List.cons_append]
              repeat (first | go_big_quiet_skip | (go_big_quiet_want; first | (refine plan_load_hash _ rfl rfl (by assumption) ?_; simp only [Act.put, List.setIfInBounds_toArray, List.set_cons_succ, List.set_cons_zero]; go_big_quiet_on) | (go_big_quiet_op; go_big_quiet_on)))
              refine wpQuiet_nil ?_
              refine fl_call (args := #[hv R, .int .i64 n, .int .i64 (n + k9), hv x, .slice a4 (t + 1) c4]) (by rfl) rfl (by kernel_rfl) (by simp only [List.map_toArray, List.map_cons, List.map_nil]; rfl) (fun w' hC => C3.out _ _ (hsP.later (Kl.out hC))) ?_
              simp only [Act.put, List.setIfInBounds_toArray, List.set_cons_succ, List.set_cons_zero]
              refine plan_stop ?_
              simp only [pickOps, opAt, List.getElem?_cons_succ, List.getElem?_cons_zero, List.nil_append, List.cons_append]
              repeat (first | go_big_quiet_skip | (go_big_quiet_want; first | (refine plan_load_hash _ rfl rfl (by assumption) ?_; simp only [Act.put, List.setIfInBounds_toArray, List.set_cons_succ, List.set_cons_zero]; go_big_quiet_on) | (go_big_quiet_op; go_big_quiet_on)))
              refine wpQuiet_nil ?_
              intro w' _ k
              replace hvl := hvl.later k
              replace hz := hz.later k
              replace b := later b k
              clear k hsP hs23 z3 C0 C1 C3
              go_wp2_with fail
              go_roundw
              case rel => exact ⟨k9 + 1, by simp, by omega, hvl, hz, b⟩
              case measure => simp [RowKit.intOf]; omega
          · skip
            refine wpl_hashes rfl 1 _ rfl [x] rfl (by simp only [List.map_toArray, List.map_cons, List.map_nil]; rfl) (by intro h hh; simp at hh; subst hh; exact XL.out) (by decide) (by decide) ?_
            intro w22 hsx b22 lt22
            refine goQ_same (lasts_below (Nat.le_refl _)) (later k b22) ?_
            simp only [Act.put, List.setIfInBounds_toArray, List.set_cons_succ, List.set_cons_zero]
            clear k kb b22
            generalize w'.heap.size = g22 at *
            refine plan_one ?_
            simp only [pickOps, opAt, List.getElem?_cons_succ, List.getElem?_cons_zero, List.nil_append, List.cons_append]
            repeat (first | go_big_quiet_skip | (go_big_quiet_want; first | (refine plan_load_hash _ rfl rfl (by assumption) ?_; simp only [Act.put, List.setIfInBounds_toArray, List.set_cons_succ, List.set_cons_zero]; go_big_quiet_on) | (go_big_quiet_op; go_big_quiet_on)))
            refine wpQuiet_nil ?_
            intro w' kb k
            replace hsx := hsx.later kb
            refine wpl_hashes_none rfl rfl ?_
            intro w18 own b18 lt18
            replace own : OwnHs w18 w4.heap.size (.slice (some ⟨w'.heap.size, 0, none⟩) 0 0) [] := owns_base own k.size
            replace hsx := hsx.later b18
            have hne : g22 ≠ w'.heap.size := by have := kb.size; omega
            refine goQ_same (lasts_below (Nat.le_refl _)) (later k b18) ?_
            simp only [Act.put, List.setIfInBounds_toArray, List.set_cons_succ, List.set_cons_zero]
            clear k kb b18
            generalize w'.heap.size = g18 at *
            refine plan_one ?_
            simp only [pickOps, opAt, List.getElem?_cons_succ, List.getElem?_cons_zero, List.nil_append, List.cons_append]
            repeat (first | go_big_quiet_skip | (go_big_quiet_want; first | (refine plan_load_hash _ rfl rfl (by assumption) ?_; simp only [Act.put, List.setIfInBounds_toArray, List.set_cons_succ, List.set_cons_zero]; go_big_quiet_on) | (go_big_quiet_op; go_big_quiet_on)))
            refine wpQuiet_nil ?_
            intro w' kb k
            replace own := own.later kb
            replace hsx := hsx.later kb
            refine wpl_append_hs rfl _ _ rfl rfl own rfl (hsP.later k) (t + 1) (by rw [PL.out]; simp) (by omega) k.size ?_
            intro a20 c20 w20 own20 ht20 _
            rw [List.nil_append] at own20
            have k20 := k.trans (ht20.below k.size (fun x hx => (World.ownsRow.lt own x hx).1))
            replace hsx := hsx.touch2 ht20 (fun _ b hb hS => hne (Option.some.inj (hb.trans hS.symm)))
            refine goQ_same (lasts_below (Nat.le_refl _)) k20 ?_
            simp only [Act.put, List.setIfInBounds_toArray, List.set_cons_succ, List.set_cons_zero]
            clear k kb k20 ht20 own
            refine plan_one ?_
            simp only [pickOps, opAt, List.getElem?_cons_succ, List.getElem?_cons_zero, List.nil_append, List.cons_append]
            repeat (first | go_big_quiet_skip | (go_big_quiet_want; first | (refine plan_load_hash _ rfl rfl (by assumption) ?_; simp only [Act.put, List.setIfInBounds_toArray, List.set_cons_succ, List.set_cons_zero]; go_big_quiet_on) | (go_big_quiet_op; go_big_quiet_on)))
            refine wpQuiet_nil ?_
            intro w' kb k
            replace own20 := own20.later kb
            replace hsx := hsx.later kb
            refine wpl_append_hash rfl _ _ rfl rfl own20 rfl hsx (t + 1) PL.out.symm (by rw [← PL.out]; omega) k.size ?_
            intro a23 c23 w23 own23 ht23 _
            have k23 := k.trans (ht23.below k.size (fun x hx => (World.ownsRow.lt own20 x hx).1))
            have hs23 := own23.hs hpx
            replace hsP := hsP.later k23
            replace hvl := hvl.later k23
            replace hz := hz.later k23
            replace z3 := z3.later k23
            replace b := later b k23
            replace hd := hd.later k23
            clear own20 hsx ht23 own23 k kb
            refine goQ_since (lasts_below (Nat.le_refl _)) k23 ?_
            simp only [Act.put, List.setIfInBounds_toArray, List.set_cons_succ, List.set_cons_zero]
            clear k23
            refine plan_fl ?_
            simp only [pickOps, opAt, List.getElem?_cons_succ, List.getElem?_cons_zero, List.nil_append, List.cons_append]
            refine wpQuiet_nil ?_
            refine fl_call (args := #[hv R, .int .i64 n, .int .i64 k9, hv x, .slice a23 ((t + 1) + 1) c23]) (by rfl) rfl (by kernel_rfl) (by simp only [List.map_toArray, List.map_cons, List.map_nil]; rfl) (fun w' hC => C1.out _ _ (hs23.later (Kl.out hC))) ?_
            simp only [Act.put, List.setIfInBounds_toArray, List.set_cons_succ, List.set_cons_zero]
            refine plan_fl ?_
            simp only [pickOps, opAt, List.getElem?_cons_succ, List.getElem?_cons_zero, List.nil_append, List.cons_append]
            repeat (first | go_big_quiet_skip | (go_big_quiet_want; first | (refine plan_load_hash _ rfl rfl (by assumption) ?_; simp only [Act.put, List.setIfInBounds_toArray, List.set_cons_succ, List.set_cons_zero]; go_big_quiet_on) | ((refine quiet_tail _ rfl rfl (by omega) hqc ?_); simp only [Act.put, List.setIfInBounds_toArray, List.set_cons_succ, List.set_cons_zero]; go_big_quiet_on) | (go_big_quiet_op; go_big_quiet_on)))
            refine wpQuiet_nil ?_
            refine fl_call (args := #[hv R, .int .i64 n, .int .i64 k9, hv x, _]) (by rfl) rfl (by kernel_rfl) (by simp only [List.map_toArray, List.map_cons, List.map_nil]; rfl) (fun w' hC => C2.out _ _ (hd.later (Kl.out hC))) ?_
            simp only [Act.put, List.setIfInBounds_toArray, List.set_cons_succ, List.set_cons_zero]
            refine plan_fl ?_
            simp only [pickOps, opAt, List.getElem?_cons_succ, List.getElem?_cons_zero, List.nil_append, List.cons_append]
            repeat (first | go_big_quiet_skip | (go_big_quiet_want; first | (refine plan_load_hash _ rfl rfl (by assumption) ?_; simp only [Act.put, List.setIfInBounds_toArray, List.set_cons_succ, List.set_cons_zero]; go_big_quiet_on) | (go_big_quiet_op; go_big_quiet_on)))
            refine wpQuiet_nil ?_
            refine fl_call (args := #[hv R, .int .i64 n, .int .i64 (n + k9), hv x, .slice a4 (t + 1) c4]) (by rfl) rfl (by kernel_rfl) (by simp only [List.map_toArray, List.map_cons, List.map_nil]; rfl) (fun w' hC => C3.out _ _ (hsP.later (Kl.out hC))) ?_
            simp only [Act.put, List.setIfInBounds_toArray, List.set_cons_succ, List.set_cons_zero]
            refine plan_stop ?_
            simp only [pickOps, opAt, List.getElem?_cons_succ, List.getElem?_cons_zero, List.nil_append, List.cons_append]
            repeat (first | go_big_quiet_skip | (go_big_quiet_want; first | (refine plan_load_hash _ rfl rfl (by assumption) ?_; simp only [Act.put, List.setIfInBounds_toArray, List.set_cons_succ, List.set_cons_zero]; go_big_quiet_on) | (go_big_quiet_op; go_big_quiet_on)))
            refine wpQuiet_nil ?_
            intro w' _ k
            replace hvl := hvl.later k
            replace hz := hz.later k
            replace b := later b k
            clear k hsP hs23 z3 C0 C1 C3
            go_wp2_with fail
            go_roundw
            case rel => exact ⟨k9 + 1, by simp, by omega, hvl, hz, b⟩
            case measure => simp [RowKit.intOf]; omega
      · have hkn : k9 = n := by omega
        subst hkn
        clear D0 D1 D2 D3 HPR hvl hz
        go_wp2_with fail
        refine (works04 _).mono ?_
        rintro _ wc4 ⟨rfl, hc4⟩
        replace b := later b hc4
        clear hc4
        go_wp2_with fail
        go_ret
        exact ⟨rfl, b⟩
  · generalize l.length = n at *
    go_enter Try.func11, Try.ntmps11
    go_wp2_with fail
    refine (works04 _).mono ?_
    rintro _ wc5 ⟨rfl, hc5⟩
    replace b := later b hc5
    clear hc5
    go_wp2_with fail
    go_ret
    exact ⟨rfl, b⟩
end Go.Proofs.Ytikphhhkikdhaaa
