/- Package evolve: Next. -/
import Derived.Test.YtofjjpielkfloaaEvo5
namespace Go.Proofs.Ytofjjpielkfloaa
open Go.RowKit Go.Lib
set_option linter.unusedVariables false
set_option linter.unusedSimpArgs false

/-- The last of the first n rows at which the way goes left. -/
def lastL (d p : Nat) : Nat → Option Nat
  | 0 => none
  | n + 1 => if wayB d p n then lastL d p n else some n
theorem lastL_lt (d p : Nat) : ∀ n j, lastL d p n = some j → j < n
  | 0, j, h => by cases h
  | n + 1, j, h => by
    unfold lastL at h
    split at h
    · have := lastL_lt d p n j h; omega
    · simp only [Option.some.injEq] at h; omega
/-- The next key, and what is told of it. -/
def nextAt (d p j : Nat) (leaf : List UInt8) (right side : List (List UInt8)) : Evo :=
  ⟨d, (p : Int) + 1, (downE (d - (j + 1)) (right.getD j [])).2.2, (right.take j ++ [zero32]) ++ (downE (d - (j + 1)) (right.getD j [])).1,
    (side.take j ++ [upE d p (j + 1) (fun i => side.getD i []) (d - (j + 1)) (publicL leaf)]) ++ (downE (d - (j + 1)) (right.getD j [])).2.1⟩
def nextK (k : Evo) : Evo × Int := if mayE k then match lastL k.d.toNat k.p.toNat k.d.toNat with
    | none => (evo0, 4)
    | some j => (nextAt k.d.toNat k.p.toNat j k.leaf k.right k.side, 0) else (evo0, 2)
theorem wpl_bev2 {ops : Array Oper} {rest : List Oper} {o : Oper} {a : Act} {w : World} {Q : Exit → Act → World → Prop} (hw : Region.wanted o (yielded ops a.tmps) = true) (x y : Operand) (ho : o.op = .build 26 #[(0, x), (1, y)]) {d p : Int} (hx : a.eval x = .int .i64 d) (hy : a.eval y = .int .i64 p)
    (hk : wpList Try.prog ops Q rest (a.put o.dst (evV d p zero32 (.slice none 0 0) (.slice none 0 0))) w) : wpList Try.prog ops Q (o :: rest) a w := wpl_built2 hw 26 x y ho hx hy (evBuilt2 d p) hk
/-- What hands back a key of its own rows and a number. -/
def EvoRO (w : World) (k : Evo) (n : Int) (e : Ending) (w' : World) : Prop := ∃ v, e = .returned (.tuple #[v, .int .i64 n]) ∧ EvoOwn w' w.heap.size v k ∧ Below w.heap.size w w'
set_option maxRecDepth 100000 in
set_option maxHeartbeats 3200000 in
theorem evoNextO_any (k : Evo) (v : Value) (w : World) (hk : EvoIs w v k) :
    Calls Try.prog 18 #[v] w (EvoRO w (nextK k).1 (nextK k).2) := by
  have HM := hide (fun v w h => evoMay_any k v w h)
  by_cases hm : mayE k = true
  · obtain ⟨d, p, hd, hp, hd4, _, hp16, hrl, hsl, _⟩ := mayE_is hm
    obtain ⟨kd, kp, leaf, right, side⟩ := k
    simp only at hd hp hrl hsl
    subst hd
    subst hp
    have he : errE ⟨(d : Int), p, leaf, right, side⟩ = 0 := by unfold errE; rw [if_pos hm]
    have hnk : nextK ⟨(d : Int), p, leaf, right, side⟩ = match lastL d p d with | none => (evo0, 4) | some j => (nextAt d p j leaf right side, 0) := by
      unfold nextK; rw [if_pos hm]; simp only [Int.toNat_natCast]
    rw [he] at HM
    obtain ⟨PR, hPR⟩ : ∃ PR, PR = nextK ⟨(d : Int), p, leaf, right, side⟩ := ⟨_, rfl⟩
    rw [← hPR]
    have HPN := hide (show lastL d p d = none → PR = (evo0, 4) from fun h => by rw [hPR, hnk, h])
    have HPS := hide (show ∀ j, lastL d p d = some j → PR = (nextAt d p j leaf right side, 0) from fun j h => by rw [hPR, hnk, h])
    obtain ⟨rv, sv, rfl, h3, h4, hl⟩ := hk
    simp only at h3 h4 hl ⊢
    obtain ⟨ar, cr, rfl, hcr, _, _⟩ := h3.shape
    obtain ⟨as', cs', rfl, hcs, _, _⟩ := h4.shape
    rw [hrl] at h3 hcr ⊢
    rw [hsl] at h4 hcs ⊢
    have F3 := HsU.of h3 (Nat.le_refl _)
    have F4 := HsU.of h4 (Nat.le_refl _)
    have HSL := hide hsl
    have HRL := hide hrl
    have HL := hide hl
    have HPL := hide (publicL_length leaf)
    have HPK := hide (fun w => publicKey_any leaf hl w)
    have b := Below.refl w.heap.size w
    have LL : Hid (lastL d p d = lastL d p d) := rfl
    clear hm hl hrl hsl he h3 h4 hnk hPR
    unfold evV
    have mF1 := True.intro
    have mF2 := True.intro
    go_enter Try.func18, Try.ntmps18
    go_wp2_with (first | (with_reducible show wpList _ _ _ (⟨_, Op.load _ _, _, _, _, _⟩ :: _) _ _; first | (refine wpl_load_hash rfl _ rfl rfl (by assumption) ?_) | (refine wpl_load_one rfl 3 _ rfl rfl (EvoAt.cd (by assumption)) (by kernel_rfl) ?_) | (refine wpl_load_one rfl 3 _ rfl rfl (EvoAt.cp (by assumption)) (by kernel_rfl) ?_) | (refine wpl_load_one rfl 24 _ rfl rfl (EvoAt.cr (by assumption)) (by kernel_rfl) ?_) | (refine wpl_load_one rfl 24 _ rfl rfl (EvoAt.cs (by assumption)) (by kernel_rfl) ?_) | (refine wpl_load_leaf rfl _ rfl rfl (by assumption) ?_) | (refine wpl_load_evo rfl _ rfl rfl (by assumption) ?_)) | (with_reducible show wpList _ _ _ (⟨_, Op.box _ _, _, _, _, _⟩ :: _) _ _; clear mF1; refine wpl_box_evo rfl _ rfl rfl HL.out rfl rfl ?_; intro _ g1 hg1 F1 hb; (try have := F1.lt); (try have := F2.lt); (try have := F3.lt); (try have := F4.lt); (try have := F5.lt); (try have := F6.lt); (try have := F7.lt); (try have := F8.lt); (try have := F9.lt); (try have := z.lt); (try have := G1.lt); (try have := G2.lt); (try have := G3.lt); (try have := b.size); (try replace F1 := F1.later hb); (try replace F2 := F2.later hb); (try replace F3 := F3.later hb); (try replace F4 := F4.later hb); (try replace F5 := F5.later hb); (try replace F6 := F6.later hb); (try replace F7 := F7.later hb); (try replace F8 := F8.later hb); (try replace F9 := F9.later hb); (try replace G1 := G1.later hb); (try replace G2 := G2.later hb); (try replace G3 := G3.later hb); (try replace z := z.later hb); (try replace b := later b hb); (try replace bB := mixed hB bB hb); clear hb) | (with_reducible show wpList _ _ _ (⟨_, Op.alloc _, _, _, _, _⟩ :: _) _ _; clear mF2; refine wpl_mk_evo rfl rfl ?_; intro _ g2 hg2 F2 hb; (try have := F1.lt); (try have := F2.lt); (try have := F3.lt); (try have := F4.lt); (try have := F5.lt); (try have := F6.lt); (try have := F7.lt); (try have := F8.lt); (try have := F9.lt); (try have := z.lt); (try have := G1.lt); (try have := G2.lt); (try have := G3.lt); (try have := b.size); (try replace F1 := F1.later hb); (try replace F2 := F2.later hb); (try replace F3 := F3.later hb); (try replace F4 := F4.later hb); (try replace F5 := F5.later hb); (try replace F6 := F6.later hb); (try replace F7 := F7.later hb); (try replace F8 := F8.later hb); (try replace F9 := F9.later hb); (try replace G1 := G1.later hb); (try replace G2 := G2.later hb); (try replace G3 := G3.later hb); (try replace z := z.later hb); (try replace b := later b hb); (try replace bB := mixed hB bB hb); clear hb) | (go_at_call 27; refine (HM.out _ _ ⟨_, _, rfl, F3.1, F4.1, HL.out⟩).mono ?_; rintro _ _ ⟨rfl, hc⟩; (try replace F1 := F1.later hc); (try replace F2 := F2.later hc); (try replace F3 := F3.later hc); (try replace F4 := F4.later hc); (try replace F5 := F5.later hc); (try replace F6 := F6.later hc); (try replace F7 := F7.later hc); (try replace F8 := F8.later hc); (try replace F9 := F9.later hc); (try replace G1 := G1.later hc); (try replace G2 := G2.later hc); (try replace G3 := G3.later hc); (try replace z := z.later hc); (try replace b := later b hc); (try replace bB := mixed hB bB hc); clear hc))
    have hw1 : w.heap.size ≤ g1 := by omega
    have hw2 : w.heap.size ≤ g2 := by omega
    have h12 : g1 < g2 := by omega
    go_loopw [5] (fun i wr => ∃ (n : Nat) (x : Int), i = .int .i64 x ∧ Hid (x = (n : Int) - 1) ∧ n ≤ d ∧ Hid (lastL d p n = lastL d p d) ∧ EvoAt wr g1 d p leaf (.slice ar d cr) (.slice as' d cs') ∧ EvoAt wr g2 0 0 zero32 (.slice none 0 0) (.slice none 0 0) ∧
      HsU wr (.slice ar d cr) right w.heap.size ∧ HsU wr (.slice as' d cs') side w.heap.size ∧ Below w.heap.size w wr) (fun i _ => (RowKit.intOf i + 1).toNat)
    case atStart => exact ⟨d, _, rfl, rfl, Nat.le_refl _, rfl, F1, F2, F3, F4, b⟩
    case round =>
      clear F1 F2 F3 F4 b
      obtain ⟨n, x, rfl, X, hn, HN, F1, F2, F3, F4, b⟩ := hrel
      rcases n with _ | n
      · have hx0 : x < 0 := by have := X.out; omega
        have h0 : lastL d p d = none := by rw [← HN.out]; rfl
        have HPR := hide (HPN.out h0)
        clear X HN h0 HPN HPS
        go_wp2_with (first | (with_reducible show wpList _ _ _ (⟨_, Op.load _ _, _, _, _, _⟩ :: _) _ _; first | (refine wpl_load_hash rfl _ rfl rfl (by assumption) ?_) | (refine wpl_load_one rfl 3 _ rfl rfl (EvoAt.cd (by assumption)) (by kernel_rfl) ?_) | (refine wpl_load_one rfl 3 _ rfl rfl (EvoAt.cp (by assumption)) (by kernel_rfl) ?_) | (refine wpl_load_one rfl 24 _ rfl rfl (EvoAt.cr (by assumption)) (by kernel_rfl) ?_) | (refine wpl_load_one rfl 24 _ rfl rfl (EvoAt.cs (by assumption)) (by kernel_rfl) ?_) | (refine wpl_load_leaf rfl _ rfl rfl (by assumption) ?_) | (refine wpl_load_evo rfl _ rfl rfl (by assumption) ?_)) | (with_reducible show wpList _ _ _ (⟨_, Op.build _ _, _, _, _, _⟩ :: _) _ _; refine wpl_build rfl 26 _ rfl (evCs 0 0 zero32 (.slice none 0 0) (.slice none 0 0)).toArray (by simpa using evBuilt0) ?_) | (with_reducible show wpList _ _ _ (⟨_, Op.store _ _ _, _, _, _, _⟩ :: _) _ _; refine wpl_set_evo rfl _ _ rfl rfl rfl rfl rfl rfl F2 ?_; intro _ t1 ht; (try replace F1 := F1.tt ht); (try replace F2 := F2.tt ht); (try replace F3 := F3.tt ht); (try replace F4 := F4.tt ht); (try replace F5 := F5.tt ht); (try replace F6 := F6.tt ht); (try replace F7 := F7.tt ht); (try replace F8 := F8.tt ht); (try replace F9 := F9.tt ht); (try replace G1 := G1.tt ht); (try replace G2 := G2.tt ht); (try replace G3 := G3.tt ht); (try replace z := z.tt ht); (try replace b := below_touch b ht (by omega) (by omega)); (try replace bB := below_touch bB ht (by omega) hB); replace F2 := t1; clear ht))
        exact bodyPost_ret (ret_evo_tmp rfl _ _ _ rfl rfl F2) rfl (by rw [HPR.out]; exact ⟨_, rfl, ⟨_, _, rfl, own_nil _ _, own_nil _ _, rfl⟩, b⟩)
      · have hx0 : x = (n : Int) := by have := X.out; omega
        subst hx0
        have HRI := hide (fun w => right_any d p n hn hd4 hp16 w)
        clear X
        by_cases hw : wayB d p n = true
        · have HN' : Hid (lastL d p n = lastL d p d) := by have h := HN.out; rw [lastL, if_pos hw] at h; exact h
          rw [hw] at HRI
          clear HN hw
          go_wp2_with (first | (with_reducible show wpList _ _ _ (⟨_, Op.load _ _, _, _, _, _⟩ :: _) _ _; first | (refine wpl_load_hash rfl _ rfl rfl (by assumption) ?_) | (refine wpl_load_one rfl 3 _ rfl rfl (EvoAt.cd (by assumption)) (by kernel_rfl) ?_) | (refine wpl_load_one rfl 3 _ rfl rfl (EvoAt.cp (by assumption)) (by kernel_rfl) ?_) | (refine wpl_load_one rfl 24 _ rfl rfl (EvoAt.cr (by assumption)) (by kernel_rfl) ?_) | (refine wpl_load_one rfl 24 _ rfl rfl (EvoAt.cs (by assumption)) (by kernel_rfl) ?_) | (refine wpl_load_leaf rfl _ rfl rfl (by assumption) ?_) | (refine wpl_load_evo rfl _ rfl rfl (by assumption) ?_)) | (go_at_call 56; refine (HRI.out _).mono ?_; rintro _ _ ⟨rfl, hc⟩; (try replace F1 := F1.later hc); (try replace F2 := F2.later hc); (try replace F3 := F3.later hc); (try replace F4 := F4.later hc); (try replace F5 := F5.later hc); (try replace F6 := F6.later hc); (try replace F7 := F7.later hc); (try replace F8 := F8.later hc); (try replace F9 := F9.later hc); (try replace G1 := G1.later hc); (try replace G2 := G2.later hc); (try replace G3 := G3.later hc); (try replace z := z.later hc); (try replace b := later b hc); (try replace bB := mixed hB bB hc); clear hc))
          go_roundw
          case rel => exact ⟨n, _, rfl, rfl, by omega, HN', F1, F2, F3, F4, b⟩
          case measure => simp [RowKit.intOf]
        · have hw' : wayB d p n = false := by simpa using hw
          have h0 : lastL d p d = some n := by have h := HN.out; rw [lastL, if_neg hw] at h; exact h.symm
          rw [hw'] at HRI
          have HPR := hide (HPS.out n h0)
          clear HN h0 hw hw' HPN HPS
          have hs32 := side_len F3.1 (i := n) (by rw [HRL.out]; omega)
          have HUP : Hid (∀ w, EvoAt w g1 d p leaf (.slice ar d cr) (.slice as' d cs') → Hs w (.slice as' d cs') side → Calls Try.prog 57 #[hv (publicL leaf), .int .i64 d, .int .i64 p, .int .i64 ((n : Int) + 1), .func (.func 58) #[] #[.pointer (some ⟨g1, 0, none⟩)]] w fun e w' => e = .returned (hv (upE d p (n + 1) (fun i => side.getD i []) (d - (n + 1)) (publicL leaf))) ∧ Below w.heap.size w w') := fun w h1 h2 => by
            have := up_next (publicL leaf) d p (n + 1) (fun i => side.getD i []) (.pointer (some ⟨g1, 0, none⟩)) w (publicL_length _) hd4 hp16 hn (fun i _ hi => side_len h2 (by rw [HSL.out]; exact hi)) (fun i w' _ hi hb => nextSide_any g1 i d p leaf _ _ side w' (h1.later hb) (h2.later hb) (by rw [HSL.out]; exact hi))
            exact this
          have HUL := hide (upE_length d p (n + 1) (fun i => side.getD i []) (d - (n + 1)) (publicL leaf) HPL.out)
          obtain ⟨b0, k0, cap0, hv0, _, _, _, hcs0⟩ := F3.1.block (by rw [HRL.out]; omega)
          simp only [Value.slice.injEq] at hv0
          obtain ⟨rfl, -, rfl⟩ := hv0
          have F5 := Cells.st (hcs0 n (by rw [HRL.out]; omega))
          have HSD := hide hs32
          have F6 : HsU wr (.slice (some ⟨b0, k0, none⟩) n n) (right.take n) w.heap.size := ⟨Hs.cut F3.1 n (by omega), fun h0 bb hb => F3.2 (by rw [HRL.out]; omega) bb (by simpa [Value.ownBlock] using hb)⟩
          have F7 : HsU wr (.slice as' n n) (side.take n) w.heap.size := ⟨Hs.cut F4.1 n (by omega), fun h0 bb hb => F4.2 (by rw [HSL.out]; omega) bb (by
            obtain ⟨b1, k1, c1, hv1, _⟩ := F4.1.block (by rw [HSL.out]; omega)
            simp only [Value.slice.injEq] at hv1
            obtain ⟨rfl, -, rfl⟩ := hv1
            simpa [Value.ownBlock] using hb)⟩
          have HNX : Hid (nextAt d p n leaf right side = ⟨d, (p : Int) + 1, (downE (d - (n + 1)) (right.getD n [])).2.2, (right.take n ++ [zero32]) ++ (downE (d - (n + 1)) (right.getD n [])).1,
            (side.take n ++ [upE d p (n + 1) (fun i => side.getD i []) (d - (n + 1)) (publicL leaf)]) ++ (downE (d - (n + 1)) (right.getD n [])).2.1⟩) := rfl
          have HLR : Hid ((right.take n).length = n) := by unfold Hid; rw [List.length_take, HRL.out]; omega
          have HLS : Hid ((side.take n).length = n) := by unfold Hid; rw [List.length_take, HSL.out]; omega
          clear hs32 hcs0
          generalize nextAt d p n leaf right side = NX at *
          generalize upE d p (n + 1) (fun i => side.getD i []) (d - (n + 1)) (publicL leaf) = U at *
          generalize right.getD n [] = s at *
          generalize right.take n = RT at *
          generalize side.take n = ST at *
          generalize publicL leaf = PL at *
          go_wp2_with (first | (with_reducible show wpList _ _ _ (⟨_, Op.load _ _, _, _, _, _⟩ :: _) _ _; first | (refine wpl_load_hash rfl _ rfl rfl (by assumption) ?_) | (refine wpl_load_one rfl 3 _ rfl rfl (EvoAt.cd (by assumption)) (by kernel_rfl) ?_) | (refine wpl_load_one rfl 3 _ rfl rfl (EvoAt.cp (by assumption)) (by kernel_rfl) ?_) | (refine wpl_load_one rfl 24 _ rfl rfl (EvoAt.cr (by assumption)) (by kernel_rfl) ?_) | (refine wpl_load_one rfl 24 _ rfl rfl (EvoAt.cs (by assumption)) (by kernel_rfl) ?_) | (refine wpl_load_leaf rfl _ rfl rfl (by assumption) ?_) | (refine wpl_load_evo rfl _ rfl rfl (by assumption) ?_)) | (go_at_call 56; refine (HRI.out _).mono ?_; rintro _ _ ⟨rfl, hc⟩; (try replace F1 := F1.later hc); (try replace F2 := F2.later hc); (try replace F3 := F3.later hc); (try replace F4 := F4.later hc); (try replace F5 := F5.later hc); (try replace F6 := F6.later hc); (try replace F7 := F7.later hc); (try replace F8 := F8.later hc); (try replace F9 := F9.later hc); (try replace G1 := G1.later hc); (try replace G2 := G2.later hc); (try replace G3 := G3.later hc); (try replace z := z.later hc); (try replace b := later b hc); (try replace bB := mixed hB bB hc); clear hc) | (with_reducible show Code.wp _ (Code.region _ _ true) _ _ _; (try simp only [Act.put, List.setIfInBounds_toArray, List.set_cons_succ, List.set_cons_zero]); fail))
          refine region_plan (fun x => Below (World.heap _).size _ x) (.fl [0, 1, 3, 4, 5, 6, 7, 8, 9] 2 (.fl [] 10 (.one [] 11 (.bar [] 12 (.stop []))))) (by kernel_rfl) (by kernel_rfl) (by kernel_rfl) (by decide) (lasts_below (Nat.le_refl _)) (Below.refl _ _) ?_
          intro wpl0 _ _ _
          refine plan_fl ?_
          simp only [pickOps, opAt, List.getElem?_cons_succ, List.getElem?_cons_zero, List.nil_append, List.cons_append]
          (repeat (first | go_big_quiet_skip | (go_big_quiet_want; first | (refine plan_load_hash _ rfl rfl (by assumption) ?_; simp only [Act.put, List.setIfInBounds_toArray, List.set_cons_succ, List.set_cons_zero]; go_big_quiet_on) | (refine plan_load_one 3 _ rfl rfl (EvoAt.cd (by assumption)) (by kernel_rfl) ?_; simp only [Act.put, List.setIfInBounds_toArray, List.set_cons_succ, List.set_cons_zero]; go_big_quiet_on) | (refine plan_load_one 3 _ rfl rfl (EvoAt.cp (by assumption)) (by kernel_rfl) ?_; simp only [Act.put, List.setIfInBounds_toArray, List.set_cons_succ, List.set_cons_zero]; go_big_quiet_on) | (refine plan_load_one 24 _ rfl rfl (EvoAt.cr (by assumption)) (by kernel_rfl) ?_; simp only [Act.put, List.setIfInBounds_toArray, List.set_cons_succ, List.set_cons_zero]; go_big_quiet_on) | (refine plan_load_one 24 _ rfl rfl (EvoAt.cs (by assumption)) (by kernel_rfl) ?_; simp only [Act.put, List.setIfInBounds_toArray, List.set_cons_succ, List.set_cons_zero]; go_big_quiet_on) | (refine plan_load_leaf _ rfl rfl (by assumption) ?_; simp only [Act.put, List.setIfInBounds_toArray, List.set_cons_succ, List.set_cons_zero]; go_big_quiet_on) | (go_big_quiet_op; go_big_quiet_on))))
          refine wpQuiet_nil ?_
          refine fl_call (by rfl) rfl (by kernel_rfl) (by simp only [List.map_toArray, List.map_cons, List.map_nil]; rfl) (fun w' hC => HPK.out w') ?_
          simp only [Act.put, List.setIfInBounds_toArray, List.set_cons_succ, List.set_cons_zero]
          refine plan_fl ?_
          simp only [pickOps, opAt, List.getElem?_cons_succ, List.getElem?_cons_zero, List.nil_append, List.cons_append]
          (repeat (first | go_big_quiet_skip | (go_big_quiet_want; first | (refine plan_load_hash _ rfl rfl (by assumption) ?_; simp only [Act.put, List.setIfInBounds_toArray, List.set_cons_succ, List.set_cons_zero]; go_big_quiet_on) | (refine plan_load_one 3 _ rfl rfl (EvoAt.cd (by assumption)) (by kernel_rfl) ?_; simp only [Act.put, List.setIfInBounds_toArray, List.set_cons_succ, List.set_cons_zero]; go_big_quiet_on) | (refine plan_load_one 3 _ rfl rfl (EvoAt.cp (by assumption)) (by kernel_rfl) ?_; simp only [Act.put, List.setIfInBounds_toArray, List.set_cons_succ, List.set_cons_zero]; go_big_quiet_on) | (refine plan_load_one 24 _ rfl rfl (EvoAt.cr (by assumption)) (by kernel_rfl) ?_; simp only [Act.put, List.setIfInBounds_toArray, List.set_cons_succ, List.set_cons_zero]; go_big_quiet_on) | (refine plan_load_one 24 _ rfl rfl (EvoAt.cs (by assumption)) (by kernel_rfl) ?_; simp only [Act.put, List.setIfInBounds_toArray, List.set_cons_succ, List.set_cons_zero]; go_big_quiet_on) | (refine plan_load_leaf _ rfl rfl (by assumption) ?_; simp only [Act.put, List.setIfInBounds_toArray, List.set_cons_succ, List.set_cons_zero]; go_big_quiet_on) | (go_big_quiet_op; go_big_quiet_on))))
          refine wpQuiet_nil ?_
          refine fl_call (by rfl) rfl (by kernel_rfl) (by simp only [List.map_toArray, List.map_cons, List.map_nil]; rfl) (fun w' hC => HUP.out w' (F1.later (Kl.out hC)) (F4.later (Kl.out hC)).1) ?_
          simp only [Act.put, List.setIfInBounds_toArray, List.set_cons_succ, List.set_cons_zero]
          refine plan_one ?_
          simp only [pickOps, opAt, List.getElem?_cons_succ, List.getElem?_cons_zero, List.nil_append, List.cons_append]
          (repeat (first | go_big_quiet_skip | (go_big_quiet_want; first | (refine plan_load_hash _ rfl rfl (by assumption) ?_; simp only [Act.put, List.setIfInBounds_toArray, List.set_cons_succ, List.set_cons_zero]; go_big_quiet_on) | (refine plan_load_one 3 _ rfl rfl (EvoAt.cd (by assumption)) (by kernel_rfl) ?_; simp only [Act.put, List.setIfInBounds_toArray, List.set_cons_succ, List.set_cons_zero]; go_big_quiet_on) | (refine plan_load_one 3 _ rfl rfl (EvoAt.cp (by assumption)) (by kernel_rfl) ?_; simp only [Act.put, List.setIfInBounds_toArray, List.set_cons_succ, List.set_cons_zero]; go_big_quiet_on) | (refine plan_load_one 24 _ rfl rfl (EvoAt.cr (by assumption)) (by kernel_rfl) ?_; simp only [Act.put, List.setIfInBounds_toArray, List.set_cons_succ, List.set_cons_zero]; go_big_quiet_on) | (refine plan_load_one 24 _ rfl rfl (EvoAt.cs (by assumption)) (by kernel_rfl) ?_; simp only [Act.put, List.setIfInBounds_toArray, List.set_cons_succ, List.set_cons_zero]; go_big_quiet_on) | (refine plan_load_leaf _ rfl rfl (by assumption) ?_; simp only [Act.put, List.setIfInBounds_toArray, List.set_cons_succ, List.set_cons_zero]; go_big_quiet_on) | (go_big_quiet_op; go_big_quiet_on))))
          refine wpQuiet_nil ?_
          intro _ _ k
          have := Below.size k
          (try have := b.size)
          refine wpl_mk_hash rfl rfl ?_
          intro _ g6 hg6 F8 hb
          replace k := later k hb
          clear hb
          (try have := F1.lt); (try have := F2.lt); (try have := F3.lt); (try have := F4.lt); (try have := F5.lt); (try have := F6.lt); (try have := F7.lt); (try have := F8.lt); (try have := F9.lt); (try have := z.lt); (try have := G1.lt); (try have := G2.lt); (try have := G3.lt)
          (try replace F1 := F1.later k); (try replace F2 := F2.later k); (try replace F3 := F3.later k); (try replace F4 := F4.later k); (try replace F5 := F5.later k); (try replace F6 := F6.later k); (try replace F7 := F7.later k); (try replace F8 := F8.later k); (try replace F9 := F9.later k); (try replace G1 := G1.later k); (try replace G2 := G2.later k); (try replace G3 := G3.later k); (try replace z := z.later k); (try replace b := later b k); (try replace bB := mixed hB bB k)
          refine goQ_since (lasts_below (Nat.le_refl _)) k ?_
          clear k
          simp only [Act.put, List.setIfInBounds_toArray, List.set_cons_succ, List.set_cons_zero]
          refine plan_bar ?_
          simp only [pickOps, opAt, List.getElem?_cons_succ, List.getElem?_cons_zero, List.nil_append, List.cons_append]
          (repeat (first | go_big_quiet_skip | (go_big_quiet_want; first | (refine plan_load_hash _ rfl rfl (by assumption) ?_; simp only [Act.put, List.setIfInBounds_toArray, List.set_cons_succ, List.set_cons_zero]; go_big_quiet_on) | (refine plan_load_one 3 _ rfl rfl (EvoAt.cd (by assumption)) (by kernel_rfl) ?_; simp only [Act.put, List.setIfInBounds_toArray, List.set_cons_succ, List.set_cons_zero]; go_big_quiet_on) | (refine plan_load_one 3 _ rfl rfl (EvoAt.cp (by assumption)) (by kernel_rfl) ?_; simp only [Act.put, List.setIfInBounds_toArray, List.set_cons_succ, List.set_cons_zero]; go_big_quiet_on) | (refine plan_load_one 24 _ rfl rfl (EvoAt.cr (by assumption)) (by kernel_rfl) ?_; simp only [Act.put, List.setIfInBounds_toArray, List.set_cons_succ, List.set_cons_zero]; go_big_quiet_on) | (refine plan_load_one 24 _ rfl rfl (EvoAt.cs (by assumption)) (by kernel_rfl) ?_; simp only [Act.put, List.setIfInBounds_toArray, List.set_cons_succ, List.set_cons_zero]; go_big_quiet_on) | (refine plan_load_leaf _ rfl rfl (by assumption) ?_; simp only [Act.put, List.setIfInBounds_toArray, List.set_cons_succ, List.set_cons_zero]; go_big_quiet_on) | (go_big_quiet_op; go_big_quiet_on))))
          refine wpQuiet_nil ?_
          intro _ _ k
          (try replace F1 := F1.later k); (try replace F2 := F2.later k); (try replace F3 := F3.later k); (try replace F4 := F4.later k); (try replace F5 := F5.later k); (try replace F6 := F6.later k); (try replace F7 := F7.later k); (try replace F8 := F8.later k); (try replace F9 := F9.later k); (try replace G1 := G1.later k); (try replace G2 := G2.later k); (try replace G3 := G3.later k); (try replace z := z.later k); (try replace b := later b k); (try replace bB := mixed hB bB k)
          clear k
          go_wp2_with (with_reducible show wpList _ _ _ (⟨_, Op.store _ _ _, _, _, _, _⟩ :: _) _ _; refine wpl_set_hash rfl _ _ rfl rfl rfl HUL.out F8 ?_; intro _ t1 ht; (try replace F1 := F1.tt ht); (try replace F2 := F2.tt ht); (try replace F3 := F3.tt ht); (try replace F4 := F4.tt ht); (try replace F5 := F5.tt ht); (try replace F6 := F6.tt ht); (try replace F7 := F7.tt ht); (try replace F8 := F8.tt ht); (try replace F9 := F9.tt ht); (try replace G1 := G1.tt ht); (try replace G2 := G2.tt ht); (try replace G3 := G3.tt ht); (try replace z := z.tt ht); (try replace b := below_touch b ht (by omega) (by omega)); (try replace bB := below_touch bB ht (by omega) hB); replace F8 := t1; clear ht)
          refine goB_since ?_
          (try simp only [Act.put, List.setIfInBounds_toArray, List.set_cons_succ, List.set_cons_zero])
          refine plan_stop ?_
          simp only [pickOps, opAt, List.getElem?_cons_succ, List.getElem?_cons_zero, List.nil_append, List.cons_append]
          (repeat (first | go_big_quiet_skip | (go_big_quiet_want; first | (refine plan_load_hash _ rfl rfl (by assumption) ?_; simp only [Act.put, List.setIfInBounds_toArray, List.set_cons_succ, List.set_cons_zero]; go_big_quiet_on) | (refine plan_load_one 3 _ rfl rfl (EvoAt.cd (by assumption)) (by kernel_rfl) ?_; simp only [Act.put, List.setIfInBounds_toArray, List.set_cons_succ, List.set_cons_zero]; go_big_quiet_on) | (refine plan_load_one 3 _ rfl rfl (EvoAt.cp (by assumption)) (by kernel_rfl) ?_; simp only [Act.put, List.setIfInBounds_toArray, List.set_cons_succ, List.set_cons_zero]; go_big_quiet_on) | (refine plan_load_one 24 _ rfl rfl (EvoAt.cr (by assumption)) (by kernel_rfl) ?_; simp only [Act.put, List.setIfInBounds_toArray, List.set_cons_succ, List.set_cons_zero]; go_big_quiet_on) | (refine plan_load_one 24 _ rfl rfl (EvoAt.cs (by assumption)) (by kernel_rfl) ?_; simp only [Act.put, List.setIfInBounds_toArray, List.set_cons_succ, List.set_cons_zero]; go_big_quiet_on) | (refine plan_load_leaf _ rfl rfl (by assumption) ?_; simp only [Act.put, List.setIfInBounds_toArray, List.set_cons_succ, List.set_cons_zero]; go_big_quiet_on) | (go_big_quiet_op; go_big_quiet_on))))
          refine wpQuiet_nil ?_
          intro _ _ k
          (try replace F1 := F1.later k); (try replace F2 := F2.later k); (try replace F3 := F3.later k); (try replace F4 := F4.later k); (try replace F5 := F5.later k); (try replace F6 := F6.later k); (try replace F7 := F7.later k); (try replace F8 := F8.later k); (try replace F9 := F9.later k); (try replace G1 := G1.later k); (try replace G2 := G2.later k); (try replace G3 := G3.later k); (try replace z := z.later k); (try replace b := later b k); (try replace bB := mixed hB bB k)
          clear k
          have hw6 : w.heap.size ≤ g6 := by have := b.size; omega
          have mF9 := True.intro
          have mz := True.intro
          have hncr : n ≤ cr := by omega
          have hncs : n ≤ cs' := by omega
          go_wp2_with (first | (with_reducible show wpList _ _ _ (⟨_, Op.load _ _, _, _, _, _⟩ :: _) _ _; refine wpl_load_elem rfl _ rfl rfl F5.now HSD.out ?_) | (with_reducible show wpList _ _ _ (⟨_, Op.load _ _, _, _, _, _⟩ :: _) _ _; first | (refine wpl_load_hash rfl _ rfl rfl (by assumption) ?_) | (refine wpl_load_one rfl 3 _ rfl rfl (EvoAt.cd (by assumption)) (by kernel_rfl) ?_) | (refine wpl_load_one rfl 3 _ rfl rfl (EvoAt.cp (by assumption)) (by kernel_rfl) ?_) | (refine wpl_load_one rfl 24 _ rfl rfl (EvoAt.cr (by assumption)) (by kernel_rfl) ?_) | (refine wpl_load_one rfl 24 _ rfl rfl (EvoAt.cs (by assumption)) (by kernel_rfl) ?_) | (refine wpl_load_leaf rfl _ rfl rfl (by assumption) ?_) | (refine wpl_load_evo rfl _ rfl rfl (by assumption) ?_)) | (with_reducible show wpList _ _ _ (⟨_, Op.alloc _, _, _, _, _⟩ :: _) _ _; clear mF9; refine wpl_mk_hash rfl rfl ?_; intro _ g7 hg7 F9 hb; (try have := F1.lt); (try have := F2.lt); (try have := F3.lt); (try have := F4.lt); (try have := F5.lt); (try have := F6.lt); (try have := F7.lt); (try have := F8.lt); (try have := F9.lt); (try have := z.lt); (try have := G1.lt); (try have := G2.lt); (try have := G3.lt); (try have := b.size); (try replace F1 := F1.later hb); (try replace F2 := F2.later hb); (try replace F3 := F3.later hb); (try replace F4 := F4.later hb); (try replace F5 := F5.later hb); (try replace F6 := F6.later hb); (try replace F7 := F7.later hb); (try replace F8 := F8.later hb); (try replace F9 := F9.later hb); (try replace G1 := G1.later hb); (try replace G2 := G2.later hb); (try replace G3 := G3.later hb); (try replace z := z.later hb); (try replace b := later b hb); (try replace bB := mixed hB bB hb); clear hb) | (with_reducible show wpList _ _ _ (⟨_, Op.store _ _ _, _, _, _, _⟩ :: _) _ _; refine wpl_set_hash rfl _ _ rfl rfl rfl HSD.out F9 ?_; intro _ t1 ht; (try replace F1 := F1.tt ht); (try replace F2 := F2.tt ht); (try replace F3 := F3.tt ht); (try replace F4 := F4.tt ht); (try replace F5 := F5.tt ht); (try replace F6 := F6.tt ht); (try replace F7 := F7.tt ht); (try replace F8 := F8.tt ht); (try replace F9 := F9.tt ht); (try replace G1 := G1.tt ht); (try replace G2 := G2.tt ht); (try replace G3 := G3.tt ht); (try replace z := z.tt ht); (try replace b := below_touch b ht (by omega) (by omega)); (try replace bB := below_touch bB ht (by omega) hB); replace F9 := t1; clear ht) | (with_reducible show wpList _ _ _ (⟨_, Op.build _ _, _, _, _, _⟩ :: _) _ _; refine wpl_bev2 rfl _ _ rfl rfl rfl ?_) | (with_reducible show wpList _ _ _ (⟨_, Op.alloc _, _, _, _, _⟩ :: _) _ _; clear mz; refine wpl_mk_evo rfl rfl ?_; intro _ g8 hg8 z hb; (try have := F1.lt); (try have := F2.lt); (try have := F3.lt); (try have := F4.lt); (try have := F5.lt); (try have := F6.lt); (try have := F7.lt); (try have := F8.lt); (try have := F9.lt); (try have := z.lt); (try have := G1.lt); (try have := G2.lt); (try have := G3.lt); (try have := b.size); (try replace F1 := F1.later hb); (try replace F2 := F2.later hb); (try replace F3 := F3.later hb); (try replace F4 := F4.later hb); (try replace F5 := F5.later hb); (try replace F6 := F6.later hb); (try replace F7 := F7.later hb); (try replace F8 := F8.later hb); (try replace F9 := F9.later hb); (try replace G1 := G1.later hb); (try replace G2 := G2.later hb); (try replace G3 := G3.later hb); (try replace z := z.later hb); (try replace b := later b hb); (try replace bB := mixed hB bB hb); clear hb) | (with_reducible show wpList _ _ _ (⟨_, Op.store _ _ _, _, _, _, _⟩ :: _) _ _; refine wpl_set_evo rfl _ _ rfl rfl rfl rfl rfl rfl z ?_; intro _ t1 ht; (try replace F1 := F1.tt ht); (try replace F2 := F2.tt ht); (try replace F3 := F3.tt ht); (try replace F4 := F4.tt ht); (try replace F5 := F5.tt ht); (try replace F6 := F6.tt ht); (try replace F7 := F7.tt ht); (try replace F8 := F8.tt ht); (try replace F9 := F9.tt ht); (try replace G1 := G1.tt ht); (try replace G2 := G2.tt ht); (try replace G3 := G3.tt ht); (try replace z := z.tt ht); (try replace b := below_touch b ht (by omega) (by omega)); (try replace bB := below_touch bB ht (by omega) hB); replace z := t1; clear ht) | (with_reducible show wpList _ _ _ (⟨_, Op.build _ _, _, _, _, _⟩ :: _) _ _; refine wpl_zero_hash rfl rfl ?_) | (with_reducible show wpList _ _ _ (⟨_, Op.buildSlice _ _ _, _, _, _, _⟩ :: _) _ _; refine wpl_hash1 rfl _ rfl rfl rfl ?_; intro _ gs _ hs2 hb; (try have := F1.lt); (try have := F2.lt); (try have := F3.lt); (try have := F4.lt); (try have := F5.lt); (try have := F6.lt); (try have := F7.lt); (try have := F8.lt); (try have := F9.lt); (try have := z.lt); (try have := G1.lt); (try have := G2.lt); (try have := G3.lt); (try replace F1 := F1.later hb); (try replace F2 := F2.later hb); (try replace F3 := F3.later hb); (try replace F4 := F4.later hb); (try replace F5 := F5.later hb); (try replace F6 := F6.later hb); (try replace F7 := F7.later hb); (try replace F8 := F8.later hb); (try replace F9 := F9.later hb); (try replace G1 := G1.later hb); (try replace G2 := G2.later hb); (try replace G3 := G3.later hb); (try replace z := z.later hb); (try replace b := later b hb); (try replace bB := mixed hB bB hb); clear hb) | (with_reducible show wpList _ _ _ (⟨_, Op.call _, _, _, _, _⟩ :: _) _ _; generalize hstop : wpList _ _ _ _ _ _ = Gstop))
          rw [← hstop]; clear hstop
          have qz := z.lt
          have q1 := F1.lt
          have q2 := F2.lt
          refine wpl_append_full rfl _ _ rfl rfl F6.1 rfl hs2 (by omega) ?_
          intro ar2 cr2 wA O1 hb
          have qb1 := b.size
          have hx1 : ∃ B1, OwnU wA B1 (.slice ar2 (n + 1) cr2) (RT ++ [zero32]) [] ∧ g8 < B1 ∧ g1 < B1 ∧ g2 < B1 ∧ B1 ≤ wA.heap.size ∧ w.heap.size ≤ B1 := ⟨_, O1, qz, q1, q2, hb.size, qb1⟩
          (try replace F1 := F1.later hb); (try replace F2 := F2.later hb); (try replace F3 := F3.later hb); (try replace F4 := F4.later hb); (try replace F5 := F5.later hb); (try replace F6 := F6.later hb); (try replace F7 := F7.later hb); (try replace F8 := F8.later hb); (try replace F9 := F9.later hb); (try replace G1 := G1.later hb); (try replace G2 := G2.later hb); (try replace G3 := G3.later hb); (try replace z := z.later hb); (try replace b := later b hb); (try replace bB := mixed hB bB hb)
          clear O1 hb
          obtain ⟨B1, O1, k8, k1, k2, kA, kw⟩ := hx1
          replace F6 := O1.low (g := g8) k8
          have G1 : Geq wA B1 := kA
          clear O1
          go_wp2_with (first | (with_reducible show wpList _ _ _ (⟨_, Op.load _ _, _, _, _, _⟩ :: _) _ _; first | (refine wpl_load_hash rfl _ rfl rfl (by assumption) ?_) | (refine wpl_load_one rfl 3 _ rfl rfl (EvoAt.cd (by assumption)) (by kernel_rfl) ?_) | (refine wpl_load_one rfl 3 _ rfl rfl (EvoAt.cp (by assumption)) (by kernel_rfl) ?_) | (refine wpl_load_one rfl 24 _ rfl rfl (EvoAt.cr (by assumption)) (by kernel_rfl) ?_) | (refine wpl_load_one rfl 24 _ rfl rfl (EvoAt.cs (by assumption)) (by kernel_rfl) ?_) | (refine wpl_load_leaf rfl _ rfl rfl (by assumption) ?_) | (refine wpl_load_evo rfl _ rfl rfl (by assumption) ?_)) | (with_reducible show wpList _ _ _ (⟨_, Op.store _ _ _, _, _, _, _⟩ :: _) _ _; refine wpl_set_right rfl _ _ rfl rfl rfl z ?_; intro _ t1 ht; (try replace F1 := F1.tt ht); (try replace F2 := F2.tt ht); (try replace F3 := F3.tt ht); (try replace F4 := F4.tt ht); (try replace F5 := F5.tt ht); (try replace F6 := F6.tt ht); (try replace F7 := F7.tt ht); (try replace F8 := F8.tt ht); (try replace F9 := F9.tt ht); (try replace G1 := G1.tt ht); (try replace G2 := G2.tt ht); (try replace G3 := G3.tt ht); (try replace z := z.tt ht); (try replace b := below_touch b ht (by omega) (by omega)); (try replace bB := below_touch bB ht (by omega) hB); replace z := t1; clear ht) | (with_reducible show Code.wp _ (Code.region _ _ true) _ _ _; (try simp only [Act.put, List.setIfInBounds_toArray, List.set_cons_succ, List.set_cons_zero]); fail))
          (try simp only [Act.put, List.setIfInBounds_toArray, List.set_cons_succ, List.set_cons_zero])
          refine region_plan (fun x => Below (World.heap _).size _ x) (.one [0, 1, 2, 3, 4, 5] 6 (.bar [] 7 (.bar [8] 9 (.stop [])))) (by kernel_rfl) (by kernel_rfl) (by kernel_rfl) (by decide) (lasts_below (Nat.le_refl _)) (Below.refl _ _) ?_
          intro wpl0 _ _ _
          refine plan_one ?_
          simp only [pickOps, opAt, List.getElem?_cons_succ, List.getElem?_cons_zero, List.nil_append, List.cons_append]
          (repeat (first | go_big_quiet_skip | (go_big_quiet_want; first | (refine plan_load_hash _ rfl rfl (by assumption) ?_; simp only [Act.put, List.setIfInBounds_toArray, List.set_cons_succ, List.set_cons_zero]; go_big_quiet_on) | (refine plan_load_one 3 _ rfl rfl (EvoAt.cd (by assumption)) (by kernel_rfl) ?_; simp only [Act.put, List.setIfInBounds_toArray, List.set_cons_succ, List.set_cons_zero]; go_big_quiet_on) | (refine plan_load_one 3 _ rfl rfl (EvoAt.cp (by assumption)) (by kernel_rfl) ?_; simp only [Act.put, List.setIfInBounds_toArray, List.set_cons_succ, List.set_cons_zero]; go_big_quiet_on) | (refine plan_load_one 24 _ rfl rfl (EvoAt.cr (by assumption)) (by kernel_rfl) ?_; simp only [Act.put, List.setIfInBounds_toArray, List.set_cons_succ, List.set_cons_zero]; go_big_quiet_on) | (refine plan_load_one 24 _ rfl rfl (EvoAt.cs (by assumption)) (by kernel_rfl) ?_; simp only [Act.put, List.setIfInBounds_toArray, List.set_cons_succ, List.set_cons_zero]; go_big_quiet_on) | (refine plan_load_leaf _ rfl rfl (by assumption) ?_; simp only [Act.put, List.setIfInBounds_toArray, List.set_cons_succ, List.set_cons_zero]; go_big_quiet_on) | (go_big_quiet_op; go_big_quiet_on))))
          refine wpQuiet_nil ?_
          intro _ _ k
          refine wpl_hash1 rfl _ rfl rfl HUL.out ?_
          intro _ gs _ hs3 hb
          replace k := later k hb
          clear hb
          (try replace F1 := F1.later k); (try replace F2 := F2.later k); (try replace F3 := F3.later k); (try replace F4 := F4.later k); (try replace F5 := F5.later k); (try replace F6 := F6.later k); (try replace F7 := F7.later k); (try replace F8 := F8.later k); (try replace F9 := F9.later k); (try replace G1 := G1.later k); (try replace G2 := G2.later k); (try replace G3 := G3.later k); (try replace z := z.later k); (try replace b := later b k); (try replace bB := mixed hB bB k)
          refine goQ_since (lasts_below (Nat.le_refl _)) k ?_
          clear k
          simp only [Act.put, List.setIfInBounds_toArray, List.set_cons_succ, List.set_cons_zero]
          refine plan_bar ?_
          simp only [pickOps, opAt, List.getElem?_cons_succ, List.getElem?_cons_zero, List.nil_append, List.cons_append]
          refine wpQuiet_nil ?_
          intro _ _ k
          (try replace F1 := F1.later k); (try replace F2 := F2.later k); (try replace F3 := F3.later k); (try replace F4 := F4.later k); (try replace F5 := F5.later k); (try replace F6 := F6.later k); (try replace F7 := F7.later k); (try replace F8 := F8.later k); (try replace F9 := F9.later k); (try replace G1 := G1.later k); (try replace G2 := G2.later k); (try replace G3 := G3.later k); (try replace z := z.later k); (try replace b := later b k); (try replace bB := mixed hB bB k)
          replace hs3 := hs3.later k
          clear k
          have q8 := z.lt
          have q6 := OwnU.lt F6
          have Q6 := hide q6
          clear q6
          refine wpl_append_full rfl _ _ rfl rfl F7.1 rfl hs3 (by omega) ?_
          intro as2 cs2 _ O2 hb
          have q9 := G1.lt
          have hdis : ∀ x, (Value.slice ar2 (n + 1) cr2).ownBlock = some x → (Value.slice as2 (n + 1) cs2).ownBlock ≠ some x := fun x h1 h2 => by
            have h3 := Q6.out x h1
            have h4 := (World.ownsRow.lt O2.1 x h2).1
            omega
          have HDIS := hide hdis
          (try replace F1 := F1.later hb); (try replace F2 := F2.later hb); (try replace F3 := F3.later hb); (try replace F4 := F4.later hb); (try replace F5 := F5.later hb); (try replace F6 := F6.later hb); (try replace F7 := F7.later hb); (try replace F8 := F8.later hb); (try replace F9 := F9.later hb); (try replace G1 := G1.later hb); (try replace G2 := G2.later hb); (try replace G3 := G3.later hb); (try replace z := z.later hb); (try replace b := later b hb); (try replace bB := mixed hB bB hb)
          replace F7 := (O2.low (g := g8) q8).base q9
          clear O2 hb hs3 hs2 hdis
          refine goB_since ?_
          (try simp only [Act.put, List.setIfInBounds_toArray, List.set_cons_succ, List.set_cons_zero])
          refine plan_bar ?_
          simp only [pickOps, opAt, List.getElem?_cons_succ, List.getElem?_cons_zero, List.nil_append, List.cons_append]
          (repeat (first | go_big_quiet_skip | (go_big_quiet_want; first | (refine plan_load_hash _ rfl rfl (by assumption) ?_; simp only [Act.put, List.setIfInBounds_toArray, List.set_cons_succ, List.set_cons_zero]; go_big_quiet_on) | (refine plan_load_one 3 _ rfl rfl (EvoAt.cd (by assumption)) (by kernel_rfl) ?_; simp only [Act.put, List.setIfInBounds_toArray, List.set_cons_succ, List.set_cons_zero]; go_big_quiet_on) | (refine plan_load_one 3 _ rfl rfl (EvoAt.cp (by assumption)) (by kernel_rfl) ?_; simp only [Act.put, List.setIfInBounds_toArray, List.set_cons_succ, List.set_cons_zero]; go_big_quiet_on) | (refine plan_load_one 24 _ rfl rfl (EvoAt.cr (by assumption)) (by kernel_rfl) ?_; simp only [Act.put, List.setIfInBounds_toArray, List.set_cons_succ, List.set_cons_zero]; go_big_quiet_on) | (refine plan_load_one 24 _ rfl rfl (EvoAt.cs (by assumption)) (by kernel_rfl) ?_; simp only [Act.put, List.setIfInBounds_toArray, List.set_cons_succ, List.set_cons_zero]; go_big_quiet_on) | (refine plan_load_leaf _ rfl rfl (by assumption) ?_; simp only [Act.put, List.setIfInBounds_toArray, List.set_cons_succ, List.set_cons_zero]; go_big_quiet_on) | (go_big_quiet_op; go_big_quiet_on))))
          refine wpQuiet_nil ?_
          intro _ _ k
          (try replace F1 := F1.later k); (try replace F2 := F2.later k); (try replace F3 := F3.later k); (try replace F4 := F4.later k); (try replace F5 := F5.later k); (try replace F6 := F6.later k); (try replace F7 := F7.later k); (try replace F8 := F8.later k); (try replace F9 := F9.later k); (try replace G1 := G1.later k); (try replace G2 := G2.later k); (try replace G3 := G3.later k); (try replace z := z.later k); (try replace b := later b k); (try replace bB := mixed hB bB k)
          clear k
          go_wp2_with (with_reducible show wpList _ _ _ (⟨_, Op.store _ _ _, _, _, _, _⟩ :: _) _ _; refine wpl_set_side rfl _ _ rfl rfl rfl z ?_; intro _ t1 ht; (try replace F1 := F1.tt ht); (try replace F2 := F2.tt ht); (try replace F3 := F3.tt ht); (try replace F4 := F4.tt ht); (try replace F5 := F5.tt ht); (try replace F6 := F6.tt ht); (try replace F7 := F7.tt ht); (try replace F8 := F8.tt ht); (try replace F9 := F9.tt ht); (try replace G1 := G1.tt ht); (try replace G2 := G2.tt ht); (try replace G3 := G3.tt ht); (try replace z := z.tt ht); (try replace b := below_touch b ht (by omega) (by omega)); (try replace bB := below_touch bB ht (by omega) hB); replace z := t1; clear ht)
          refine goB_since ?_
          (try simp only [Act.put, List.setIfInBounds_toArray, List.set_cons_succ, List.set_cons_zero])
          refine plan_stop ?_
          simp only [pickOps, opAt, List.getElem?_cons_succ, List.getElem?_cons_zero, List.nil_append, List.cons_append]
          (repeat (first | go_big_quiet_skip | (go_big_quiet_want; first | (refine plan_load_hash _ rfl rfl (by assumption) ?_; simp only [Act.put, List.setIfInBounds_toArray, List.set_cons_succ, List.set_cons_zero]; go_big_quiet_on) | (refine plan_load_one 3 _ rfl rfl (EvoAt.cd (by assumption)) (by kernel_rfl) ?_; simp only [Act.put, List.setIfInBounds_toArray, List.set_cons_succ, List.set_cons_zero]; go_big_quiet_on) | (refine plan_load_one 3 _ rfl rfl (EvoAt.cp (by assumption)) (by kernel_rfl) ?_; simp only [Act.put, List.setIfInBounds_toArray, List.set_cons_succ, List.set_cons_zero]; go_big_quiet_on) | (refine plan_load_one 24 _ rfl rfl (EvoAt.cr (by assumption)) (by kernel_rfl) ?_; simp only [Act.put, List.setIfInBounds_toArray, List.set_cons_succ, List.set_cons_zero]; go_big_quiet_on) | (refine plan_load_one 24 _ rfl rfl (EvoAt.cs (by assumption)) (by kernel_rfl) ?_; simp only [Act.put, List.setIfInBounds_toArray, List.set_cons_succ, List.set_cons_zero]; go_big_quiet_on) | (refine plan_load_leaf _ rfl rfl (by assumption) ?_; simp only [Act.put, List.setIfInBounds_toArray, List.set_cons_succ, List.set_cons_zero]; go_big_quiet_on) | (go_big_quiet_op; go_big_quiet_on))))
          refine wpQuiet_nil ?_
          intro _ _ k
          (try replace F1 := F1.later k); (try replace F2 := F2.later k); (try replace F3 := F3.later k); (try replace F4 := F4.later k); (try replace F5 := F5.later k); (try replace F6 := F6.later k); (try replace F7 := F7.later k); (try replace F8 := F8.later k); (try replace F9 := F9.later k); (try replace G1 := G1.later k); (try replace G2 := G2.later k); (try replace G3 := G3.later k); (try replace z := z.later k); (try replace b := later b k); (try replace bB := mixed hB bB k)
          clear k
          have HDN := hide (fun w h1 h2 h3 => down_any d (n + 1) ((p : Int) + 1) zero32 s _ _ (RT ++ [zero32]) (ST ++ [U]) B1 w hd4 (by rw [List.length_append, HLR.out]; rfl) (by rw [List.length_append, HLS.out]; rfl) (by omega) rfl HSD.out h1 h2 h3 HDIS.out)
          rw [← HNX.out] at HDN
          replace F6 := F6.less (Y := []) (by simp)
          replace F7 := F7.less (Y := []) (by simp)
          clear F1 F3 F4 F5 F8
          go_wp2_with (first | (with_reducible show wpList _ _ _ (⟨_, Op.load _ _, _, _, _, _⟩ :: _) _ _; first | (refine wpl_load_hash rfl _ rfl rfl (by assumption) ?_) | (refine wpl_load_one rfl 3 _ rfl rfl (EvoAt.cd (by assumption)) (by kernel_rfl) ?_) | (refine wpl_load_one rfl 3 _ rfl rfl (EvoAt.cp (by assumption)) (by kernel_rfl) ?_) | (refine wpl_load_one rfl 24 _ rfl rfl (EvoAt.cr (by assumption)) (by kernel_rfl) ?_) | (refine wpl_load_one rfl 24 _ rfl rfl (EvoAt.cs (by assumption)) (by kernel_rfl) ?_) | (refine wpl_load_leaf rfl _ rfl rfl (by assumption) ?_) | (refine wpl_load_evo rfl _ rfl rfl (by assumption) ?_)) | (with_reducible show wpList _ _ _ (⟨_, Op.call _, _, _, _, _⟩ :: _) _ _; generalize hstop : wpList _ _ _ _ _ _ = Gstop))
          rw [← hstop]; clear hstop
          go_wp2_with (first | (go_at_call 55; refine (HDN.out _ F6 F7 G1).mono ?_; rintro _ _ ⟨_, rfl, ⟨rv, sv, rfl, F3, F4, hl⟩, hc⟩; clear F6 F7; (try replace F1 := F1.below hc (by omega)); (try replace F2 := F2.below hc (by omega)); (try replace F3 := F3.below hc (by omega)); (try replace F4 := F4.below hc (by omega)); (try replace F5 := F5.below hc (by omega)); (try replace F6 := F6.below hc (by omega)); (try replace F7 := F7.below hc (by omega)); (try replace F8 := F8.below hc (by omega)); (try replace F9 := F9.below hc (by omega)); (try replace G1 := G1.below hc (by omega)); (try replace G2 := G2.below hc (by omega)); (try replace G3 := G3.below hc (by omega)); (try replace z := z.below hc (by omega)); (try replace b := below_more b hc (by omega)); (try replace bB := below_more bB hc (by omega)); clear hc; replace F3 := F3.low (g := g2) (by omega); replace F4 := F4.low (g := g2) (by omega); obtain ⟨ra, rc, rfl⟩ := F3.shape; obtain ⟨sa, sc, rfl⟩ := F4.shape; have KL := hide hl; clear hl) | (with_reducible show wpList _ _ _ (⟨_, Op.store _ _ _, _, _, _, _⟩ :: _) _ _; refine wpl_set_evo rfl _ _ rfl rfl rfl KL.out rfl rfl F2 ?_; intro _ t1 ht; (try replace F1 := F1.tt ht); (try replace F2 := F2.tt ht); (try replace F3 := F3.tt ht); (try replace F4 := F4.tt ht); (try replace F5 := F5.tt ht); (try replace F6 := F6.tt ht); (try replace F7 := F7.tt ht); (try replace F8 := F8.tt ht); (try replace F9 := F9.tt ht); (try replace G1 := G1.tt ht); (try replace G2 := G2.tt ht); (try replace G3 := G3.tt ht); (try replace z := z.tt ht); (try replace b := below_touch b ht (by omega) (by omega)); (try replace bB := below_touch bB ht (by omega) hB); replace F2 := t1; clear ht))
          exact bodyPost_ret (ret_evo_tmp rfl _ _ _ rfl rfl F2) rfl (by rw [HPR.out]; exact ⟨_, rfl, ⟨_, _, rfl, (F3.less (Y := []) (by simp)).base kw, (F4.less (Y := []) (by simp)).base kw, KL.out⟩, b⟩)
  · have he : errE k = 2 := by unfold errE; rw [if_neg hm]
    have hp : nextK k = (evo0, 2) := by unfold nextK; rw [if_neg hm]
    rw [hp]
    rw [he] at HM
    obtain ⟨kd, kp, leaf, right, side⟩ := k
    obtain ⟨rv, sv, rfl, F3, F4, hl⟩ := hk
    simp only at F3 F4 hl ⊢
    obtain ⟨ar, cr, rfl, _⟩ := F3.shape
    obtain ⟨as', cs', rfl, _⟩ := F4.shape
    have HL := hide hl
    have b := Below.refl w.heap.size w
    clear hm hl he hp
    unfold evV
    have mF1 := True.intro
    have mF2 := True.intro
    go_enter Try.func18, Try.ntmps18
    go_wp2_with (first | (with_reducible show wpList _ _ _ (⟨_, Op.load _ _, _, _, _, _⟩ :: _) _ _; first | (refine wpl_load_hash rfl _ rfl rfl (by assumption) ?_) | (refine wpl_load_one rfl 3 _ rfl rfl (EvoAt.cd (by assumption)) (by kernel_rfl) ?_) | (refine wpl_load_one rfl 3 _ rfl rfl (EvoAt.cp (by assumption)) (by kernel_rfl) ?_) | (refine wpl_load_one rfl 24 _ rfl rfl (EvoAt.cr (by assumption)) (by kernel_rfl) ?_) | (refine wpl_load_one rfl 24 _ rfl rfl (EvoAt.cs (by assumption)) (by kernel_rfl) ?_) | (refine wpl_load_leaf rfl _ rfl rfl (by assumption) ?_) | (refine wpl_load_evo rfl _ rfl rfl (by assumption) ?_)) | (with_reducible show wpList _ _ _ (⟨_, Op.box _ _, _, _, _, _⟩ :: _) _ _; clear mF1; refine wpl_box_evo rfl _ rfl rfl HL.out rfl rfl ?_; intro _ g1 hg1 F1 hb; (try have := F1.lt); (try have := F2.lt); (try have := F3.lt); (try have := F4.lt); (try have := F5.lt); (try have := F6.lt); (try have := F7.lt); (try have := F8.lt); (try have := F9.lt); (try have := z.lt); (try have := G1.lt); (try have := G2.lt); (try have := G3.lt); (try have := b.size); (try replace F1 := F1.later hb); (try replace F2 := F2.later hb); (try replace F3 := F3.later hb); (try replace F4 := F4.later hb); (try replace F5 := F5.later hb); (try replace F6 := F6.later hb); (try replace F7 := F7.later hb); (try replace F8 := F8.later hb); (try replace F9 := F9.later hb); (try replace G1 := G1.later hb); (try replace G2 := G2.later hb); (try replace G3 := G3.later hb); (try replace z := z.later hb); (try replace b := later b hb); (try replace bB := mixed hB bB hb); clear hb) | (with_reducible show wpList _ _ _ (⟨_, Op.alloc _, _, _, _, _⟩ :: _) _ _; clear mF2; refine wpl_mk_evo rfl rfl ?_; intro _ g2 hg2 F2 hb; (try have := F1.lt); (try have := F2.lt); (try have := F3.lt); (try have := F4.lt); (try have := F5.lt); (try have := F6.lt); (try have := F7.lt); (try have := F8.lt); (try have := F9.lt); (try have := z.lt); (try have := G1.lt); (try have := G2.lt); (try have := G3.lt); (try have := b.size); (try replace F1 := F1.later hb); (try replace F2 := F2.later hb); (try replace F3 := F3.later hb); (try replace F4 := F4.later hb); (try replace F5 := F5.later hb); (try replace F6 := F6.later hb); (try replace F7 := F7.later hb); (try replace F8 := F8.later hb); (try replace F9 := F9.later hb); (try replace G1 := G1.later hb); (try replace G2 := G2.later hb); (try replace G3 := G3.later hb); (try replace z := z.later hb); (try replace b := later b hb); (try replace bB := mixed hB bB hb); clear hb) | (go_at_call 27; refine (HM.out _ _ ⟨_, _, rfl, F3, F4, HL.out⟩).mono ?_; rintro _ _ ⟨rfl, hc⟩; (try replace F1 := F1.later hc); (try replace F2 := F2.later hc); (try replace F3 := F3.later hc); (try replace F4 := F4.later hc); (try replace F5 := F5.later hc); (try replace F6 := F6.later hc); (try replace F7 := F7.later hc); (try replace F8 := F8.later hc); (try replace F9 := F9.later hc); (try replace G1 := G1.later hc); (try replace G2 := G2.later hc); (try replace G3 := G3.later hc); (try replace z := z.later hc); (try replace b := later b hc); (try replace bB := mixed hB bB hc); clear hc) | (with_reducible show wpList _ _ _ (⟨_, Op.build _ _, _, _, _, _⟩ :: _) _ _; refine wpl_build rfl 26 _ rfl (evCs 0 0 zero32 (.slice none 0 0) (.slice none 0 0)).toArray (by simpa using evBuilt0) ?_) | (with_reducible show wpList _ _ _ (⟨_, Op.store _ _ _, _, _, _, _⟩ :: _) _ _; refine wpl_set_evo rfl _ _ rfl rfl rfl rfl rfl rfl F2 ?_; intro _ t1 ht; (try replace F1 := F1.tt ht); (try replace F2 := F2.tt ht); (try replace F3 := F3.tt ht); (try replace F4 := F4.tt ht); (try replace F5 := F5.tt ht); (try replace F6 := F6.tt ht); (try replace F7 := F7.tt ht); (try replace F8 := F8.tt ht); (try replace F9 := F9.tt ht); (try replace G1 := G1.tt ht); (try replace G2 := G2.tt ht); (try replace G3 := G3.tt ht); (try replace z := z.tt ht); (try replace b := below_touch b ht (by omega) (by omega)); (try replace bB := below_touch bB ht (by omega) hB); replace F2 := t1; clear ht))
    exact bodyPost_ret (ret_evo_tmp rfl _ _ _ rfl rfl F2) rfl ⟨_, rfl, ⟨_, _, rfl, own_nil _ _, own_nil _ _, rfl⟩, b⟩
theorem evoNext_any (k : Evo) (v : Value) (w : World) (hk : EvoIs w v k) :
    Calls Try.prog 18 #[v] w (EvoR w (nextK k).1 (nextK k).2) :=
  (evoNextO_any k v w hk).mono fun _ _ ⟨v, h1, h2, h3⟩ => ⟨v, h1, h2.is, h3⟩
end Go.Proofs.Ytofjjpielkfloaa
