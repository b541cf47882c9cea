/- OnceAlike: the walk. -/
import Derived.Test.YtikphhhkikdhaaaOnceAlikeL
namespace Go.Proofs.Ytikphhhkikdhaaa
open Go.RowKit Go.Lib
set_option linter.unusedVariables false
set_option linter.unusedSimpArgs false

set_option maxRecDepth 100000 in
set_option maxHeartbeats 1600000 in
theorem onceAlike_row (seed : List UInt8) (hl : seed.length = 32) (a : List UInt8) (ha : a.length = 32) (b : List UInt8) (hb : b.length = 32) (w : World) :
    Calls Try.prog 7 #[hv seed, hv a, hv b] w fun e w' => e = .returned (.bool true) ∧ Below w.heap.size w w' := by
  obtain ⟨S, hS⟩ : ∃ S : ByteArray, S = ⟨(signL seed a).toArray⟩ := ⟨_, rfl⟩
  obtain ⟨T, hT⟩ : ∃ T : ByteArray, T = ⟨(signL seed b).toArray⟩ := ⟨_, rfl⟩
  have hSs : S.size = 1024 := by rw [hS]; exact signL_length _ _
  have hTs : T.size = 1024 := by rw [hT]; exact signL_length _ _
  have HSa : Hid (∀ w, Calls Try.prog 18 #[hv seed, hv a] w fun e w' => e = .returned (.string S) ∧ Below w.heap.size w w') := fun w => by rw [hS]; exact sign_any _ _ hl ha w
  have HSb : Hid (∀ w, Calls Try.prog 18 #[hv seed, hv b] w fun e w' => e = .returned (.string T) ∧ Below w.heap.size w w') := fun w => by rw [hT]; exact sign_any _ _ hl hb w
  have HPa : Hid (∀ k, k < 16 → S.extract (64 * k) (64 * k + 64) = piece seed a k) := fun k hk => by rw [hS]; exact piece_at seed a k hk
  have HPb : Hid (∀ k, k < 16 → T.extract (64 * k) (64 * k + 64) = piece seed b k) := fun k hk => by rw [hT]; exact piece_at seed b k hk
  have h0 := HashAt.alloc (HashAt.alloc (HashAt.new w seed hl) (.cells (bvs a).toArray 23)) (.cells (bvs b).toArray 23)
  have h1 := HashAt.alloc (HashAt.new2 w (.cells (bvs seed).toArray 23) a ha) (.cells (bvs b).toArray 23)
  have h2 := HashAt.new3 w (.cells (bvs seed).toArray 23) (.cells (bvs a).toArray 23) b hb
  have b0 := below3a w (.cells (bvs seed).toArray 23) (.cells (bvs a).toArray 23) (.cells (bvs b).toArray 23)
  clear hS hT
  unfold hv
  go_enter Try.func7, Try.ntmps7
  go_wp2_with fail
  show Code.wp _ _ _ _ (((w.alloc (.cells (bvs seed).toArray 23)).alloc (.cells (bvs a).toArray 23)).alloc (.cells (bvs b).toArray 23))
  generalize ((w.alloc (.cells (bvs seed).toArray 23)).alloc (.cells (bvs a).toArray 23)).alloc (.cells (bvs b).toArray 23) = W at *
  refine region_since (by kernel_rfl) (by kernel_rfl) ?_
  repeat (first | go_big_quiet_skip | (go_big_quiet_want; first | (refine quiet_load_hash _ rfl rfl (by assumption) ?_; simp only [Act.put, List.setIfInBounds_toArray, List.set_cons_succ, List.set_cons_zero]; go_big_quiet_on) | (go_big_quiet_op; go_big_quiet_on)))
  go_big_quiet_want; go_big_quiet_op
  refine ⟨_, fun _ => since_of (HSa.out _), ?_⟩
  go_big_quiet_on
  repeat (first | go_big_quiet_skip | (go_big_quiet_want; first | (refine quiet_load_hash _ rfl rfl (by assumption) ?_; simp only [Act.put, List.setIfInBounds_toArray, List.set_cons_succ, List.set_cons_zero]; go_big_quiet_on) | (go_big_quiet_op; go_big_quiet_on)))
  go_big_quiet_want; go_big_quiet_op
  refine ⟨_, fun _ => since_of (HSb.out _), ?_⟩
  go_big_quiet_on
  repeat (first | go_big_quiet_skip | (go_big_quiet_want; first | (refine quiet_load_hash _ rfl rfl (by assumption) ?_; simp only [Act.put, List.setIfInBounds_toArray, List.set_cons_succ, List.set_cons_zero]; go_big_quiet_on) | (go_big_quiet_op; go_big_quiet_on)))
  refine wpQuiet_nil ?_
  intro w5 hq1
  replace h1 := h1.later hq1
  replace h2 := h2.later hq1
  replace b0 := later b0 hq1
  clear hq1
  go_wp2_with fail
  go_loopw [26] (fun i wr => ∃ k : Nat, i = .int .i64 k ∧ k ≤ 16 ∧ Below w5.heap.size w5 wr) (fun i _ => 16 - (RowKit.intOf i).toNat)
  case atStart => exact ⟨0, rfl, by omega, Below.refl _ _⟩
  case round =>
    obtain ⟨k, rfl, hk, bq⟩ := hrel
    have g1 := h1.later bq
    have g2 := h2.later bq
    have b3 := later b0 bq
    by_cases hlt : k < 16
    · have c1 := g1.2
      have c2 := g2.2
      have X0 := HPa.out k hlt
      have Y0 := HPb.out k hlt
      have z1 : ((64 : Int) * (k : Int)) ≤ 64 * (k : Int) + 64 := by omega
      have z2 : (64 * (k : Int) + 64) ≤ 1024 := by omega
      go_wp2_with fail
      refine region_since (by kernel_rfl) (by kernel_rfl) ?_
      repeat (first | go_big_quiet_skip | (go_big_quiet_want; go_big_quiet_op; go_big_quiet_on))
      refine wpQuiet_nil ?_
      intro w6 hb6
      rw [X0, Y0]
      have m1 := signM_length seed a k
      have m2 := signM_length seed b k
      have x1 := piece_left seed a k
      have x2 := piece_right seed a k
      have y1 := piece_left seed b k
      have y2 := piece_right seed b k
      have xs := piece_size seed a k
      have ys := piece_size seed b k
      have d1 : w6.cell? ⟨w.heap.size + 1, k / 8, none⟩ = some (.int .u8 ((a.getD (k / 8) 0).toNat : Int)) := by
        rw [Arr.cell (g1.later hb6).2 (i := k / 8) (by rw [bvs_length]; omega), bvs_getD a _ (by omega)]
      have d2 : w6.cell? ⟨w.heap.size + 1 + 1, k / 8, none⟩ = some (.int .u8 ((b.getD (k / 8) 0).toNat : Int)) := by
        show w6.cell? ⟨w.heap.size + 2, k / 8, none⟩ = _
        rw [Arr.cell (g2.later hb6).2 (i := k / 8) (by rw [bvs_length]; omega), bvs_getD b _ (by omega)]
      have E := xor_bit a b k
      generalize hbx : bits BinOp.and IntKind.u8 (bits BinOp.xor IntKind.u8 ((a.getD (k / 8) 0).toNat : Int) ((b.getD (k / 8) 0).toNat : Int) / 2 ^ (7 - k % 8)) 1 = Z at *
      generalize a.getD (k / 8) 0 = ac at *
      generalize b.getD (k / 8) 0 = bc at *
      have b6 := later b3 hb6
      have bq6 := later bq hb6
      have q1 := fun s : Since w6 => Since.cell d1 s
      have q2 := fun s : Since w6 => Since.cell d2 s
      have hxy : bitL a k = bitL b k → piece seed a k = piece seed b k := fun h => by unfold piece signM; rw [h]
      have ba := bitL_lt a k
      have bb := bitL_lt b k
      have hne1 : bitL a k ≠ bitL b k → (signM seed a k).2 = markL (signM seed b k).1 := fun h => by unfold signM; rw [show 1 - bitL a k = bitL b k by omega]
      have hne2 : bitL a k ≠ bitL b k → (signM seed b k).2 = markL (signM seed a k).1 := fun h => by unfold signM; rw [show 1 - bitL b k = bitL a k by omega]
      have xl := m1.1
      have yl := m2.1
      clear X0 Y0 d1 d2 c1 c2 g1 g2 b3 bq z1 z2 HPa HPb HSa HSb m1 m2 ba bb
      generalize piece seed a k = X at *
      generalize piece seed b k = Y at *
      generalize (signM seed a k).2 = x' at *
      generalize (signM seed b k).2 = y' at *
      generalize (signM seed a k).1 = x at *
      generalize (signM seed b k).1 = y at *
      by_cases hbb : bitL a k = bitL b k
      · rw [if_pos hbb] at E
        subst E
        have hXY := hxy hbb
        subst hXY
        clear hne1 hne2 hxy x1 x2 y1 y2 hbb
        go_wp2_with fail
        refine region_since (by kernel_rfl) (by kernel_rfl) ?_
        repeat (first | go_big_quiet_skip | (go_big_quiet_want; go_big_quiet_op; go_big_quiet_on))
        refine wpQuiet_nil ?_
        intro w7 hb7
        have b7 := later bq6 hb7
        clear b6 bq6 q1 q2 hb7
        go_wp2_with fail
        go_roundw
        case rel => exact ⟨k + 1, by simp, by omega, b7⟩
        case measure => simp [RowKit.intOf]; omega
      · rw [if_neg hbb] at E
        subst E
        have e1 := hne1 hbb
        have e2 := hne2 hbb
        subst e1
        subst e2
        clear hne1 hne2 hxy hbb
        have HM : Hid (∀ w v (p : List UInt8), Strs w v ([p].map txt) → p.length = 32 → Calls Try.prog 26 #[.string ⟨#[109, 97, 114, 107]⟩, v] w fun e w' => e = .returned (hv (markL p)) ∧ Below w.heap.size w w') := fun w v p h hp => of_at tagMark [p] v w h (by decide) (by intro q hq; simp at hq; subst hq; omega) (by simp)
        have HBy : Hid (∀ w (p : List UInt8), Calls Try.prog 25 #[hv (markL p)] w fun e w' => e = .returned (.string ⟨(markL p).toArray⟩) ∧ Below w.heap.size w w') := fun w p => bytes_any _ w (markL_length p)
        have HN : Hid (∀ (w : World) (p : List UInt8), Strs (w.alloc (.cells #[.string ⟨p.toArray⟩] 9)) (.slice (some ⟨w.heap.size, 0, none⟩) 1 1) ([p].map txt)) := fun w p => strs_new w [p]
        have XL := hide xl
        have YL := hide yl
        clear xl yl
        go_wp2_with fail
        refine region_since (by kernel_rfl) (by kernel_rfl) ?_
        repeat (first | go_big_quiet_skip | (go_big_quiet_want; go_big_quiet_op; go_big_quiet_on))
        refine wpQuiet_nil ?_
        intro w7 hb7
        have b7 := later bq6 hb7
        clear b6 bq6 q1 q2 hb7
        go_wp2_with fail
        refine region_plan (fun x => Below (w7).heap.size (w7) x) (.one [0, 1, 5, 6] 2 (.fl [] 3 (.fl [] 4 (.one [7, 8, 9, 10, 14, 15] 11 (.fl [] 12 (.fl [] 13 (.stop [16, 17]))))))) (by kernel_rfl) (by kernel_rfl) (by kernel_rfl) (by decide) (lasts_below (Nat.le_refl _)) (Below.refl _ _) ?_
        intro wpl0 _ _ _
        refine plan_one ?_
        simp only [pickOps, opAt, List.getElem?_cons_succ, List.getElem?_cons_zero, List.nil_append, List.cons_append]
        repeat (first | go_big_quiet_skip | (go_big_quiet_want; go_big_quiet_op; go_big_quiet_on))
        refine wpQuiet_nil ?_
        intro w8 _ k8
        try rw [x1]
        go_wp2_with fail
        have s9 := HN.out w8 x
        have k9 := later k8 (below1 w8 (.cells #[.string ⟨x.toArray⟩] 9))
        replace b7 := later b7 k9
        refine goQ_since (lasts_below (Nat.le_refl _)) k9 ?_
        generalize w8.alloc (.cells #[.string ⟨x.toArray⟩] 9) = w9 at *
        generalize w8.heap.size = g9 at *
        clear k8 k9
        refine plan_fl ?_
        simp only [pickOps, opAt, List.getElem?_cons_succ, List.getElem?_cons_zero, List.nil_append, List.cons_append]
        refine wpQuiet_nil ?_
        refine fl_call (args := #[.string ⟨#[109, 97, 114, 107]⟩, .slice (some ⟨g9, 0, none⟩) 1 1]) (by rfl) rfl (by kernel_rfl) (by simp only [List.map_toArray, List.map_cons, List.map_nil]; rfl) (fun w' hC => HM.out _ _ x (strs_later s9 (Kl.out hC)) XL.out) ?_
        simp only [Act.put, List.setIfInBounds_toArray, List.set_cons_succ, List.set_cons_zero]
        refine plan_fl ?_
        simp only [pickOps, opAt, List.getElem?_cons_succ, List.getElem?_cons_zero, List.nil_append, List.cons_append]
        refine wpQuiet_nil ?_
        refine fl_call (args := #[hv (markL x)]) (by rfl) rfl (by kernel_rfl) (by simp only [List.map_toArray, List.map_cons, List.map_nil]; rfl) (fun w' hC => HBy.out _ x) ?_
        simp only [Act.put, List.setIfInBounds_toArray, List.set_cons_succ, List.set_cons_zero]
        refine plan_one ?_
        simp only [pickOps, opAt, List.getElem?_cons_succ, List.getElem?_cons_zero, List.nil_append, List.cons_append]
        repeat (first | go_big_quiet_skip | (go_big_quiet_want; go_big_quiet_op; go_big_quiet_on))
        refine wpQuiet_nil ?_
        intro w10 _ k10
        replace b7 := later b7 k10
        go_wp2_with fail
        have s11 := HN.out w10 y
        have k11 := later k10 (below1 w10 (.cells #[.string ⟨y.toArray⟩] 9))
        replace b7 := later b7 (below1 w10 (.cells #[.string ⟨y.toArray⟩] 9))
        refine goQ_since (lasts_below (Nat.le_refl _)) k11 ?_
        generalize w10.alloc (.cells #[.string ⟨y.toArray⟩] 9) = w11 at *
        generalize w10.heap.size = g11 at *
        clear k10 k11
        refine plan_fl ?_
        simp only [pickOps, opAt, List.getElem?_cons_succ, List.getElem?_cons_zero, List.nil_append, List.cons_append]
        refine wpQuiet_nil ?_
        refine fl_call (args := #[.string ⟨#[109, 97, 114, 107]⟩, .slice (some ⟨g11, 0, none⟩) 1 1]) (by rfl) rfl (by kernel_rfl) (by simp only [List.map_toArray, List.map_cons, List.map_nil]; rfl) (fun w' hC => HM.out _ _ y (strs_later s11 (Kl.out hC)) YL.out) ?_
        simp only [Act.put, List.setIfInBounds_toArray, List.set_cons_succ, List.set_cons_zero]
        refine plan_fl ?_
        simp only [pickOps, opAt, List.getElem?_cons_succ, List.getElem?_cons_zero, List.nil_append, List.cons_append]
        refine wpQuiet_nil ?_
        refine fl_call (args := #[hv (markL y)]) (by rfl) rfl (by kernel_rfl) (by simp only [List.map_toArray, List.map_cons, List.map_nil]; rfl) (fun w' hC => HBy.out _ y) ?_
        simp only [Act.put, List.setIfInBounds_toArray, List.set_cons_succ, List.set_cons_zero]
        refine plan_stop ?_
        simp only [pickOps, opAt, List.getElem?_cons_succ, List.getElem?_cons_zero, List.nil_append, List.cons_append]
        repeat (first | go_big_quiet_skip | (go_big_quiet_want; go_big_quiet_op; go_big_quiet_on))
        refine wpQuiet_nil ?_
        intro w12 _ k12
        replace b7 := later b7 k12
        clear HM HBy HN s9 s11 k12
        go_wp2_with fail
        go_roundw
        case rel => exact ⟨k + 1, by simp, by omega, b7⟩
        case measure => simp [RowKit.intOf]; omega
    · have hkn : k = 16 := by omega
      subst hkn
      clear HPa HPb HSa HSb
      go_wp2_with fail
      refine (works05 _).mono ?_
      rintro _ wc2 ⟨rfl, hc2⟩
      replace b3 := later b3 hc2
      clear hc2
      go_wp2_with fail
      go_ret
      exact ⟨rfl, b3⟩
end Go.Proofs.Ytikphhhkikdhaaa
