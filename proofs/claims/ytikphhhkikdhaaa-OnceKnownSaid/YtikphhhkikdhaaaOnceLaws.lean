/- The laws OnceSigns, OnceTells, OnceKnown. -/
import Derived.Test.YtikphhhkikdhaaaOnceRef3
namespace Go.Proofs.Ytikphhhkikdhaaa
open Go.RowKit Go.Lib
set_option linter.unusedVariables false

set_option maxRecDepth 100000 in
set_option maxHeartbeats 800000 in
theorem onceSigns_row (seed : List UInt8) (hl : seed.length = 32) (m : List UInt8) (hml : m.length = 32) (w : World) :
    Calls Try.prog 3 #[hv seed, hv m] w fun e w' => e = .returned (.bool true) ∧ Below w.heap.size w w' := by
  have HP := hide (fun w => publicKey_any seed hl w)
  have HRP := hide (fun w => refPublic_any seed hl w)
  have HS := hide (fun w => sign_any seed m hl hml w)
  have HRS := hide (fun w => refSign_any seed m hl hml w)
  have HPL := hide (publicL_length seed)
  have hS := HashAt.alloc (HashAt.new w seed hl) (.cells (bvs m).toArray 23)
  have hM := HashAt.new2 w (.cells (bvs seed).toArray 23) m hml
  have b0 := below2 w (.cells (bvs seed).toArray 23) (.cells (bvs m).toArray 23)
  generalize publicL seed = P at *
  generalize (⟨(signL seed m).toArray⟩ : ByteArray) = S at *
  clear hl hml
  unfold hv
  go_enter Try.func3, Try.ntmps3
  go_wp2_with fail
  show Code.wp _ _ _ _ ((w.alloc (.cells (bvs seed).toArray 23)).alloc (.cells (bvs m).toArray 23))
  generalize (w.alloc (.cells (bvs seed).toArray 23)).alloc (.cells (bvs m).toArray 23) = W at *
  refine region_since (by kernel_rfl) (by kernel_rfl) ?_
  repeat (first | go_big_quiet_skip | (go_big_quiet_want; first | (refine quiet_load_hash _ rfl rfl (by assumption) ?_; simp only [Act.put, List.setIfInBounds_toArray, List.set_cons_succ, List.set_cons_zero]; go_big_quiet_on) | (go_big_quiet_op; go_big_quiet_on)))
  go_big_quiet_want; go_big_quiet_op
  refine ⟨_, fun _ => since_of (HP.out _), ?_⟩
  go_big_quiet_on
  repeat (first | go_big_quiet_skip | (go_big_quiet_want; first | (refine quiet_load_hash _ rfl rfl (by assumption) ?_; simp only [Act.put, List.setIfInBounds_toArray, List.set_cons_succ, List.set_cons_zero]; go_big_quiet_on) | (go_big_quiet_op; go_big_quiet_on)))
  go_big_quiet_want; go_big_quiet_op
  refine ⟨_, fun _ => since_of (HRP.out _), ?_⟩
  go_big_quiet_on
  go_big_quiet_want
  refine quiet_eq _ _ rfl rfl rfl HPL.out HPL.out ?_; simp only [Act.put, List.setIfInBounds_toArray, List.set_cons_succ, List.set_cons_zero, decide_true]; go_big_quiet_on
  repeat (first | go_big_quiet_skip | (go_big_quiet_want; first | (refine quiet_load_hash _ rfl rfl (by assumption) ?_; simp only [Act.put, List.setIfInBounds_toArray, List.set_cons_succ, List.set_cons_zero]; go_big_quiet_on) | (go_big_quiet_op; go_big_quiet_on)))
  go_big_quiet_want; go_big_quiet_op
  refine ⟨_, fun _ => since_of (HS.out _), ?_⟩
  go_big_quiet_on
  repeat (first | go_big_quiet_skip | (go_big_quiet_want; first | (refine quiet_load_hash _ rfl rfl (by assumption) ?_; simp only [Act.put, List.setIfInBounds_toArray, List.set_cons_succ, List.set_cons_zero]; go_big_quiet_on) | (go_big_quiet_op; go_big_quiet_on)))
  go_big_quiet_want; go_big_quiet_op
  refine ⟨_, fun _ => since_of (HRS.out _), ?_⟩
  go_big_quiet_on
  repeat (first | go_big_quiet_skip | (go_big_quiet_want; first | (refine quiet_load_hash _ rfl rfl (by assumption) ?_; simp only [Act.put, List.setIfInBounds_toArray, List.set_cons_succ, List.set_cons_zero]; go_big_quiet_on) | (go_big_quiet_op; go_big_quiet_on)))
  refine wpQuiet_nil ?_
  intro w5 hw5
  go_wp2_with fail
  go_ret
  exact ⟨rfl, later b0 hw5⟩

set_option maxRecDepth 100000 in
set_option maxHeartbeats 800000 in
theorem onceTells_big (p m : List UInt8) (sig : ByteArray) (hs : 4096 < sig.size) (w : World) :
    Calls Try.prog 5 #[hv p, hv m, .string sig] w fun e w' => e = .returned (.bool true) ∧ Below w.heap.size w w' := by
  have b0 := below2 w (.cells (bvs p).toArray 23) (.cells (bvs m).toArray 23)
  have hd : decide ((4096 : Int) < (sig.size : Int)) = true := by simp; omega
  unfold hv
  go_enter Try.func5, Try.ntmps5
  go_wp2_with fail
  show Calls _ _ _ ((w.alloc (.cells (bvs p).toArray 23)).alloc (.cells (bvs m).toArray 23)) _
  generalize (w.alloc (.cells (bvs p).toArray 23)).alloc (.cells (bvs m).toArray 23) = W at *
  refine (works05 _).mono ?_
  rintro _ wc1 ⟨rfl, hc1⟩
  replace b0 := later b0 hc1
  clear hc1
  go_wp2_with fail
  go_ret
  exact ⟨rfl, b0⟩
set_option maxRecDepth 100000 in
set_option maxHeartbeats 1600000 in
theorem onceTells_small (p m : List UInt8) (sig : ByteArray) (hp : p.length = 32) (hml : m.length = 32) (hs : sig.size ≤ 4096) (w : World) :
    Calls Try.prog 5 #[hv p, hv m, .string sig] w fun e w' => e = .returned (.bool true) ∧ Below w.heap.size w w' := by
  have hd : decide ((4096 : Int) < (sig.size : Int)) = false := by simp; omega
  have HT := hide (fun w => tells_all m sig hml w)
  have HRT := hide (fun w => refTells_all m sig hml w)
  have HC := hide (fun w => check_all p m sig hp hml w)
  have HRC := hide (fun w => refCheck_all p m sig hp hml w)
  have HRL := hide (tellsR_length m sig)
  have hP := HashAt.alloc (HashAt.new w p hp) (.cells (bvs m).toArray 23)
  have hM := HashAt.new2 w (.cells (bvs p).toArray 23) m hml
  have b0 := below2 w (.cells (bvs p).toArray 23) (.cells (bvs m).toArray 23)
  generalize tellsR m sig = Rn at *
  obtain ⟨R, n⟩ := Rn
  generalize checkR p m sig = C at *
  clear hp hml hs
  unfold hv
  go_enter Try.func5, Try.ntmps5
  go_wp2_with (refine wpl_load_hash (w := (w.alloc (.cells (bvs p).toArray 23)).alloc (.cells (bvs m).toArray 23)) rfl _ rfl rfl hM ?_)
  show Calls _ _ _ ((w.alloc (.cells (bvs p).toArray 23)).alloc (.cells (bvs m).toArray 23)) _
  generalize (w.alloc (.cells (bvs p).toArray 23)).alloc (.cells (bvs m).toArray 23) = W at *
  refine (HT.out _).mono ?_
  rintro _ wc2 ⟨rfl, hc2⟩
  replace b0 := later b0 hc2
  replace hP := hP.later hc2
  replace hM := hM.later hc2
  clear hc2
  go_wp2_with (first | (refine wpl_load_hash rfl _ rfl rfl (by assumption) ?_) | (refine wpl_new_hash rfl _ _ rfl rfl rfl HRL.out ?_; intro w3 h3 hn3; replace b0 := later b0 hn3; replace hP := hP.later hn3; replace hM := hM.later hn3; clear hn3))
  refine (HRT.out _).mono ?_
  rintro _ wc4 ⟨rfl, hc4⟩
  replace b0 := later b0 hc4
  replace hP := hP.later hc4
  replace hM := hM.later hc4
  replace h3 := h3.later hc4
  clear hc4
  go_wp2_with (first | (refine wpl_load_hash rfl _ rfl rfl (by assumption) ?_) | (refine wpl_new_hash rfl _ _ rfl rfl rfl HRL.out ?_; intro w4 h4 hn5; replace b0 := later b0 hn5; replace hP := hP.later hn5; replace hM := hM.later hn5; replace h3 := h3.later hn5; clear hn5))
  refine region_since (by kernel_rfl) (by kernel_rfl) ?_
  repeat (first | go_big_quiet_skip | (go_big_quiet_want; first | (refine quiet_load_hash _ rfl rfl (by assumption) ?_; simp only [Act.put, List.setIfInBounds_toArray, List.set_cons_succ, List.set_cons_zero]; go_big_quiet_on) | (go_big_quiet_op; go_big_quiet_on)))
  go_big_quiet_want
  refine quiet_eq _ _ rfl rfl rfl HRL.out HRL.out ?_; simp only [Act.put, List.setIfInBounds_toArray, List.set_cons_succ, List.set_cons_zero, decide_true]; go_big_quiet_on
  repeat (first | go_big_quiet_skip | (go_big_quiet_want; first | (refine quiet_load_hash _ rfl rfl (by assumption) ?_; simp only [Act.put, List.setIfInBounds_toArray, List.set_cons_succ, List.set_cons_zero]; go_big_quiet_on) | (go_big_quiet_op; go_big_quiet_on)))
  go_big_quiet_want; go_big_quiet_op
  refine ⟨_, fun _ => since_of (HC.out _), ?_⟩
  go_big_quiet_on
  repeat (first | go_big_quiet_skip | (go_big_quiet_want; first | (refine quiet_load_hash _ rfl rfl (by assumption) ?_; simp only [Act.put, List.setIfInBounds_toArray, List.set_cons_succ, List.set_cons_zero]; go_big_quiet_on) | (go_big_quiet_op; go_big_quiet_on)))
  go_big_quiet_want; go_big_quiet_op
  refine ⟨_, fun _ => since_of (HRC.out _), ?_⟩
  go_big_quiet_on
  repeat (first | go_big_quiet_skip | (go_big_quiet_want; first | (refine quiet_load_hash _ rfl rfl (by assumption) ?_; simp only [Act.put, List.setIfInBounds_toArray, List.set_cons_succ, List.set_cons_zero]; go_big_quiet_on) | (go_big_quiet_op; go_big_quiet_on)))
  go_big_quiet_want; go_big_quiet_op
  refine ⟨_, fun _ => since_of (works05 _), ?_⟩
  go_big_quiet_on
  repeat (first | go_big_quiet_skip | (go_big_quiet_want; first | (refine quiet_load_hash _ rfl rfl (by assumption) ?_; simp only [Act.put, List.setIfInBounds_toArray, List.set_cons_succ, List.set_cons_zero]; go_big_quiet_on) | (go_big_quiet_op; go_big_quiet_on)))
  refine wpQuiet_nil ?_
  intro w5 hw5
  go_wp2_with fail
  go_ret
  exact ⟨rfl, later b0 hw5⟩
theorem onceTells_row (p : List UInt8) (hp : p.length = 32) (m : List UInt8) (hml : m.length = 32) (sig : ByteArray) (_ : sig.size ≤ 9223372036854775807) (w : World) :
    Calls Try.prog 5 #[hv p, hv m, .string sig] w fun e w' => e = .returned (.bool true) ∧ Below w.heap.size w w' := by
  by_cases h : sig.size ≤ 4096
  · exact onceTells_small p m sig hp hml h w
  · exact onceTells_big p m sig (by omega) w
set_option maxRecDepth 100000 in
set_option maxHeartbeats 1600000 in
theorem onceKnown_row (w : World) :
    Calls Try.prog 4 #[] w fun e w' => e = .returned (.bool true) ∧ Below w.heap.size w w' := by
  have l0 : zero32.length = 32 := rfl
  obtain ⟨P, hP⟩ : ∃ P, P = publicL zero32 := ⟨_, rfl⟩
  have hPl : P.length = 32 := by rw [hP]; exact publicL_length _
  have HT : Hid (∀ w, Calls Try.prog 20 #[hv zero32, .string ⟨#[]⟩] w fun e w' => e = .returned (.tuple #[hv zero32, .int .i64 6]) ∧ Below w.heap.size w w') := fun w => tells_bad zero32 ⟨#[]⟩ (by decide) w
  have HPk : Hid (∀ w, Calls Try.prog 16 #[hv zero32] w fun e w' => e = .returned (hv P) ∧ Below w.heap.size w w') := fun w => by rw [hP]; exact publicKey_any _ l0 w
  have HC : Hid (∀ w, Calls Try.prog 22 #[hv P, hv zero32, .string ⟨#[]⟩] w fun e w' => e = .returned (.bool false) ∧ Below w.heap.size w w') := fun w => check_bad P zero32 _ hPl l0 (by decide) w
  have b0 := Below.refl w.heap.size w
  clear hP hPl l0
  go_enter Try.func4, Try.ntmps4
  go_wp2_with (refine wpl_zero_hash rfl rfl ?_)
  refine (HT.out _).mono ?_
  rintro _ wc6 ⟨rfl, hc6⟩
  replace b0 := later b0 hc6
  clear hc6
  go_wp2_with (first | (refine wpl_load_hash rfl _ rfl rfl (by assumption) ?_) | (refine wpl_zero_hash rfl rfl ?_) | (refine wpl_new_hash rfl _ _ rfl rfl rfl rfl ?_; intro w3 h3 hn7; replace b0 := later b0 hn7; clear hn7))
  refine (works05 _).mono ?_
  rintro _ wc8 ⟨rfl, hc8⟩
  replace b0 := later b0 hc8
  clear hc8
  go_wp2_with (first | (refine wpl_load_hash rfl _ rfl rfl (by assumption) ?_) | (refine wpl_zero_hash rfl rfl ?_))
  refine (HPk.out _).mono ?_
  rintro _ wc9 ⟨rfl, hc9⟩
  replace b0 := later b0 hc9
  clear hc9
  go_wp2_with (first | (refine wpl_load_hash rfl _ rfl rfl (by assumption) ?_) | (refine wpl_zero_hash rfl rfl ?_))
  refine (HC.out _).mono ?_
  rintro _ wc10 ⟨rfl, hc10⟩
  replace b0 := later b0 hc10
  clear hc10
  go_wp2_with fail
  go_ret
  exact ⟨rfl, b0⟩
end Go.Proofs.Ytikphhhkikdhaaa
