/- The law OnceRight: a signature tells the public key of the seed that made it. -/
import Derived.Test.YtikphhhkikdhaaaOnceLaw
import Derived.Test.YtikphhhkikdhaaaOnceCheck
import Derived.Test.YtikphhhkikdhaaaOnceCheck2
namespace Go.Proofs.Ytikphhhkikdhaaa
open Go.RowKit Go.Lib

theorem s_more (S : ByteArray) : (S ++ ⟨#[115]⟩).size = S.size + 1 := by rw [ByteArray.size_append]; rfl
set_option maxRecDepth 100000 in
set_option maxHeartbeats 800000 in
theorem onceRight_row (seed : List UInt8) (hl : seed.length = 32) (m : List UInt8) (hml : m.length = 32) (w : World) :
    Calls Try.prog 6 #[hv seed, hv m] w fun e w' => e = .returned (.bool true) ∧ Below w.heap.size w w' := by
  obtain ⟨P, hP⟩ : ∃ P, P = publicL seed := ⟨_, rfl⟩
  obtain ⟨S, hS⟩ : ∃ S : ByteArray, S = ⟨(signL seed m).toArray⟩ := ⟨_, rfl⟩
  have hsz : S.size = 1024 := by rw [hS]; exact signL_length seed m
  have hPl : P.length = 32 := by rw [hP]; exact publicL_length seed
  have hTP : tellsL m S = P := by rw [hS, hP]; exact tells_sign seed m
  have HSg : Hid (∀ w, Calls Try.prog 18 #[hv seed, hv m] w fun e w' => e = .returned (.string S) ∧ Below w.heap.size w w') := fun w => by rw [hS]; exact sign_any seed m hl hml w
  have HTl : Hid (∀ w, Calls Try.prog 20 #[hv m, .string S] w fun e w' => e = .returned (.tuple #[hv P, .int .i64 0]) ∧ Below w.heap.size w w') := fun w => by rw [← hTP]; exact tells_any m S hml hsz w
  have HPk : Hid (∀ w, Calls Try.prog 16 #[hv seed] w fun e w' => e = .returned (hv P) ∧ Below w.heap.size w w') := fun w => by rw [hP]; exact publicKey_any seed hl w
  have HC0 : Hid (∀ w, Calls Try.prog 22 #[hv P, hv m, .string S] w fun e w' => e = .returned (.bool true) ∧ Below w.heap.size w w') := fun w => by
    have := check_any P m S hPl hml hsz w
    rwa [hTP, decide_eq_true rfl] at this
  have HC1 : Hid (∀ w, Calls Try.prog 22 #[hv P, hv m, .string (S.extract 1 S.size)] w fun e w' => e = .returned (.bool false) ∧ Below w.heap.size w w') := fun w => check_bad P m _ hPl hml (by rw [ByteArray.size_extract]; omega) w
  have HC2 : Hid (∀ w, Calls Try.prog 22 #[hv P, hv m, .string (S ++ ⟨#[115]⟩)] w fun e w' => e = .returned (.bool false) ∧ Below w.heap.size w w') := fun w => check_bad P m _ hPl hml (by rw [s_more]; omega) w
  have c1 : ¬ 9223372036854775807 < S.size + (⟨#[115]⟩ : ByteArray).size := by show ¬ _ < S.size + 1; omega
  have d1 : (1 : Nat) ≤ S.size := by omega
  have d2 : ((S.size : Int) == 1024) = true := by simp [hsz]
  have HPL := hide hPl
  have hA := HashAt.alloc (HashAt.new w seed hl) (.cells (bvs m).toArray 23)
  have hM := HashAt.new2 w (.cells (bvs seed).toArray 23) m hml
  have hb := below2 w (.cells (bvs seed).toArray 23) (.cells (bvs m).toArray 23)
  clear hP hS hsz hPl hTP hl hml
  unfold hv
  go_enter Try.func6, Try.ntmps6
  go_wp2_with (first | (refine wpl_load_hash (w := (w.alloc (.cells (bvs seed).toArray 23)).alloc (.cells (bvs m).toArray 23)) rfl _ rfl rfl hA ?_) | (refine wpl_load_hash (w := (w.alloc (.cells (bvs seed).toArray 23)).alloc (.cells (bvs m).toArray 23)) rfl _ rfl rfl hM ?_))
  show Calls _ _ _ ((w.alloc (.cells (bvs seed).toArray 23)).alloc (.cells (bvs m).toArray 23)) _
  generalize (w.alloc (.cells (bvs seed).toArray 23)).alloc (.cells (bvs m).toArray 23) = W at *
  refine (HSg.out _).mono ?_
  rintro _ w1 ⟨rfl, hb1⟩
  have a1 := hA.later hb1
  have m1 := hM.later hb1
  have b1 := later hb hb1
  clear hA hM hb hb1
  go_wp2_with (refine wpl_load_hash rfl _ rfl rfl m1 ?_)
  refine (HTl.out _).mono ?_
  rintro _ w2 ⟨rfl, hb2⟩
  have z2 := HashAt.zero w2
  have n2 : w.heap.size + 1 < w2.heap.size := (m1.later hb2).lt
  have q3 := z2.row P HPL.out
  have a3 := ((a1.later hb2).alloc (.cells (bvs zero32).toArray 23)).row_other w2.heap.size (bvs P).toArray (by omega)
  have m3 := ((m1.later hb2).alloc (.cells (bvs zero32).toArray 23)).row_other w2.heap.size (bvs P).toArray (by omega)
  have b3 := below_setRow (later (later b1 hb2) (below1 w2 (.cells (bvs zero32).toArray 23))) (show w.heap.size ≤ w2.heap.size by omega) (bvs P).toArray
  clear a1 m1 b1 hb2 n2
  go_wp2_with (refine wpl_store_hash (w := w2.alloc (.cells (bvs zero32).toArray 23)) rfl _ _ rfl rfl rfl HPL.out z2 ?_)
  show Code.wp _ _ _ _ ((w2.alloc (.cells (bvs zero32).toArray 23)).setRow w2.heap.size (bvs P).toArray)
  clear z2
  generalize (w2.alloc (.cells (bvs zero32).toArray 23)).setRow w2.heap.size (bvs P).toArray = w3 at *
  refine region_since (by kernel_rfl) (by kernel_rfl) ?_
  repeat (first | go_big_quiet_skip | (go_big_quiet_want; first
    | (refine quiet_load_hash _ rfl rfl (by assumption) ?_; simp only [Act.put, List.setIfInBounds_toArray, List.set_cons_succ, List.set_cons_zero]; go_big_quiet_on)
    | (refine quiet_eq _ _ rfl rfl rfl HPL.out HPL.out ?_; simp only [Act.put, List.setIfInBounds_toArray, List.set_cons_succ, List.set_cons_zero, decide_true]; go_big_quiet_on)
    | (go_big_quiet_op; go_big_quiet_on)))
  go_big_quiet_want; go_big_quiet_op
  refine ⟨_, fun _ => since_of (HPk.out _), ?_⟩
  go_big_quiet_on
  repeat (first | go_big_quiet_skip | (go_big_quiet_want; first
    | (refine quiet_load_hash _ rfl rfl (by assumption) ?_; simp only [Act.put, List.setIfInBounds_toArray, List.set_cons_succ, List.set_cons_zero]; go_big_quiet_on)
    | (refine quiet_eq _ _ rfl rfl rfl HPL.out HPL.out ?_; simp only [Act.put, List.setIfInBounds_toArray, List.set_cons_succ, List.set_cons_zero, decide_true]; go_big_quiet_on)
    | (go_big_quiet_op; go_big_quiet_on)))
  go_big_quiet_want; go_big_quiet_op
  refine ⟨_, fun _ => since_of (HC0.out _), ?_⟩
  go_big_quiet_on
  repeat (first | go_big_quiet_skip | (go_big_quiet_want; first
    | (refine quiet_load_hash _ rfl rfl (by assumption) ?_; simp only [Act.put, List.setIfInBounds_toArray, List.set_cons_succ, List.set_cons_zero]; go_big_quiet_on)
    | (refine quiet_eq _ _ rfl rfl rfl HPL.out HPL.out ?_; simp only [Act.put, List.setIfInBounds_toArray, List.set_cons_succ, List.set_cons_zero, decide_true]; go_big_quiet_on)
    | (go_big_quiet_op; go_big_quiet_on)))
  go_big_quiet_want; go_big_quiet_op
  refine ⟨_, fun _ => since_of (HC1.out _), ?_⟩
  go_big_quiet_on
  repeat (first | go_big_quiet_skip | (go_big_quiet_want; first
    | (refine quiet_load_hash _ rfl rfl (by assumption) ?_; simp only [Act.put, List.setIfInBounds_toArray, List.set_cons_succ, List.set_cons_zero]; go_big_quiet_on)
    | (refine quiet_eq _ _ rfl rfl rfl HPL.out HPL.out ?_; simp only [Act.put, List.setIfInBounds_toArray, List.set_cons_succ, List.set_cons_zero, decide_true]; go_big_quiet_on)
    | (go_big_quiet_op; go_big_quiet_on)))
  go_big_quiet_want; go_big_quiet_op
  refine ⟨_, fun _ => since_of (HC2.out _), ?_⟩
  go_big_quiet_on
  repeat (first | go_big_quiet_skip | (go_big_quiet_want; first
    | (refine quiet_load_hash _ rfl rfl (by assumption) ?_; simp only [Act.put, List.setIfInBounds_toArray, List.set_cons_succ, List.set_cons_zero]; go_big_quiet_on)
    | (refine quiet_eq _ _ rfl rfl rfl HPL.out HPL.out ?_; simp only [Act.put, List.setIfInBounds_toArray, List.set_cons_succ, List.set_cons_zero, decide_true]; go_big_quiet_on)
    | (go_big_quiet_op; go_big_quiet_on)))
  refine wpQuiet_nil ?_
  intro w4 hw4
  go_wp2_with fail
  go_ret
  exact ⟨rfl, later b3 hw4⟩
end Go.Proofs.Ytikphhhkikdhaaa
