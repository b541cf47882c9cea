/- The row of BlockKnown: the law returns true for every input; by the walk in YtbbfnpfkbbpjgaaGreatBlockKnown. No condition. -/
import Derived.Test.YtbbfnpfkbbpjgaaGreatQCMBase
import Derived.Test.YtbbfnpfkbbpjgaaGreatQCRowBlockPuts
import Derived.Lib.SmallJoins
import Derived.SliceStrings
import Derived.Test.YtbbfnpfkbbpjgaaGreatQCBlkX
import Derived.Test.YtbbfnpfkbbpjgaaGreatQCBkR4
namespace Go.Proofs.YtbbfnpfkbbpjgaaGreat.blockKnown
open Go.ChangeShapes Go.WideShapes Go.ChangeAt Go.RowKit Go.WideMaps Go.WideElems
open Go.ChangeMaps (open_string)
set_option linter.unusedVariables false

set_option maxRecDepth 100000 in
theorem lifted (os : Os) (started : os.Started) (H : Type) (enc : TypeId × Value → H) :
  ReturnsInHanded {} Tryz.checked os 8 .any (Rows.blockKnownSpec.pre6 enc Tryz.prog Tryz.f8 Rows.blockKnownRow.domain false) (Rows.blockKnownSpec.post enc Tryz.prog Tryz.f8 false true false false) := by
 refine returnsInHanded_of_change (C := Tryz.checked) ownsKnob started (by kernel_rfl) Tryz.func8
  (ChangeSpec.witness6 (enc := enc) (C := Tryz.checked) false ⟨#[], #[], []⟩ 8 (by kernel_rfl) (by kernel_rfl) (by kernel_rfl) (by kernel_rfl)) ?_
 intro W base args ds gs before hval0 hW hcnd _
 have hval : ∀ (j : Nat) t v, Tryz.f8.params[j]? = some t → args[j]? = some v → Value.okWide Tryz.prog W .any base t v := hval0
 have hW' := hW
 obtain ⟨p, q, hA0, hV, rfl, hfz, hnd⟩ := hW
 have hA : DataW.TrodAll enc Tryz.prog W 0 (fun _ => true) true Tryz.f8.params.toList args.toList ds p := hA0
 rw [Tryz.params8] at hA hval
 obtain ⟨rfl, rfl, rfl⟩ := trodAll_none hA
 obtain ⟨rfl, rfl⟩ := trodVars_none hV
 refine (blockKnown_any  W).mono fun e W' ⟨he, hb⟩ => ?_
 subst he
 exact ⟨_, rfl, j5e isLaidOut (by kernel_rfl) (by kernel_rfl) Tryz.underlying4 rfl hW' hb ⟨rfl, rfl, rfl⟩⟩

theorem over : Rows.blockKnownRow.holds Tryz.pinned (OpenSpec.ofChange Rows.blockKnownSpec) :=
 OpenClaim.holds_of_wide 8 Tryz.f8 rfl rfl rfl rfl rfl rfl rfl ⟨rfl, rfl, rfl, rfl, rfl⟩ rfl rfl rfl rfl rfl (by kernel_rfl) Tryz.func8 (by kernel_rfl)
  (of_decide_eq_true (by kernel_rfl)) (by unfold Func.isWrapper; first | (rw [if_pos (by decide +kernel)]; kernel_rfl) | (rw [if_neg (by decide +kernel)]; exact ⟨rfl, rfl⟩))
  (fun os started H enc _ => lifted os started H enc)

theorem proved : Rows.BlockKnownSaid :=
 over
#print axioms proved
end Go.Proofs.YtbbfnpfkbbpjgaaGreat.blockKnown

/- BlockBack: a block is taken as it was put; bytes are put as they were taken. -/
namespace Go.Proofs.YtbbfnpfkbbpjgaaGreat
open Go.RowKit Go.Lib
set_option linter.unusedVariables false
set_option linter.unusedSimpArgs false

theorem texts_small : ∀ (l : List Deed), (l.flatMap fun d => putText (fullL d)).length ≤ sizB l + 10 * l.length
 | [] => by simp
 | d :: l => by
  have h1 := texts_small l
  have h2 := q4l (fullL d)
  rw [List.flatMap_cons, List.length_append, List.length_cons]
  unfold sizB at h1 ⊢
  rw [List.map_cons, List.sum_cons]
  omega
theorem putB_small {x : Blk} (ok : x.Ok) (h : mayB x = true) : (putB x).length ≤ 100000 := by
 simp only [mayB, fewB, Bool.and_eq_true, decide_eq_true_eq] at h
 obtain ⟨h1, h2, h3, h4⟩ := h
 have hl := q4r ok.head h1
 have h5 := q0h x.deeds.length
 have h6 := texts_small x.deeds
 unfold putB
 rw [List.length_append, List.length_append, hl]
 omega
theorem mayB_fit {x : Blk} (ok : x.Ok) (h : mayB x = true) : ∀ d ∈ x.deeds, d.Fit := fun d hd => by
 simp only [mayB, fewB, Bool.and_eq_true, List.all_eq_true] at h
 exact x5x (q5s (ok.deeds d hd) (h.2.1 d hd))
theorem mayB_length {x : Blk} (h : mayB x = true) : x.deeds.length ≤ 16 := by
 simp only [mayB, fewB, Bool.and_eq_true, decide_eq_true_eq] at h
 exact h.2.2.1
/-- What is done with the bytes s: the third part of the law. -/
theorem blockBack_two (s : ByteArray) (hs : s.size ≤ 65536) (w : World) (v : Value) (h : BlkIs w v (takB s.data.toList).1) :
  (takB s.data.toList).2 = 0 → Calls Tryz.prog 31 #[v] w fun e w' => e = .returned (.tuple #[.string s, .int .i64 0]) ∧ Below w.heap.size w w' := by
 intro h0
 obtain ⟨hm, ok, he⟩ := z1k h0
 have := j1w v _ w h (Nat.le_trans (mayB_length hm) (by decide)) (mayB_fit ok hm)
 rw [if_pos hm, if_pos hm, ← he] at this
 exact this
set_option maxRecDepth 100000 in
set_option maxHeartbeats 3200000 in
theorem blockBack_any (w : World) (v : Value) (x : Blk) (h : BlkIs w v x) (hf : ∀ d ∈ x.deeds, d.Fit) (hn : x.deeds.length ≤ 9223372036854775807) (s : ByteArray) (hsz : s.size ≤ maxLen) :
  Calls Tryz.prog 6 #[v, .string s] w fun e w' => e = .returned (.bool true) ∧ Below w.heap.size w w' := by
 have HG := hide (fun (w' : World) (hb : Below w.heap.size w w') => j3n v x w' (h.later hb) hf hn)
 have HP := hide (fun (hk : x.deeds.length ≤ 60) (w' : World) (hb : Below w.heap.size w w') => j1w v x w' (h.later hb) (by omega) hf)
 have HW := hide works15
 have HS1 := hide (fun (v u : Value) (w : World) (h : BlkIs w v x) (k : BlkIs w u x) => j7u v u x x w h k)
 have HS2 := hide (fun (v u : Value) (w : World) (h : BlkIs w v blk0) (k : BlkIs w u blk0) => j7u v u blk0 blk0 w h k)
 simp only [j6q] at HS1 HS2
 have ok := h.ok
 have J0 := h
 obtain ⟨u, rfl, hD, hok⟩ := h
 have o1 : u.oneCell' = true := by obtain ⟨a, c, rfl⟩ := hD.shape; rfl
 have HOK := hide hok
 have b := Below.refl w.heap.size w
 have B0 := hide blkBuilt0
 by_cases hs : (65536 : Int) < (s.size : Int)
 ·have cc := decide_eq_true hs
  clear hD hf hn hok ok hs J0 HS1 HS2 HP
  have mF2 := True.intro
  go_enter Tryz.func6, Tryz.ntmps6
  go_wp2_with (first | (with_reducible refine w2g ?_; clear mF2; refine q0k rfl _ rfl rfl HOK.out o1 ?_; intro _ g2 hg2 F2 hb; replace b := later b hb; clear hb) | (with_reducible refine w15g ?_; first | refine q0m rfl _ rfl rfl F2 ?_) | (go_at_call 30; refine (HG.out _ b).mono ?_; rintro _ _ ⟨⟨B, rfl, hB⟩, hc⟩; replace F2 := F2.later hc; replace b := later b hc; clear hc; cases B) | (go_at_call 24; refine (HW.out _).mono ?_; rintro _ _ ⟨rfl, hc⟩; replace b := later b hc; clear hc))
  all_goals
   go_ret
   exact ⟨rfl, b⟩
 ·have cc := decide_eq_false hs
  have HT2 := hide (fun w => q9m s w (by omega))
  by_cases hm : mayB x = true
  ·rw [if_pos hm, if_pos hm] at HP
   obtain ⟨sS, hsS⟩ : ∃ t : ByteArray, t = ⟨(putB x).toArray⟩ := ⟨_, rfl⟩
   have hz : sS.size ≤ 100000 := by rw [hsS]; show (putB x).toArray.size ≤ 100000; rw [List.size_toArray]; exact putB_small ok hm
   have hl : sS.data.toList = putB x := by rw [hsS]
   have HT1 : Hid (∀ w, Calls Tryz.prog 27 #[.string sS] w fun e w' => (∃ v, e = .returned (.tuple #[v, .int .i64 0]) ∧ BlkIs w' v x) ∧ Below w.heap.size w w') := fun w => by
    have := q9m sS w (by omega)
    rwa [hl, x1c ok hm] at this
   rw [← hsS] at HP
   have hs64 : s.size ≤ 65536 := by omega
   clear hs hD hf hn hok hm ok hsS hz hl
   by_cases h0 : (takB s.data.toList).2 = 0
   ·have HP2 := hide (fun w v h => blockBack_two s hs64 w v h h0)
    rw [h0] at HT2
    clear h0 hs64
    generalize (takB s.data.toList).1 = X at *
    have mF2 := True.intro
    have mF7 := True.intro
    have mF9 := True.intro
    go_enter Tryz.func6, Tryz.ntmps6
    go_wp2_with (first | (with_reducible refine w2g ?_; clear mF2; refine q0k rfl _ rfl rfl HOK.out o1 ?_; intro _ g2 hg2 F2 hb; replace b := later b hb; clear hb) | (with_reducible refine w15g ?_; first | refine q0m rfl _ rfl rfl F2 ?_ | refine q0m rfl _ rfl rfl F9 ?_ | refine q0m rfl _ rfl rfl F7 ?_) | (go_at_call 30; refine (HG.out _ b).mono ?_; rintro _ _ ⟨⟨B, rfl, hB⟩, hc⟩; replace F2 := F2.later hc; replace b := later b hc; clear hc; cases B) | (go_at_call 24; refine (HW.out _).mono ?_; rintro _ _ ⟨rfl, hc⟩; replace b := later b hc; clear hc) | (go_at_call 27; (with_reducible show Calls _ _ #[.string sS] _ _); refine (HT1.out _).mono ?_; rintro _ _ ⟨⟨v7, rfl, I7⟩, hc⟩; have J7 := I7; obtain ⟨u7, rfl, D7, ok7⟩ := I7; have o7 : u7.oneCell' = true := (by obtain ⟨a, c, rfl⟩ := D7.shape; rfl); clear D7; replace F2 := F2.later hc; replace b := later b hc; clear hc) | (with_reducible refine w3g ?_; clear mF7; refine q1f rfl rfl ?_; intro _ g7 hg7 F7 ha) | ((with_reducible refine w4g ?_); refine q0r rfl _ _ rfl rfl rfl ok7 o7 F7 ?_; intro _ t1 ht1; have hb := q0b ha ht1 hg7 (Nat.le_refl _); clear F7; have F7 := t1; clear t1 ha ht1; replace F2 := F2.later hb; replace J7 := J7.later hb; replace b := later b hb; clear hb) | (go_at_call 29; refine (HS1.out _ _ _ (J0.later b) J7).mono ?_; rintro _ _ ⟨rfl, hc⟩; replace F2 := F2.later hc; replace F7 := F7.later hc; replace b := later b hc; clear hc J0 J7) | (go_at_call 31; (with_reducible show Calls _ _ #[blkV x.head u] _ _); refine (HP.out (by simpa using hB) _ b).mono ?_; rintro _ _ ⟨rfl, hc⟩; replace F2 := F2.later hc; replace b := later b hc; clear hc) | (go_at_call 27; (with_reducible show Calls _ _ #[.string s] _ _); refine (HT2.out _).mono ?_; rintro _ _ ⟨⟨v9, rfl, I9⟩, hc⟩; have J9 := I9; obtain ⟨u9, rfl, D9, ok9⟩ := I9; have o9 : u9.oneCell' = true := (by obtain ⟨a, c, rfl⟩ := D9.shape; rfl); clear D9; (try replace F2 := F2.later hc); (try replace F7 := F7.later hc); replace b := later b hc; clear hc) | (with_reducible refine w3g ?_; clear mF9; refine q1f rfl rfl ?_; intro _ g9 hg9 F9 ha) | ((with_reducible refine w4g ?_); refine q0r rfl _ _ rfl rfl rfl ok9 o9 F9 ?_; intro _ t1 ht1; have hb := q0b ha ht1 hg9 (Nat.le_refl _); clear F9; have F9 := t1; clear t1 ha ht1; (try replace F2 := F2.later hb); (try replace F7 := F7.later hb); replace J9 := J9.later hb; replace b := later b hb; clear hb) | (go_at_call 31; (with_reducible show Calls _ _ #[blkV _ u9] _ _); refine (HP2.out _ _ J9).mono ?_; rintro _ _ ⟨rfl, hc⟩; replace b := later b hc; clear hc))
    all_goals
     go_ret
     exact ⟨by simp, b⟩
   ·rw [x6y h0] at HT2
    clear h0 hs64
    have mF2 := True.intro
    have mF7 := True.intro
    have mF9 := True.intro
    go_enter Tryz.func6, Tryz.ntmps6
    go_wp2_with (first | (with_reducible refine w2g ?_; clear mF2; refine q0k rfl _ rfl rfl HOK.out o1 ?_; intro _ g2 hg2 F2 hb; replace b := later b hb; clear hb) | (with_reducible refine w15g ?_; first | refine q0m rfl _ rfl rfl F2 ?_ | refine q0m rfl _ rfl rfl F9 ?_ | refine q0m rfl _ rfl rfl F7 ?_) | (go_at_call 30; refine (HG.out _ b).mono ?_; rintro _ _ ⟨⟨B, rfl, hB⟩, hc⟩; replace F2 := F2.later hc; replace b := later b hc; clear hc; cases B) | (go_at_call 24; refine (HW.out _).mono ?_; rintro _ _ ⟨rfl, hc⟩; replace b := later b hc; clear hc) | (go_at_call 27; (with_reducible show Calls _ _ #[.string sS] _ _); refine (HT1.out _).mono ?_; rintro _ _ ⟨⟨v7, rfl, I7⟩, hc⟩; have J7 := I7; obtain ⟨u7, rfl, D7, ok7⟩ := I7; have o7 : u7.oneCell' = true := (by obtain ⟨a, c, rfl⟩ := D7.shape; rfl); clear D7; replace F2 := F2.later hc; replace b := later b hc; clear hc) | (with_reducible refine w3g ?_; clear mF7; refine q1f rfl rfl ?_; intro _ g7 hg7 F7 ha) | ((with_reducible refine w4g ?_); refine q0r rfl _ _ rfl rfl rfl ok7 o7 F7 ?_; intro _ t1 ht1; have hb := q0b ha ht1 hg7 (Nat.le_refl _); clear F7; have F7 := t1; clear t1 ha ht1; replace F2 := F2.later hb; replace J7 := J7.later hb; replace b := later b hb; clear hb) | (go_at_call 29; refine (HS1.out _ _ _ (J0.later b) J7).mono ?_; rintro _ _ ⟨rfl, hc⟩; replace F2 := F2.later hc; replace F7 := F7.later hc; replace b := later b hc; clear hc J0 J7) | (go_at_call 31; (with_reducible show Calls _ _ #[blkV x.head u] _ _); refine (HP.out (by simpa using hB) _ b).mono ?_; rintro _ _ ⟨rfl, hc⟩; replace F2 := F2.later hc; replace b := later b hc; clear hc) | (go_at_call 27; (with_reducible show Calls _ _ #[.string s] _ _); refine (HT2.out _).mono ?_; rintro _ _ ⟨⟨v9, rfl, I9⟩, hc⟩; have J9 := I9; obtain ⟨u9, rfl, D9, ok9⟩ := I9; have o9 : u9.oneCell' = true := (by obtain ⟨a, c, rfl⟩ := D9.shape; rfl); clear D9; (try replace F2 := F2.later hc); (try replace F7 := F7.later hc); replace b := later b hc; clear hc) | (with_reducible refine w3g ?_; clear mF9; refine q1f rfl rfl ?_; intro _ g9 hg9 F9 ha) | ((with_reducible refine w4g ?_); refine q0r rfl _ _ rfl rfl rfl ok9 o9 F9 ?_; intro _ t1 ht1; have hb := q0b ha ht1 hg9 (Nat.le_refl _); clear F9; have F9 := t1; clear t1 ha ht1; (try replace F2 := F2.later hb); (try replace F7 := F7.later hb); replace J9 := J9.later hb; replace b := later b hb; clear hb) | ((with_reducible refine w17g ?_); refine q1i rfl 51 rfl (cs := blkCs hd0 nilD) B0.out ?_) | (go_at_call 29; refine (HS2.out _ _ _ J9 (blk0Is _)).mono ?_; rintro _ _ ⟨rfl, hc⟩; replace b := later b hc; clear hc))
    all_goals
     go_ret
     exact ⟨by simp, b⟩
  ·rw [if_neg hm, if_neg hm] at HP
   have hs64 : s.size ≤ 65536 := by omega
   clear hs hD hf hn hok hm ok J0
   by_cases h0 : (takB s.data.toList).2 = 0
   ·have HP2 := hide (fun w v h => blockBack_two s hs64 w v h h0)
    rw [h0] at HT2
    clear h0 hs64
    generalize (takB s.data.toList).1 = X at *
    have mF2 := True.intro
    have mF9 := True.intro
    go_enter Tryz.func6, Tryz.ntmps6
    go_wp2_with (first | (with_reducible refine w2g ?_; clear mF2; refine q0k rfl _ rfl rfl HOK.out o1 ?_; intro _ g2 hg2 F2 hb; replace b := later b hb; clear hb) | (with_reducible refine w15g ?_; first | refine q0m rfl _ rfl rfl F2 ?_ | refine q0m rfl _ rfl rfl F9 ?_) | (go_at_call 30; refine (HG.out _ b).mono ?_; rintro _ _ ⟨⟨B, rfl, hB⟩, hc⟩; replace F2 := F2.later hc; replace b := later b hc; clear hc; cases B) | (go_at_call 24; refine (HW.out _).mono ?_; rintro _ _ ⟨rfl, hc⟩; replace b := later b hc; clear hc) | (go_at_call 31; (with_reducible show Calls _ _ #[blkV x.head u] _ _); refine (HP.out (by simpa using hB) _ b).mono ?_; rintro _ _ ⟨rfl, hc⟩; replace F2 := F2.later hc; replace b := later b hc; clear hc) | (go_at_call 27; (with_reducible show Calls _ _ #[.string s] _ _); refine (HT2.out _).mono ?_; rintro _ _ ⟨⟨v9, rfl, I9⟩, hc⟩; have J9 := I9; obtain ⟨u9, rfl, D9, ok9⟩ := I9; have o9 : u9.oneCell' = true := (by obtain ⟨a, c, rfl⟩ := D9.shape; rfl); clear D9; (try replace F2 := F2.later hc); replace b := later b hc; clear hc) | (with_reducible refine w3g ?_; clear mF9; refine q1f rfl rfl ?_; intro _ g9 hg9 F9 ha) | ((with_reducible refine w4g ?_); refine q0r rfl _ _ rfl rfl rfl ok9 o9 F9 ?_; intro _ t1 ht1; have hb := q0b ha ht1 hg9 (Nat.le_refl _); clear F9; have F9 := t1; clear t1 ha ht1; (try replace F2 := F2.later hb); replace J9 := J9.later hb; replace b := later b hb; clear hb) | (go_at_call 31; (with_reducible show Calls _ _ #[blkV _ u9] _ _); refine (HP2.out _ _ J9).mono ?_; rintro _ _ ⟨rfl, hc⟩; replace b := later b hc; clear hc))
    all_goals
     go_ret
     exact ⟨by simp, b⟩
   ·rw [x6y h0] at HT2
    clear h0 hs64
    have mF2 := True.intro
    have mF9 := True.intro
    go_enter Tryz.func6, Tryz.ntmps6
    go_wp2_with (first | (with_reducible refine w2g ?_; clear mF2; refine q0k rfl _ rfl rfl HOK.out o1 ?_; intro _ g2 hg2 F2 hb; replace b := later b hb; clear hb) | (with_reducible refine w15g ?_; first | refine q0m rfl _ rfl rfl F2 ?_ | refine q0m rfl _ rfl rfl F9 ?_) | (go_at_call 30; refine (HG.out _ b).mono ?_; rintro _ _ ⟨⟨B, rfl, hB⟩, hc⟩; replace F2 := F2.later hc; replace b := later b hc; clear hc; cases B) | (go_at_call 24; refine (HW.out _).mono ?_; rintro _ _ ⟨rfl, hc⟩; replace b := later b hc; clear hc) | (go_at_call 31; (with_reducible show Calls _ _ #[blkV x.head u] _ _); refine (HP.out (by simpa using hB) _ b).mono ?_; rintro _ _ ⟨rfl, hc⟩; replace F2 := F2.later hc; replace b := later b hc; clear hc) | (go_at_call 27; (with_reducible show Calls _ _ #[.string s] _ _); refine (HT2.out _).mono ?_; rintro _ _ ⟨⟨v9, rfl, I9⟩, hc⟩; have J9 := I9; obtain ⟨u9, rfl, D9, ok9⟩ := I9; have o9 : u9.oneCell' = true := (by obtain ⟨a, c, rfl⟩ := D9.shape; rfl); clear D9; (try replace F2 := F2.later hc); replace b := later b hc; clear hc) | (with_reducible refine w3g ?_; clear mF9; refine q1f rfl rfl ?_; intro _ g9 hg9 F9 ha) | ((with_reducible refine w4g ?_); refine q0r rfl _ _ rfl rfl rfl ok9 o9 F9 ?_; intro _ t1 ht1; have hb := q0b ha ht1 hg9 (Nat.le_refl _); clear F9; have F9 := t1; clear t1 ha ht1; (try replace F2 := F2.later hb); replace J9 := J9.later hb; replace b := later b hb; clear hb) | ((with_reducible refine w17g ?_); refine q1i rfl 51 rfl (cs := blkCs hd0 nilD) B0.out ?_) | (go_at_call 29; refine (HS2.out _ _ _ J9 (blk0Is _)).mono ?_; rintro _ _ ⟨rfl, hc⟩; replace b := later b hc; clear hc))
    all_goals
     go_ret
     exact ⟨by simp, b⟩
end Go.Proofs.YtbbfnpfkbbpjgaaGreat
