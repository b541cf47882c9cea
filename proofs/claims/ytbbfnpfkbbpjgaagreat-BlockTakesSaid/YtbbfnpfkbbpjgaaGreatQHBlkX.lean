/- Layer 15: that a block goes there and back: works. -/
import Derived.Test.YtbbfnpfkbbpjgaaGreatQHBlkV
import Derived.Test.YtbbfnpfkbbpjgaaGreatQHBkR4
import Derived.Test.YtbbfnpfkbbpjgaaGreatQHBuilderS
import Derived.Test.YtbbfnpfkbbpjgaaGreatQHBlk8
import Derived.Test.YtbbfnpfkbbpjgaaGreatQHBkR1
import Derived.Test.YtbbfnpfkbbpjgaaGreatQHBkR3
namespace Go.Proofs.YtbbfnpfkbbpjgaaGreat
open Go.RowKit Go.Lib
set_option linter.unusedVariables false
set_option linter.unusedSimpArgs false
set_option maxRecDepth 100000
set_option maxHeartbeats 4000000
theorem j3i {o : Oper} {a : Act} {K : Act → Prop} {w0 : World} {g : Nat} {d : Hd} {v : Value} (x : Operand) (ho : o.op = .load 51 x) (hx : a.eval x = .pointer (some ⟨g, 0, none⟩)) (h : KAt w0 g d v) (hk : K (a.put o.dst (blkV d v))) :
  o.quiet Tryz.prog a (fun w' => ∃ s : Kept (fun x => Below w0.heap.size w0 x), w' = s.w) K :=
 q7z 51 x ho hx h.cells _ Tryz.underlying51 rfl (by rw [q2p v h.ok]; exact blkSize) hk
theorem j9d : mayH hdOne = true := by decide +kernel
theorem x3h : fewB blkOne.deeds = true := by
 show fewB [smallD] = true
 unfold fewB sizB
 rw [Bool.and_eq_true, Bool.and_eq_true]
 refine ⟨by simp [x3d], by simp, ?_⟩
 simp only [List.map_cons, List.map_nil, List.sum_cons, List.sum_nil, q8n]
 decide
theorem j1k : mayB blkOne = true := by
 unfold mayB
 rw [x3h, show mayH blkOne.head = true from j9d]
 rfl
theorem x4e : sizB blkOne.deeds = 41 := by
 show sizB [smallD] = 41
 unfold sizB
 simp only [List.map_cons, List.map_nil, List.sum_cons, List.sum_nil, q8n, Nat.add_zero]
theorem j9a : fitB blkOne = false := by
 unfold fitB
 rw [x4e]
 rw [show decide (blkOne.head.size = 41) = false from rfl, Bool.false_and, Bool.and_false, Bool.and_false]
theorem x2q : (putB blkOne).length = 2363 := by
 have h1 := q8w blkOne_ok.head j9d
 unfold putB
 rw [List.length_append, h1]
 show 2320 + (putL 1 ++ [smallD].flatMap fun d => putText (fullL d)).length = 2363
 rw [List.flatMap_cons, List.flatMap_nil, List.append_nil]
 unfold putText
 rw [q8n, List.length_append, List.length_append, q8n]
 decide
theorem j4w : ∀ d ∈ blkOne.deeds, d.Fit := by intro d hd; simp [blkOne] at hd; subst hd; exact x3q
theorem j8f (x : Blk) : samB x x = true := (z2o x x).2 rfl
theorem works15 (w : World) : Calls Tryz.prog 24 #[] w fun e w' => e = .returned (.bool true) ∧ Below w.heap.size w w' := by
 obtain ⟨sS, hsS⟩ : ∃ s : ByteArray, s = ⟨(putB blkOne).toArray⟩ := ⟨_, rfl⟩
 have hz : sS.size = 2363 := by rw [hsS]; show (putB blkOne).toArray.size = 2363; rw [List.size_toArray]; exact x2q
 have hl : sS.data.toList = putB blkOne := by rw [hsS]
 have HO := hide x6m
 have HP := hide (fun v w (h : BlkIs w v blkOne) => x8j v blkOne w h (by decide) j4w)
 rw [if_pos j1k, if_pos j1k, ← hsS] at HP
 have HTK : Hid (∀ w, Calls Tryz.prog 27 #[.string sS] w fun e w' => (∃ v, e = .returned (.tuple #[v, .int .i64 0]) ∧ BlkIs w' v blkOne) ∧ Below w.heap.size w w') := fun w => by
  have := j8d sS w (by omega)
  rwa [hl, x9c blkOne_ok j1k] at this
 have HSA := hide (fun v u w (h : BlkIs w v blkOne) (k : BlkIs w u blkOne) => x7a v u blkOne blkOne w h k)
 rw [j8f] at HSA
 have HF := hide (fun v w (h : BlkIs w v blkOne) => x7t v blkOne w h (by decide) j4w)
 rw [j9a] at HF
 have c41 : ((sS.size : Int) == 2363) = true := by rw [hz]; rfl
 have b := Below.refl w.heap.size w
 clear hsS hl hz
 generalize blkOne = X at *
 have mF3 := True.intro
 go_enter Tryz.func24, Tryz.ntmps24
 go_wp2_with (first | (go_at_call 39; refine (HO.out _).mono ?_; rintro _ _ ⟨⟨v0, rfl, I0⟩, hc⟩; replace b := later b hc; clear hc) | (go_at_call 31; refine (HP.out _ _ I0).mono ?_; rintro _ _ ⟨rfl, hc⟩; replace b := later b hc; clear hc I0) | (go_at_call 27; go_loud (refine (HTK.out _).mono ?_; rintro _ _ ⟨⟨v1, rfl, I1⟩, hc⟩; have J1 := I1; obtain ⟨u1, rfl, D1, ok1⟩ := I1; have o1 : u1.oneCell' = true := (by obtain ⟨a, c, rfl⟩ := D1.shape; rfl); clear D1; replace b := later b hc; clear hc)) | (with_reducible refine w3g ?_; clear mF3; refine q0z rfl rfl ?_; intro _ g3 hg3 F3 ha) | ((with_reducible refine w4g ?_); refine q0j rfl _ _ rfl rfl rfl ok1 o1 F3 ?_; intro _ t1 ht1; have hb := q0b ha ht1 hg3 (Nat.le_refl _); clear F3; have F3 := t1; clear t1 ha ht1; replace J1 := J1.later hb; replace b := later b hb; clear hb) | (with_reducible show Code.wp _ (Code.region _ _ true) _ _ _; fail))
 refine q1m (fun x => Below _ _ x) (.one [0, 1, 2, 3, 4, 5, 6, 7, 8] 9 (.fl [] 10 (.fl [11, 12, 13, 14, 15, 16, 17] 18 (.stop [19, 20, 21])))) (by kernel_rfl) (by kernel_rfl) (by kernel_rfl) (by decide) (q3h (Nat.le_refl _)) (Below.refl _ _) ?_
 intro _ _ _ _
 refine q0w ?_
 simp only [pickOps, opAt, List.getElem?_cons_succ, List.getElem?_cons_zero, List.nil_append, List.cons_append]
 repeat ((go_big_quiet_want; first | ((with_reducible refine w28g ?_); first | (refine j3i _ rfl rfl F3 ?_; simp only [pS]; go_big_quiet_on)) | (go_big_quiet_op; first | go_big_quiet_on)))
 refine wpQuiet_nil ?_
 intro _ hb k
 replace F3 := F3.later k
 replace J1 := J1.later k
 replace b := later b k
 go_wp2_with (go_at_call 39; refine (HO.out _).mono ?_; rintro _ _ ⟨⟨v3, rfl, I3⟩, hc⟩; replace k := later k hc; replace F3 := F3.later hc; replace J1 := J1.later hc; replace b := later b hc; clear hc)
 refine q6y (q3h (Nat.le_refl _)) k ?_
 clear hb k
 refine q7m ?_
 simp only [pickOps, opAt, List.getElem?_cons_succ, List.getElem?_cons_zero, List.nil_append, List.cons_append]
 repeat (fail)
 refine wpQuiet_nil ?_
 refine q7p (by rfl) rfl (by kernel_rfl) (by simp only [List.map_toArray, List.map_cons, List.map_nil] <;> rfl) (fun w' hC => HSA.out _ _ _ (J1.later (Kl.out hC)) (I3.later (Kl.out hC))) ?_
 simp only [pS]
 refine q7m ?_
 simp only [pickOps, opAt, List.getElem?_cons_succ, List.getElem?_cons_zero, List.nil_append, List.cons_append]
 repeat ((go_big_quiet_want; first | ((with_reducible refine w28g ?_); first | (refine j3i _ rfl rfl F3 ?_; simp only [pS]; go_big_quiet_on)) | (go_big_quiet_op; first | go_big_quiet_on)))
 refine wpQuiet_nil ?_
 refine q7p (by rfl) rfl (by kernel_rfl) (by simp only [List.map_toArray, List.map_cons, List.map_nil] <;> rfl) (fun w' hC => HF.out _ _ (J1.later (Kl.out hC))) ?_
 simp only [pS]
 refine q2l ?_
 simp only [pickOps, opAt, List.getElem?_cons_succ, List.getElem?_cons_zero, List.nil_append, List.cons_append]
 repeat ((go_big_quiet_want; first | (go_big_quiet_op; first | go_big_quiet_on)))
 refine wpQuiet_nil ?_
 intro _ hb k
 replace b := later b k
 go_wp2_with fail
 go_ret
 exact ⟨rfl, b⟩
theorem j4q (s : ByteArray) (_ : s.size ≤ maxLen) (w : World) :
  Calls Tryz.prog 5 #[.string s] w fun e w' => e = .returned (.bool true) ∧ Below w.heap.size w w' := by
 have HW := hide works15
 have b := Below.refl w.heap.size w
 by_cases hs : (65536 : Int) < (s.size : Int)
 ·have cc := decide_eq_true hs
  go_enter Tryz.func5, Tryz.ntmps5
  go_wp2_with ((go_at_call 24; refine (HW.out _).mono ?_; rintro _ _ ⟨rfl, hc⟩; (try replace b := later b hc); clear hc))
  go_ret
  exact ⟨rfl, b⟩
 ·have cc := decide_eq_false hs
  have HT := hide (fun w => j8d s w (by omega))
  have HR := hide (fun w => x5d s w (by omega))
  have HS := hide (fun (v u : Value) (x : Blk) (w : World) (h : BlkIs w v x) (k : BlkIs w u x) => x7n v u x x w h k)
  simp only [j8f] at HS
  generalize (takB s.data.toList).2 = c at *
  generalize (takB s.data.toList).1 = X at *
  clear hs
  have mF3 := True.intro
  have mF5 := True.intro
  go_enter Tryz.func5, Tryz.ntmps5
  go_wp2_with (first | (go_at_call 27; refine (HT.out _).mono ?_; rintro _ _ ⟨⟨v1, rfl, I1⟩, hc⟩; have J1 := I1; obtain ⟨u1, rfl, D1, ok1⟩ := I1; have o1 : u1.oneCell' = true := (by obtain ⟨a, c, rfl⟩ := D1.shape; rfl); clear D1; replace b := later b hc; clear hc) | (go_at_call 28; refine (HR.out _).mono ?_; rintro _ _ ⟨⟨v2, rfl, I2⟩, hc⟩; have J2 := I2; obtain ⟨u2, rfl, D2, ok2⟩ := I2; have o2 : u2.oneCell' = true := (by obtain ⟨a, c, rfl⟩ := D2.shape; rfl); clear D2; replace J1 := J1.later hc; replace F3 := F3.later hc; replace b := later b hc; clear hc) | (with_reducible refine w3g ?_; first | (clear mF3; refine q0z rfl rfl ?_; intro _ g3 hg3 F3 ha) | (clear mF5; refine q0z rfl rfl ?_; have q3 := F3.lt; intro _ g5 hg5 F5 ha)) | ((with_reducible refine w4g ?_); first | (refine q0j rfl _ _ rfl rfl rfl ok2 o2 F5 ?_; intro _ t1 ht1; have hb := q0b ha ht1 hg5 (Nat.le_refl _); clear F5; have F5 := t1; clear t1 ha ht1; replace F3 := F3.later hb; replace J1 := J1.later hb; replace J2 := J2.later hb; replace b := later b hb; clear hb) | (refine q0j rfl _ _ rfl rfl rfl ok1 o1 F3 ?_; intro _ t1 ht1; have hb := q0b ha ht1 hg3 (Nat.le_refl _); clear F3; have F3 := t1; clear t1 ha ht1; replace J1 := J1.later hb; replace b := later b hb; clear hb)) | (with_reducible refine w0g ?_; first | refine q0v rfl _ rfl rfl F3 ?_ | refine q0v rfl _ rfl rfl F5 ?_) | (go_at_call 29; refine (HS.out _ _ _ _ J1 J2).mono ?_; rintro _ _ ⟨rfl, hc⟩; replace b := later b hc; clear hc) | (go_at_call 24; refine (HW.out _).mono ?_; rintro _ _ ⟨rfl, hc⟩; (try replace b := later b hc); clear hc))
  go_ret
  exact ⟨by simp, b⟩
end Go.Proofs.YtbbfnpfkbbpjgaaGreat
