/- Layer 15: that a block goes there and back: works. -/
import Derived.Test.YtbbfnpfkbbpjgaaGreatQCBlkV
import Derived.Test.YtbbfnpfkbbpjgaaGreatQCBkR4
import Derived.Test.YtbbfnpfkbbpjgaaGreatQCBlk5
import Derived.Test.YtbbfnpfkbbpjgaaGreatQCBlk8
import Derived.Test.YtbbfnpfkbbpjgaaGreatQCBkR1
import Derived.Test.YtbbfnpfkbbpjgaaGreatQCBlkS
import Derived.Test.YtbbfnpfkbbpjgaaGreatQCDeed5
import Derived.Test.YtbbfnpfkbbpjgaaGreatQCElCert
import Derived.Test.YtbbfnpfkbbpjgaaGreatQCHdEq
import Derived.Test.YtbbfnpfkbbpjgaaGreatQCBkR2
import Derived.Test.YtbbfnpfkbbpjgaaGreatQCMBase
import Derived.Test.YtbbfnpfkbbpjgaaGreatQCMCells
import Derived.SliceStrings
namespace Go.Proofs.YtbbfnpfkbbpjgaaGreat
open Go.RowKit Go.Lib
set_option linter.unusedVariables false
set_option linter.unusedSimpArgs false
set_option maxRecDepth 100000
set_option maxHeartbeats 4000000
theorem j2b {o : Oper} {a : Act} {K : Act → Prop} {w0 : World} {g : Nat} {d : Hd} {v : Value} (x : Operand) (ho : o.op = .load 51 x) (hx : a.eval x = .pointer (some ⟨g, 0, none⟩)) (h : KAt w0 g d v) (hk : K (a.put o.dst (blkV d v))) :
  o.quiet Tryz.prog a (fun w' => ∃ s : Kept (fun x => Below w0.heap.size w0 x), w' = s.w) K :=
 q8f 51 x ho hx h.cells _ Tryz.underlying51 rfl (by rw [q2o v h.ok]; exact blkSize) hk
theorem blk0Is (w : World) : BlkIs w (blkV hd0 nilD) blk0 := ⟨nilD, rfl, q5f w, q7g⟩
theorem j2z : mayH hdOne = true := by decide +kernel
theorem x3g : fewB blkOne.deeds = true := by
 show fewB [smallD] = true
 unfold fewB sizB
 rw [Bool.and_eq_true, Bool.and_eq_true]
 refine ⟨by simp [x2d], by simp, ?_⟩
 simp only [List.map_cons, List.map_nil, List.sum_cons, List.sum_nil, q8s]
 decide
theorem j0o : mayB blkOne = true := by
 unfold mayB
 rw [x3g, show mayH blkOne.head = true from j2z]
 rfl
theorem x3r : sizB blkOne.deeds = 41 := by
 show sizB [smallD] = 41
 unfold sizB
 simp only [List.map_cons, List.map_nil, List.sum_cons, List.sum_nil, q8s, Nat.add_zero]
theorem j8l : fitB blkOne = false := by
 unfold fitB
 rw [x3r]
 rw [show decide (blkOne.head.size = 41) = false from rfl, Bool.false_and, Bool.and_false, Bool.and_false]
theorem x1u : (putB blkOne).length = 2363 := by
 have h1 := q4r blkOne_ok.head j2z
 unfold putB
 rw [List.length_append, h1]
 show 2320 + (putL 1 ++ [smallD].flatMap fun d => putText (fullL d)).length = 2363
 rw [List.flatMap_cons, List.flatMap_nil, List.append_nil]
 unfold putText
 rw [q8s, List.length_append, List.length_append, q8s]
 decide
theorem j4t : ∀ d ∈ blkOne.deeds, d.Fit := by intro d hd; simp [blkOne] at hd; subst hd; exact x1w
theorem j6q (x : Blk) : samB x x = true := (z0x x x).2 rfl
theorem works15 (w : World) : Calls Tryz.prog 24 #[] w fun e w' => e = .returned (.bool true) ∧ Below w.heap.size w w' := by
 obtain ⟨sS, hsS⟩ : ∃ s : ByteArray, s = ⟨(putB blkOne).toArray⟩ := ⟨_, rfl⟩
 have hz : sS.size = 2363 := by rw [hsS]; show (putB blkOne).toArray.size = 2363; rw [List.size_toArray]; exact x1u
 have hl : sS.data.toList = putB blkOne := by rw [hsS]
 have HO := hide j3r
 have HP := hide (fun v w (h : BlkIs w v blkOne) => j1w v blkOne w h (by decide) j4t)
 rw [if_pos j0o, if_pos j0o, ← hsS] at HP
 have HTK : Hid (∀ w, Calls Tryz.prog 27 #[.string sS] w fun e w' => (∃ v, e = .returned (.tuple #[v, .int .i64 0]) ∧ BlkIs w' v blkOne) ∧ Below w.heap.size w w') := fun w => by
  have := q9m sS w (by omega)
  rwa [hl, x1c blkOne_ok j0o] at this
 have HSA := hide (fun v u w (h : BlkIs w v blkOne) (k : BlkIs w u blkOne) => x5m v u blkOne blkOne w h k)
 rw [j6q] at HSA
 have HF := hide (fun v w (h : BlkIs w v blkOne) => j7l v blkOne w h (by decide) j4t)
 rw [j8l] at HF
 have c41 : ((sS.size : Int) == 2363) = true := by rw [hz]; rfl
 have b := Below.refl w.heap.size w
 clear hsS hl hz
 generalize blkOne = X at *
 have mF3 := True.intro
 go_enter Tryz.func24, Tryz.ntmps24
 go_wp2_with (first | (go_at_call 39; refine (HO.out _).mono ?_; rintro _ _ ⟨⟨v0, rfl, I0⟩, hc⟩; replace b := later b hc; clear hc) | (go_at_call 31; refine (HP.out _ _ I0).mono ?_; rintro _ _ ⟨rfl, hc⟩; replace b := later b hc; clear hc I0) | (go_at_call 27; go_loud (refine (HTK.out _).mono ?_; rintro _ _ ⟨⟨v1, rfl, I1⟩, hc⟩; have J1 := I1; obtain ⟨u1, rfl, D1, ok1⟩ := I1; have o1 : u1.oneCell' = true := (by obtain ⟨a, c, rfl⟩ := D1.shape; rfl); clear D1; replace b := later b hc; clear hc)) | (with_reducible refine w3g ?_; clear mF3; refine q1f rfl rfl ?_; intro _ g3 hg3 F3 ha) | ((with_reducible refine w4g ?_); refine q0r rfl _ _ rfl rfl rfl ok1 o1 F3 ?_; intro _ t1 ht1; have hb := q0b ha ht1 hg3 (Nat.le_refl _); clear F3; have F3 := t1; clear t1 ha ht1; replace J1 := J1.later hb; replace b := later b hb; clear hb) | (with_reducible show Code.wp _ (Code.region _ _ true) _ _ _; fail))
 refine q1d (fun x => Below _ _ x) (.one [0, 1, 2, 3, 4, 5, 6, 7, 8] 9 (.fl [] 10 (.fl [11, 12, 13, 14, 15, 16, 17] 18 (.stop [19, 20, 21])))) (by kernel_rfl) (by kernel_rfl) (by kernel_rfl) (by decide) (q2s (Nat.le_refl _)) (Below.refl _ _) ?_
 intro _ _ _ _
 refine q0s ?_
 simp only [pickOps, opAt, List.getElem?_cons_succ, List.getElem?_cons_zero, List.nil_append, List.cons_append]
 repeat ((go_big_quiet_want; first | ((with_reducible refine w22g ?_); first | (refine j2b _ rfl rfl F3 ?_; simp only [pS]; go_big_quiet_on)) | (go_big_quiet_op; first | go_big_quiet_on)))
 refine wpQuiet_nil ?_
 intro _ hb k
 replace F3 := F3.later k
 replace J1 := J1.later k
 replace b := later b k
 go_wp2_with (go_at_call 39; refine (HO.out _).mono ?_; rintro _ _ ⟨⟨v3, rfl, I3⟩, hc⟩; replace k := later k hc; replace F3 := F3.later hc; replace J1 := J1.later hc; replace b := later b hc; clear hc)
 refine q6c (q2s (Nat.le_refl _)) k ?_
 clear hb k
 refine q7t ?_
 simp only [pickOps, opAt, List.getElem?_cons_succ, List.getElem?_cons_zero, List.nil_append, List.cons_append]
 repeat (fail)
 refine wpQuiet_nil ?_
 refine q7u (by rfl) rfl (by kernel_rfl) (by simp only [List.map_toArray, List.map_cons, List.map_nil] <;> rfl) (fun w' hC => HSA.out _ _ _ (J1.later (Kl.out hC)) (I3.later (Kl.out hC))) ?_
 simp only [pS]
 refine q7t ?_
 simp only [pickOps, opAt, List.getElem?_cons_succ, List.getElem?_cons_zero, List.nil_append, List.cons_append]
 repeat ((go_big_quiet_want; first | ((with_reducible refine w22g ?_); first | (refine j2b _ rfl rfl F3 ?_; simp only [pS]; go_big_quiet_on)) | (go_big_quiet_op; first | go_big_quiet_on)))
 refine wpQuiet_nil ?_
 refine q7u (by rfl) rfl (by kernel_rfl) (by simp only [List.map_toArray, List.map_cons, List.map_nil] <;> rfl) (fun w' hC => HF.out _ _ (J1.later (Kl.out hC))) ?_
 simp only [pS]
 refine q2e ?_
 simp only [pickOps, opAt, List.getElem?_cons_succ, List.getElem?_cons_zero, List.nil_append, List.cons_append]
 repeat ((go_big_quiet_want; first | (go_big_quiet_op; first | go_big_quiet_on)))
 refine wpQuiet_nil ?_
 intro _ hb k
 replace b := later b k
 go_wp2_with fail
 go_ret
 exact ⟨rfl, b⟩
theorem j9a (v : Value) (l : List Deed) (w : World) (h : DsIs w v l) (hf : ∀ d ∈ l, d.Fit) (hn : l.length ≤ 9223372036854775807) :
  Calls Tryz.prog 23 #[v] w fun e w' => (∃ B : Bool, e = .returned (.bool B) ∧ (B = false → l.length ≤ 60)) ∧ Below w.heap.size w w' := by
 obtain ⟨a1, c1, rfl⟩ := h.shape
 obtain ⟨n, hn'⟩ : ∃ n, n = l.length := ⟨_, rfl⟩
 have HN := hide hn'
 have HFT := hide hf
 rw [← hn'] at h hn ⊢
 clear hn' hf
 have b := Below.refl w.heap.size w
 go_enter Tryz.func23, Tryz.ntmps23
 go_wp2_with fail
 go_loopw [3, 10] (fun q i wr => ∃ (k : Nat) (z : Int), i = .int .i64 k ∧ k ≤ n ∧ q = .int .i64 z ∧ Below w.heap.size w wr) (fun _ i _ => n - (RowKit.intOf i).toNat)
 case atStart => exact ⟨0, 0, rfl, by omega, rfl, b⟩
 case round =>
  clear b
  obtain ⟨k, z, rfl, hk, rfl, b⟩ := hrel
  by_cases hlt : k < n
  case pos =>
   obtain ⟨d, hd⟩ : ∃ d, l[k]? = some d := ⟨_, List.getElem?_eq_getElem (by rw [← HN.out]; exact hlt)⟩
   obtain ⟨bb, k0, c', he, _, hcs⟩ := (h.later b).block (by rw [← HN.out]; omega)
   rw [← HN.out] at he
   simp only [Value.slice.injEq] at he
   obtain ⟨rfl, -, rfl⟩ := he
   obtain ⟨v1, v2, v3, v4, v5, d1, hD, o1, o2, o3, o4, o5⟩ := hcs k d hd
   have hft := HFT.out d (List.mem_of_getElem? hd)
   have hm5 := hft.wits
   obtain ⟨y1, y2, y3, y4, y5, he, h1, h2, h3, h4, h5, ok⟩ := hD
   have he' : [v1, v2, v3, v4, v5] = [y1, y2, y3, y4, y5] := by
    simp only [deedV, deedCs, Value.agg.injEq] at he
    simpa using he
   simp only [List.cons.injEq, and_true] at he'
   obtain ⟨rfl, rfl, rfl, rfl, rfl⟩ := he'
   obtain ⟨a1, c1', rfl, -⟩ := h1.shape
   obtain ⟨a2, c2, rfl, -⟩ := h2.shape
   obtain ⟨a3, c3, rfl, -⟩ := h3.shape
   obtain ⟨a4, c4, rfl, -⟩ := h4.shape
   obtain ⟨a5, c5, rfl, -⟩ := h5.shape
   have OKW := hide ok.wits
   obtain ⟨n5, hn5⟩ : ∃ n, n = d.wits.length := ⟨_, rfl⟩
   have HN5 := hide hn5
   rw [← hn5] at o5 hm5 d1 h5
   have k2 := Below.refl wr.heap.size wr
   have qb := b.size
   clear hcs hd hft he hn5 h1 h2 h3 h4 ok
   generalize d.ins.length = n1 at *
   generalize d.outs.length = n2 at *
   generalize d.certs.length = n3 at *
   generalize d.pays.length = n4 at *
   generalize d.fee = f at *
   generalize d.frm = s at *
   generalize d.til = t at *
   have mF1 := True.intro
   have mF2 := True.intro
   go_wp2_with (first | (with_reducible refine w11g ?_; refine q3b rfl _ rfl rfl d1 ?_) | (with_reducible refine w12g ?_; clear mF1; refine q2w rfl rfl ?_; intro _ g1 hg1 F1 hb; replace b := later b hb; replace k2 := later k2 hb; clear hb) | ((with_reducible refine w13g ?_); refine q1z rfl _ _ rfl rfl rfl o1 o2 o3 o4 o5 F1 ?_; intro _ t1 ht1; clear F1; replace b := q0b b ht1 (Nat.le_trans qb hg1) (Nat.le_refl _); replace k2 := q0b k2 ht1 hg1 (Nat.le_refl _); have F1 := t1; clear t1 ht1) | (with_reducible refine w0g ?_; first | refine q0a rfl 22 _ rfl rfl (DAt.c0 F1) (by kernel_rfl) ?_ | refine q0a rfl 23 _ rfl rfl (DAt.c1 F1) (by kernel_rfl) ?_ | refine q0a rfl 25 _ rfl rfl (DAt.c5 F1) (by kernel_rfl) ?_ | refine q0a rfl 26 _ rfl rfl (DAt.c6 F1) (by kernel_rfl) ?_ | refine q0a rfl 27 _ rfl rfl (DAt.c7 F1) (by kernel_rfl) ?_))
   generalize wrap64 (z + wrap64 (wrap64 (wrap64 (wrap64 ((n1 : Int) + (n2 : Int)) + (n3 : Int)) + (n4 : Int)) + (n5 : Int))) = z2
   go_loopw [38] (fun i wr2 => ∃ j : Nat, i = .int .i64 j ∧ j ≤ n5 ∧ Below wr.heap.size wr wr2 ∧ Below w.heap.size w wr2) (fun i _ => n5 - (RowKit.intOf i).toNat)
   case atStart => exact ⟨0, rfl, by omega, k2, b⟩
   case round =>
    clear b k2 F1
    obtain ⟨j, rfl, hj, k2, b⟩ := hrel
    by_cases hlt5 : j < n5
    ·obtain ⟨x, hx, ok⟩ := q1b OKW.out (k := j) (by rw [← HN5.out]; exact hlt5)
     obtain ⟨bb5, k5, c5', he, _, hcs⟩ := (h5.later k2).block (by rw [← HN5.out]; omega)
     have d5 := hcs j x hx
     rw [← HN5.out] at he
     simp only [Value.slice.injEq] at he
     obtain ⟨rfl, -, rfl⟩ := he
     have OK := hide ok
     clear hcs hx ok
     by_cases hg : (4096 : Int) < (x.sig.size : Int)
     ·have cc := decide_eq_true hg
      go_wp2_with (first | (with_reducible refine w3g ?_; clear mF2; refine q8p rfl rfl ?_; intro _ g2 hg2 F2 ha; simp only [pS]) | ((with_reducible show wpList _ _ _ (⟨_, Op.store 74 _ _, _, _, _, _⟩ :: _) _ _); refine q7w rfl _ _ rfl rfl rfl OK.out F2 ?_; intro _ t1 ht1; have hb := q0b ha ht1 hg2 (Nat.le_refl _); clear F2; replace b := later b hb; replace k2 := later k2 hb; have F2 := t1; clear t1 ht1 ha hb; simp only [pS]) | ((with_reducible show wpList _ _ _ (⟨_, Op.load 74 _, _, _, _, _⟩ :: _) _ _); refine q5w rfl _ rfl rfl d5 OK.out ?_) | (with_reducible refine w0g ?_; refine q0a rfl 9 _ rfl rfl (WitAt.sig F2) (by kernel_rfl) ?_))
      go_ret
      exact ⟨⟨_, rfl, by simp⟩, b⟩
     ·have cc := decide_eq_false hg
      go_wp2_with (first | (with_reducible refine w3g ?_; clear mF2; refine q8p rfl rfl ?_; intro _ g2 hg2 F2 ha; simp only [pS]) | ((with_reducible show wpList _ _ _ (⟨_, Op.store 74 _ _, _, _, _, _⟩ :: _) _ _); refine q7w rfl _ _ rfl rfl rfl OK.out F2 ?_; intro _ t1 ht1; have hb := q0b ha ht1 hg2 (Nat.le_refl _); clear F2; replace b := later b hb; replace k2 := later k2 hb; have F2 := t1; clear t1 ht1 ha hb; simp only [pS]) | ((with_reducible show wpList _ _ _ (⟨_, Op.load 74 _, _, _, _, _⟩ :: _) _ _); refine q5w rfl _ rfl rfl d5 OK.out ?_) | (with_reducible refine w0g ?_; refine q0a rfl 9 _ rfl rfl (WitAt.sig F2) (by kernel_rfl) ?_))
      go_roundw
      case rel => exact ⟨j + 1, by simp, by omega, k2, b⟩
      case measure => simp [RowKit.intOf]; omega
    ·obtain rfl : n5 = j := by omega
     by_cases hz : (300 : Int) < z2
     ·have cc := decide_eq_true hz
      go_wp2_with fail
      go_ret
      exact ⟨⟨_, rfl, by simp⟩, b⟩
     ·have cc := decide_eq_false hz
      go_wp2_with fail
      go_roundw
      case rel => exact ⟨k + 1, _, by simp, by omega, rfl, b⟩
      case measure => simp [RowKit.intOf]; omega
  case neg =>
   obtain rfl : n = k := by omega
   go_wp2_with fail
   go_ret
   refine ⟨⟨_, rfl, ?_⟩, b⟩
   intro h
   have := of_decide_eq_false h
   omega
theorem j3n (v : Value) (x : Blk) (w : World) (h : BlkIs w v x) (hf : ∀ d ∈ x.deeds, d.Fit) (hn : x.deeds.length ≤ 9223372036854775807) :
  Calls Tryz.prog 30 #[v] w fun e w' => (∃ B : Bool, e = .returned (.bool B) ∧ (B = false → x.deeds.length ≤ 60)) ∧ Below w.heap.size w w' := by
 obtain ⟨u, rfl, hD, hok⟩ := h
 have HH := hide (fun (w' : World) (hb : Below w.heap.size w w') => j9a u x.deeds w' (hD.later hb) hf hn)
 have o1 : u.oneCell' = true := by obtain ⟨a, c, rfl⟩ := hD.shape; rfl
 have HOK := hide hok
 have b := Below.refl w.heap.size w
 clear hD hf hn hok
 generalize x.deeds.length = n at *
 generalize x.head = d at *
 clear x
 have h1 : ∃ B, decide ((8192 : Int) < (d.sig.size : Int)) = B := ⟨_, rfl⟩
 have h2 : ∃ B, decide ((8192 : Int) < (d.right.sig.size : Int)) = B := ⟨_, rfl⟩
 obtain ⟨B1, c1⟩ := h1
 obtain ⟨B2, c2⟩ := h2
 have mF1 := True.intro
 go_enter Tryz.func30, Tryz.ntmps30
 go_wp2_with (first | (with_reducible refine w2g ?_; clear mF1; refine q0k rfl _ rfl rfl HOK.out o1 ?_; intro _ g1 hg1 F1 hb; (try replace b := later b hb); clear hb) | (with_reducible refine w0g ?_; refine q0a rfl 42 _ rfl rfl (KAt.ds F1) (by kernel_rfl) ?_) | (with_reducible refine w0g ?_; refine q0a rfl 9 _ rfl rfl (KAt.sig F1) (by kernel_rfl) ?_) | (with_reducible refine w0g ?_; refine q0a rfl 9 _ rfl rfl (KAt.rsig F1) (by kernel_rfl) ?_) | (go_at_call 23; refine (HH.out _ b).mono ?_; rintro _ _ ⟨⟨B, rfl, hB⟩, hc⟩; (try replace F1 := F1.later hc); (try replace b := later b hc); clear hc; cases B))
 all_goals
  go_ret
  refine ⟨⟨_, rfl, ?_⟩, b⟩
  first | (intro h; cases h; done) | exact fun _ => hB trivial
theorem j5o (w : World) (v : Value) (x : Blk) (h : BlkIs w v x) (hf : ∀ d ∈ x.deeds, d.Fit) (hn : x.deeds.length ≤ 9223372036854775807) :
  Calls Tryz.prog 7 #[v] w fun e w' => e = .returned (.bool true) ∧ Below w.heap.size w w' := by
 have HG := hide (fun (w' : World) (hb : Below w.heap.size w w') => j3n v x w' (h.later hb) hf hn)
 have HP := hide (fun (hk : x.deeds.length ≤ 60) (w' : World) (hb : Below w.heap.size w w') => j1w v x w' (h.later hb) (by omega) hf)
 have HRP := hide (fun (hk : x.deeds.length ≤ 60) (w' : World) (hb : Below w.heap.size w w') => x9j v x w' (h.later hb) (by omega))
 have HI := hide (fun (hk : x.deeds.length ≤ 60) (w' : World) (hb : Below w.heap.size w w') => z1n v x w' (h.later hb) (by omega) hf)
 have HM := hide (fun (hk : x.deeds.length ≤ 60) (w' : World) (hb : Below w.heap.size w w') => q7o v x w' (h.later hb) (by omega) hf)
 have HRM := hide (fun (hk : x.deeds.length ≤ 60) (w' : World) (hb : Below w.heap.size w w') => j5s v x w' (h.later hb) (by omega))
 have HF := hide (fun (hk : x.deeds.length ≤ 60) (w' : World) (hb : Below w.heap.size w w') => j7l v x w' (h.later hb) (by omega) hf)
 have HRF := hide (fun (hk : x.deeds.length ≤ 60) (w' : World) (hb : Below w.heap.size w w') => x7l v x w' (h.later hb) (by omega))
 have HL := hide (q9h x)
 have HZ : Hid (zero32.length = 32) := rfl
 have HW := hide works15
 obtain ⟨u, rfl, hD, hok⟩ := id h
 have o1 : u.oneCell' = true := by obtain ⟨a, c, rfl⟩ := hD.shape; rfl
 have HOK := hide hok
 have b := Below.refl w.heap.size w
 by_cases hm : mayB x = true
 ·have HRI := hide (fun (w' : World) (hb : Below w.heap.size w w') => z1d _ x w' (h.later hb) hm)
  rw [hm] at HRM
  rw [if_pos hm] at HI HM
  rw [if_pos hm, if_pos hm] at HP HRP
  clear hD hf hn hok h hm
  generalize bidB x = I at *
  generalize fitB x = FT at *
  generalize (⟨(putB x).toArray⟩ : ByteArray) = s at *
  generalize x.deeds.length = n at *
  generalize x.head = d at *
  clear x
  cases FT <;> skip
  all_goals
   have mF1 := True.intro
   have mF4 := True.intro
   have mF9 := True.intro
   go_enter Tryz.func7, Tryz.ntmps7
   go_wp2_with (first | (with_reducible refine w2g ?_; clear mF1; refine q0k rfl _ rfl rfl HOK.out o1 ?_; intro _ g1 hg1 F1 hb; (try replace b := later b hb); clear hb) | (with_reducible refine w15g ?_; refine q0m rfl _ rfl rfl F1 ?_) | (go_at_call 30; refine (HG.out _ b).mono ?_; rintro _ _ ⟨⟨B, rfl, hB⟩, hc⟩; (try replace F1 := F1.later hc); (try replace b := later b hc); clear hc; cases B) | (with_reducible refine w3g ?_; clear mF4; refine q0j rfl rfl ?_; intro _ g4 hg4 F4 hb; (try have := F1.lt); (try have := F4.lt); (try have := F9.lt); (try have := b.size); (try replace F1 := F1.later hb); (try replace b := later b hb); clear hb) | (with_reducible refine w3g ?_; clear mF9; refine q0j rfl rfl ?_; intro _ g9 hg9 F9 hb; (try have := F1.lt); (try have := F4.lt); (try have := F9.lt); (try have := b.size); (try replace F1 := F1.later hb); (try replace F4 := F4.later hb); (try replace b := later b hb); clear hb) | (with_reducible refine w4g ?_; refine q0g rfl _ _ rfl rfl rfl HL.out F9 ?_; intro _ t1 ht; (try replace F1 := F1.tt ht); (try replace F4 := F4.tt ht); (try replace b := q0b b ht (by omega) (by omega)); replace F9 := t1; clear ht) | (with_reducible refine w4g ?_; refine q0g rfl _ _ rfl rfl rfl HL.out F4 ?_; intro _ t1 ht; (try replace F1 := F1.tt ht); (try replace b := q0b b ht (by omega) (by omega)); replace F4 := t1; clear ht) | (go_at_call 32; refine (HRM.out (by simpa using hB) _ b).mono ?_; rintro _ _ ⟨rfl, hc⟩; (try replace F1 := F1.later hc); (try replace F4 := F4.later hc); (try replace b := later b hc); clear hc) | (go_at_call 33; refine (HRI.out _ b).mono ?_; rintro _ _ ⟨rfl, hc⟩; (try replace F1 := F1.later hc); (try replace F4 := F4.later hc); (try replace b := later b hc); clear hc) | (go_at_call 31; refine (HP.out (by simpa using hB) _ b).mono ?_; rintro _ _ ⟨rfl, hc⟩; (try replace F1 := F1.later hc); (try replace F4 := F4.later hc); (try replace b := later b hc); clear hc) | (go_at_call 34; refine (HRP.out (by simpa using hB) _ b).mono ?_; rintro _ _ ⟨rfl, hc⟩; (try replace F1 := F1.later hc); (try replace F4 := F4.later hc); (try replace b := later b hc); clear hc) | (go_at_call 35; refine (HI.out (by simpa using hB) _ b).mono ?_; rintro _ _ ⟨rfl, hc⟩; (try replace F1 := F1.later hc); (try replace F4 := F4.later hc); (try replace b := later b hc); clear hc) | (go_at_call 24; refine (HW.out _).mono ?_; rintro _ _ ⟨rfl, hc⟩; (try replace F1 := F1.later hc); (try replace b := later b hc); clear hc) | (with_reducible show Code.wp _ (Code.region _ _ true) _ _ _; fail))
   rotate_left
   ·go_ret
    exact ⟨rfl, b⟩
   have hk : n ≤ 60 := by simpa using hB
   refine q0e (by kernel_rfl) (by kernel_rfl) ?_
   repeat ((go_big_quiet_want; first | ((with_reducible show Oper.quiet _ ⟨_, Op.load 51 _, _, _, _, _⟩ _ _ _); refine j1o _ rfl rfl F1 ?_; simp only [pS]; go_big_quiet_on) | ((with_reducible refine w24g ?_); refine q1v _ rfl rfl (by assumption) ?_; simp only [pS]; go_big_quiet_on) | ((with_reducible show Oper.quiet _ ⟨_, Op.binOp _ 34 _ _ _, _, _, _, _⟩ _ _ _); refine q6d _ _ rfl _ HL.out rfl rfl ?_; simp only [pS]; go_big_quiet_on) | (go_big_quiet_op; first | go_big_quiet_on | (refine ⟨_, fun s => q0f (HM.out hk _ (later b s.ok)), ?_⟩; go_big_quiet_on) | (refine ⟨_, fun s => q0f (HF.out hk _ (later b s.ok)), ?_⟩; go_big_quiet_on) | (refine ⟨_, fun s => q0f (HRF.out hk _ (later b s.ok)), ?_⟩; go_big_quiet_on) | (refine ⟨_, fun s => q0f (HW.out _), ?_⟩; go_big_quiet_on))))
   refine wpQuiet_nil ?_
   intro _ hq
   (try replace F1 := F1.later hq); (try replace F4 := F4.later hq); (try replace F9 := F9.later hq); (try replace b := later b hq)
   clear hq
   go_wp2_with fail
   go_ret
   exact ⟨rfl, b⟩
 ·have hm' : mayB x = false := by simpa using hm
  have e0 : bidB x = zero32 := by unfold bidB; rw [if_neg hm]
  have e1 : fitB x = false := by unfold fitB; rw [hm', Bool.false_and]
  rw [e0] at HI HL
  rw [e1] at HF HRF
  rw [hm'] at HRM
  rw [if_neg hm] at HI HM
  rw [if_neg hm, if_neg hm] at HP HRP
  clear hD hf hn hok h hm hm' e0 e1
  generalize (⟨([] : List UInt8).toArray⟩ : ByteArray) = s at *
  generalize x.deeds.length = n at *
  generalize x.head = d at *
  clear x
  have mF1 := True.intro
  have mF4 := True.intro
  have mF9 := True.intro
  go_enter Tryz.func7, Tryz.ntmps7
  go_wp2_with (first | (with_reducible refine w2g ?_; clear mF1; refine q0k rfl _ rfl rfl HOK.out o1 ?_; intro _ g1 hg1 F1 hb; (try replace b := later b hb); clear hb) | (with_reducible refine w15g ?_; refine q0m rfl _ rfl rfl F1 ?_) | (go_at_call 30; refine (HG.out _ b).mono ?_; rintro _ _ ⟨⟨B, rfl, hB⟩, hc⟩; (try replace F1 := F1.later hc); (try replace b := later b hc); clear hc; cases B) | (with_reducible refine w3g ?_; clear mF4; refine q0j rfl rfl ?_; intro _ g4 hg4 F4 hb; (try have := F1.lt); (try have := F4.lt); (try have := F9.lt); (try have := b.size); (try replace F1 := F1.later hb); (try replace b := later b hb); clear hb) | (with_reducible refine w3g ?_; clear mF9; refine q0j rfl rfl ?_; intro _ g9 hg9 F9 hb; (try have := F1.lt); (try have := F4.lt); (try have := F9.lt); (try have := b.size); (try replace F1 := F1.later hb); (try replace F4 := F4.later hb); (try replace b := later b hb); clear hb) | (with_reducible refine w4g ?_; refine q0g rfl _ _ rfl rfl rfl HL.out F9 ?_; intro _ t1 ht; (try replace F1 := F1.tt ht); (try replace F4 := F4.tt ht); (try replace b := q0b b ht (by omega) (by omega)); replace F9 := t1; clear ht) | (go_at_call 32; refine (HRM.out (by simpa using hB) _ b).mono ?_; rintro _ _ ⟨rfl, hc⟩; (try replace F1 := F1.later hc); (try replace F4 := F4.later hc); (try replace b := later b hc); clear hc) | (go_at_call 31; refine (HP.out (by simpa using hB) _ b).mono ?_; rintro _ _ ⟨rfl, hc⟩; (try replace F1 := F1.later hc); (try replace F4 := F4.later hc); (try replace b := later b hc); clear hc) | (go_at_call 34; refine (HRP.out (by simpa using hB) _ b).mono ?_; rintro _ _ ⟨rfl, hc⟩; (try replace F1 := F1.later hc); (try replace F4 := F4.later hc); (try replace b := later b hc); clear hc) | (go_at_call 35; refine (HI.out (by simpa using hB) _ b).mono ?_; rintro _ _ ⟨rfl, hc⟩; (try replace F1 := F1.later hc); (try replace F4 := F4.later hc); (try replace b := later b hc); clear hc) | (go_at_call 24; refine (HW.out _).mono ?_; rintro _ _ ⟨rfl, hc⟩; (try replace F1 := F1.later hc); (try replace b := later b hc); clear hc) | (with_reducible show Code.wp _ (Code.region _ _ true) _ _ _; fail))
  rotate_left
  ·go_ret
   exact ⟨rfl, b⟩
  have hk : n ≤ 60 := by simpa using hB
  refine q0e (by kernel_rfl) (by kernel_rfl) ?_
  repeat ((go_big_quiet_want; first | ((with_reducible show Oper.quiet _ ⟨_, Op.load 51 _, _, _, _, _⟩ _ _ _); refine j1o _ rfl rfl F1 ?_; simp only [pS]; go_big_quiet_on) | ((with_reducible refine w24g ?_); refine q1v _ rfl rfl (by assumption) ?_; simp only [pS]; go_big_quiet_on) | ((with_reducible show Oper.quiet _ ⟨_, Op.binOp _ 34 _ _ _, _, _, _, _⟩ _ _ _); refine q6d _ _ rfl _ HL.out rfl rfl ?_; simp only [pS]; go_big_quiet_on) | (go_big_quiet_op; first | go_big_quiet_on | (refine ⟨_, fun s => q0f (HM.out hk _ (later b s.ok)), ?_⟩; go_big_quiet_on) | (refine ⟨_, fun s => q0f (HF.out hk _ (later b s.ok)), ?_⟩; go_big_quiet_on) | (refine ⟨_, fun s => q0f (HRF.out hk _ (later b s.ok)), ?_⟩; go_big_quiet_on) | (refine ⟨_, fun s => q0f (HW.out _), ?_⟩; go_big_quiet_on))))
  refine wpQuiet_nil ?_
  intro _ hq
  (try replace F1 := F1.later hq); (try replace F4 := F4.later hq); (try replace F9 := F9.later hq); (try replace b := later b hq)
  clear hq
  go_wp2_with fail
  go_ret
  exact ⟨rfl, b⟩
end Go.Proofs.YtbbfnpfkbbpjgaaGreat
namespace Go.Proofs.YtbbfnpfkbbpjgaaGreat
open Go.ChangeShapes Go.WideShapes Go.RowKit
set_option linter.unusedVariables false
set_option linter.unusedSimpArgs false
set_option maxRecDepth 100000
set_option maxHeartbeats 4000000
/-- A list that each place of has something. -/
theorem x5k {α : Type} (n : Nat) (R : Nat → α → Prop) (h : ∀ i, i < n → ∃ y, R i y) : ∃ l : List α, l.length = n ∧ ∀ (i : Nat) (y : α), l[i]? = some y → R i y := by
 induction n with
 | zero => exact ⟨[], rfl, fun i y hi => by simp at hi⟩
 | succ n ih =>
  obtain ⟨l, hl, hr⟩ := ih (fun i hi => h i (by omega))
  obtain ⟨y, hy⟩ := h n (by omega)
  refine ⟨l ++ [y], by simp [hl], fun i z hz => ?_⟩
  by_cases hi : i < l.length
  ·rw [List.getElem?_append_left hi] at hz
   exact hr i z hz
  ·rw [List.getElem?_append_right (by omega)] at hz
   have h0 : i - l.length = 0 := by
    have := (List.getElem?_eq_some_iff.1 hz).1
    simp at this
    omega
   rw [h0] at hz
   simp at hz
   subst hz
   rwa [show i = n by omega]
/-- A slice of flat elements, from its cells. -/
theorem q5x {H : Type} {enc : TypeId × Value → H} {w : World} {base : Nat} {spare : Nat → Bool} {held : Bool} {α : Type} (f : α → List Value) (Pr : α → Prop) {t e sz : Nat} (ht : Tryz.prog.underlying t = some (.slice e)) (hc : Tryz.prog.cellsOf e = sz) (hsz : 0 < sz)
    (each : ∀ fuel cs x, DataW.trod enc Tryz.prog w base spare held fuel e cs = some x → cs.length = sz → ∃ y, cs = f y ∧ Pr y) {fuel : Nat} {v : Value} {x : DataW H × List MemPlace}
    (hd : DataW.trod enc Tryz.prog w base spare held fuel t [v] = some x) : ∃ l : List α, Sl w v sz (l.map f) ∧ (∀ y ∈ l, Pr y) ∧ l.length ≤ maxLen := by
  rcases DataW.trod_slice ht hd with ⟨h1, _⟩ | ⟨a, len, cap, elems, rest, n, _, h1, _, hb, hl, hm, hlen, hel, _, _⟩
  · simp only [List.cons.injEq, and_true] at h1
    rw [h1]
    exact ⟨[], Sl.nil w sz, by simp, by simp⟩
  · simp only [List.cons.injEq, and_true] at h1
    rw [h1]
    have key : ∀ i, i < len → ∃ y : α, Pr y ∧ (f y).length = sz ∧ ∀ j, j < sz → w.cell? ((a.add (i * sz)).add j) = (f y)[j]? := by
      intro i hi
      have h2 := hel i hi
      have hi' : i < elems.length := by omega
      rw [List.getElem?_eq_getElem hi', Option.bind_eq_some_iff] at h2
      obtain ⟨cs, hcs, ht'⟩ := h2
      obtain ⟨_, hcl, hcell⟩ := World.cells?_some hcs
      rw [hc] at hcl hcell
      obtain ⟨y, rfl, hp⟩ := each _ _ _ ht' hcl
      exact ⟨y, hp, hcl, hcell⟩
    obtain ⟨l, hl1, hl2⟩ := x5k len _ key
    have hlm : l.length ≤ maxLen := by omega
    refine ⟨l, ⟨some a, cap, by rw [List.length_map, hl1], by rw [List.length_map, hl1]; exact hl, hm, ?_, fun h => (by cases h), fun hne => ?_⟩, ?_, hlm⟩
    · intro e' he
      obtain ⟨y, hy, rfl⟩ := List.mem_map.1 he
      obtain ⟨i, hi⟩ := List.mem_iff_getElem?.1 hy
      exact (hl2 i y hi).2.1
    · have h0 : 0 < l.length := by
        cases l with
        | nil => exact absurd rfl hne
        | cons => simp
      have hc0 := (hl2 0 _ (List.getElem?_eq_getElem h0)).2.2 0 hsz
      have hf0 := (hl2 0 _ (List.getElem?_eq_getElem h0)).2.1
      rw [List.getElem?_eq_getElem (by rw [hf0]; exact hsz)] at hc0
      obtain ⟨g, off, spot⟩ := a
      have hspot : spot = none := by simpa [Addr.add] using World.cell?_spot hc0
      subst hspot
      rw [Cells.add, Cells.add] at hc0
      refine ⟨g, off, rfl, World.block_lt_of_cell? w _ hc0, fun i e' he j u hu => ?_⟩
      rw [List.getElem?_map, Option.map_eq_some_iff] at he
      obtain ⟨y, hy, rfl⟩ := he
      obtain ⟨_, hfl, hcj⟩ := hl2 i y hy
      have := hcj j (by rw [← hfl]; exact (List.getElem?_eq_some_iff.1 hu).1)
      rw [Cells.add, Cells.add, hu] at this
      exact this
    · intro y hy
      obtain ⟨i, hi⟩ := List.mem_iff_getElem?.1 hy
      exact (hl2 i y hi).1
/-- Thirty-two cells that a hash has. -/
theorem q3o {H : Type} {enc : TypeId × Value → H} {w : World} {base : Nat} {spare : Nat → Bool} {held : Bool} {fuel : Nat} {cs : List Value} {x : DataW H × List MemPlace}
  (hf : DataW.trod enc Tryz.prog w base spare held fuel 34 cs = some x) (hcl : cs.length = 32) : ∃ l : List UInt8, cs = bvs l ∧ l.length = 32 := by
 obtain ⟨xs, m, _, _, hlen, hxs, hel⟩ := DataW.trod_array Tryz.underlying34 hf
 rw [cellsByte] at hel
 have hcell : ∀ i, (h : i < cs.length) → ∃ n : UInt8, cs[i] = .int .u8 (n.toNat : Int) := by
  intro i hi
  have h1 := hel i (by omega)
  have hx : i < xs.length := by omega
  rw [List.getElem?_eq_getElem hx] at h1
  obtain ⟨n, hn, _, hw⟩ := DataW.trod_int Tryz.underlying5 h1
  simp only [Nat.mul_one] at hn
  have h2 : ((cs.drop i).take 1)[0]? = some (.int .u8 n) := by rw [hn]; rfl
  have h3 : cs[i]? = some (.int .u8 n) := by
   rw [List.getElem?_take, if_pos (by omega), List.getElem?_drop, Nat.add_zero] at h2
   exact h2
  have hb := bounds_u8 hw
  refine ⟨UInt8.ofNat n.toNat, ?_⟩
  rw [List.getElem?_eq_getElem hi] at h3
  rw [Option.some.inj h3, UInt8.toNat_ofNat']
  congr 1
  omega
 refine ⟨cs.map (fun v => UInt8.ofNat (RowKit.intOf v).toNat), ?_, by simpa using hcl⟩
 apply List.ext_getElem
 ·simp [bvs]
 ·intro i h1 h2
  obtain ⟨n, hn⟩ := hcell i h1
  simp only [bvs, List.getElem_map, hn, RowKit.intOf]
  simp
end Go.Proofs.YtbbfnpfkbbpjgaaGreat
