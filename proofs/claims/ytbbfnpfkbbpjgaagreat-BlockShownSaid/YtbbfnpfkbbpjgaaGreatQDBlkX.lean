/- Layer 15: that a block goes there and back: works. -/
import Derived.Test.YtbbfnpfkbbpjgaaGreatQDBlkV
import Derived.Test.YtbbfnpfkbbpjgaaGreatQDBkR4
import Derived.Test.YtbbfnpfkbbpjgaaGreatQDBuilderS
import Derived.Test.YtbbfnpfkbbpjgaaGreatQDBlk8
import Derived.Test.YtbbfnpfkbbpjgaaGreatQDBkR1
import Derived.Test.YtbbfnpfkbbpjgaaGreatQDBlkE
import Derived.Test.YtbbfnpfkbbpjgaaGreatQDDeed5
import Derived.Test.YtbbfnpfkbbpjgaaGreatQDElCert
import Derived.Test.YtbbfnpfkbbpjgaaGreatQDRowE
namespace Go.Proofs.YtbbfnpfkbbpjgaaGreat
open Go.RowKit Go.Lib
set_option linter.unusedVariables false
set_option linter.unusedSimpArgs false
set_option maxRecDepth 100000
set_option maxHeartbeats 4000000
theorem j2m {o : Oper} {a : Act} {K : Act → Prop} {w0 : World} {g : Nat} {d : Hd} {v : Value} (x : Operand) (ho : o.op = .load 51 x) (hx : a.eval x = .pointer (some ⟨g, 0, none⟩)) (h : KAt w0 g d v) (hk : K (a.put o.dst (blkV d v))) :
  o.quiet Tryz.prog a (fun w' => ∃ s : Kept (fun x => Below w0.heap.size w0 x), w' = s.w) K :=
 q7u 51 x ho hx h.cells _ Tryz.underlying51 rfl (by rw [q1o v h.ok]; exact blkSize) hk
theorem j7y : mayH hdOne = true := by decide +kernel
theorem x1y : fewB blkOne.deeds = true := by
 show fewB [smallD] = true
 unfold fewB sizB
 rw [Bool.and_eq_true, Bool.and_eq_true]
 refine ⟨by simp [x3y], by simp, ?_⟩
 simp only [List.map_cons, List.map_nil, List.sum_cons, List.sum_nil, q8o]
 decide
theorem j1c : mayB blkOne = true := by
 unfold mayB
 rw [x1y, show mayH blkOne.head = true from j7y]
 rfl
theorem x3h : sizB blkOne.deeds = 41 := by
 show sizB [smallD] = 41
 unfold sizB
 simp only [List.map_cons, List.map_nil, List.sum_cons, List.sum_nil, q8o, Nat.add_zero]
theorem j6j : fitB blkOne = false := by
 unfold fitB
 rw [x3h]
 rw [show decide (blkOne.head.size = 41) = false from rfl, Bool.false_and, Bool.and_false, Bool.and_false]
theorem x2o : (putB blkOne).length = 2363 := by
 have h1 := q9b blkOne_ok.head j7y
 unfold putB
 rw [List.length_append, h1]
 show 2320 + (putL 1 ++ [smallD].flatMap fun d => putText (fullL d)).length = 2363
 rw [List.flatMap_cons, List.flatMap_nil, List.append_nil]
 unfold putText
 rw [q8o, List.length_append, List.length_append, q8o]
 decide
theorem j4d : ∀ d ∈ blkOne.deeds, d.Fit := by intro d hd; simp [blkOne] at hd; subst hd; exact x3w
theorem x5f (x : Blk) : samB x x = true := (z1q x x).2 rfl
theorem works15 (w : World) : Calls Tryz.prog 24 #[] w fun e w' => e = .returned (.bool true) ∧ Below w.heap.size w w' := by
 obtain ⟨sS, hsS⟩ : ∃ s : ByteArray, s = ⟨(putB blkOne).toArray⟩ := ⟨_, rfl⟩
 have hz : sS.size = 2363 := by rw [hsS]; show (putB blkOne).toArray.size = 2363; rw [List.size_toArray]; exact x2o
 have hl : sS.data.toList = putB blkOne := by rw [hsS]
 have HO := hide x7e
 have HP := hide (fun v w (h : BlkIs w v blkOne) => x8p v blkOne w h (by decide) j4d)
 rw [if_pos j1c, if_pos j1c, ← hsS] at HP
 have HTK : Hid (∀ w, Calls Tryz.prog 27 #[.string sS] w fun e w' => (∃ v, e = .returned (.tuple #[v, .int .i64 0]) ∧ BlkIs w' v blkOne) ∧ Below w.heap.size w w') := fun w => by
  have := x6u sS w (by omega)
  rwa [hl, z0j blkOne_ok j1c] at this
 have HSA := hide (fun v u w (h : BlkIs w v blkOne) (k : BlkIs w u blkOne) => j8g v u blkOne blkOne w h k)
 rw [x5f] at HSA
 have HF := hide (fun v w (h : BlkIs w v blkOne) => j6r v blkOne w h (by decide) j4d)
 rw [j6j] at HF
 have c41 : ((sS.size : Int) == 2363) = true := by rw [hz]; rfl
 have b := Below.refl w.heap.size w
 clear hsS hl hz
 generalize blkOne = X at *
 have mF3 := True.intro
 go_enter Tryz.func24, Tryz.ntmps24
 go_wp2_with (first | (go_at_call 39; refine (HO.out _).mono ?_; rintro _ _ ⟨⟨v0, rfl, I0⟩, hc⟩; replace b := later b hc; clear hc) | (go_at_call 31; refine (HP.out _ _ I0).mono ?_; rintro _ _ ⟨rfl, hc⟩; replace b := later b hc; clear hc I0) | (go_at_call 27; go_loud (refine (HTK.out _).mono ?_; rintro _ _ ⟨⟨v1, rfl, I1⟩, hc⟩; have J1 := I1; obtain ⟨u1, rfl, D1, ok1⟩ := I1; have o1 : u1.oneCell' = true := (by obtain ⟨a, c, rfl⟩ := D1.shape; rfl); clear D1; replace b := later b hc; clear hc)) | (with_reducible refine w3g ?_; clear mF3; refine q2z rfl rfl ?_; intro _ g3 hg3 F3 ha) | ((with_reducible refine w4g ?_); refine q1e rfl _ _ rfl rfl rfl ok1 o1 F3 ?_; intro _ t1 ht1; have hb := q0b ha ht1 hg3 (Nat.le_refl _); clear F3; have F3 := t1; clear t1 ha ht1; replace J1 := J1.later hb; replace b := later b hb; clear hb) | (with_reducible show Code.wp _ (Code.region _ _ true) _ _ _; fail))
 refine q1d (fun x => Below _ _ x) (.one [0, 1, 2, 3, 4, 5, 6, 7, 8] 9 (.fl [] 10 (.fl [11, 12, 13, 14, 15, 16, 17] 18 (.stop [19, 20, 21])))) (by kernel_rfl) (by kernel_rfl) (by kernel_rfl) (by decide) (q2q (Nat.le_refl _)) (Below.refl _ _) ?_
 intro _ _ _ _
 refine q0t ?_
 simp only [pickOps, opAt, List.getElem?_cons_succ, List.getElem?_cons_zero, List.nil_append, List.cons_append]
 repeat ((go_big_quiet_want; first | ((with_reducible refine w23g ?_); first | (refine j2m _ rfl rfl F3 ?_; simp only [pS]; go_big_quiet_on)) | (go_big_quiet_op; first | go_big_quiet_on)))
 refine wpQuiet_nil ?_
 intro _ hb k
 replace F3 := F3.later k
 replace J1 := J1.later k
 replace b := later b k
 go_wp2_with (go_at_call 39; refine (HO.out _).mono ?_; rintro _ _ ⟨⟨v3, rfl, I3⟩, hc⟩; replace k := later k hc; replace F3 := F3.later hc; replace J1 := J1.later hc; replace b := later b hc; clear hc)
 refine q6h (q2q (Nat.le_refl _)) k ?_
 clear hb k
 refine q7i ?_
 simp only [pickOps, opAt, List.getElem?_cons_succ, List.getElem?_cons_zero, List.nil_append, List.cons_append]
 repeat (fail)
 refine wpQuiet_nil ?_
 refine q7m (by rfl) rfl (by kernel_rfl) (by simp only [List.map_toArray, List.map_cons, List.map_nil] <;> rfl) (fun w' hC => HSA.out _ _ _ (J1.later (Kl.out hC)) (I3.later (Kl.out hC))) ?_
 simp only [pS]
 refine q7i ?_
 simp only [pickOps, opAt, List.getElem?_cons_succ, List.getElem?_cons_zero, List.nil_append, List.cons_append]
 repeat ((go_big_quiet_want; first | ((with_reducible refine w23g ?_); first | (refine j2m _ rfl rfl F3 ?_; simp only [pS]; go_big_quiet_on)) | (go_big_quiet_op; first | go_big_quiet_on)))
 refine wpQuiet_nil ?_
 refine q7m (by rfl) rfl (by kernel_rfl) (by simp only [List.map_toArray, List.map_cons, List.map_nil] <;> rfl) (fun w' hC => HF.out _ _ (J1.later (Kl.out hC))) ?_
 simp only [pS]
 refine q2e ?_
 simp only [pickOps, opAt, List.getElem?_cons_succ, List.getElem?_cons_zero, List.nil_append, List.cons_append]
 repeat ((go_big_quiet_want; first | (go_big_quiet_op; first | go_big_quiet_on)))
 refine wpQuiet_nil ?_
 intro _ hb k
 replace b := later b k
 go_wp2_with fail
 go_ret
 exact ⟨rfl, b⟩
theorem j9z (v : Value) (l : List Deed) (w : World) (h : DsIs w v l) (hf : ∀ d ∈ l, d.Fit) (hn : l.length ≤ 9223372036854775807) :
  Calls Tryz.prog 23 #[v] w fun e w' => (∃ B : Bool, e = .returned (.bool B) ∧ (B = false → l.length ≤ 60)) ∧ Below w.heap.size w w' := by
 obtain ⟨a1, c1, rfl⟩ := h.shape
 obtain ⟨n, hn'⟩ : ∃ n, n = l.length := ⟨_, rfl⟩
 have HN := hide hn'
 have HFT := hide hf
 rw [← hn'] at h hn ⊢
 clear hn' hf
 have b := Below.refl w.heap.size w
 go_enter Tryz.func23, Tryz.ntmps23
 go_wp2_with fail
 go_loopw [3, 10] (fun q i wr => ∃ (k : Nat) (z : Int), i = .int .i64 k ∧ k ≤ n ∧ q = .int .i64 z ∧ Below w.heap.size w wr) (fun _ i _ => n - (RowKit.intOf i).toNat)
 case atStart => exact ⟨0, 0, rfl, by omega, rfl, b⟩
 case round =>
  clear b
  obtain ⟨k, z, rfl, hk, rfl, b⟩ := hrel
  by_cases hlt : k < n
  case pos =>
   obtain ⟨d, hd⟩ : ∃ d, l[k]? = some d := ⟨_, List.getElem?_eq_getElem (by rw [← HN.out]; exact hlt)⟩
   obtain ⟨bb, k0, c', he, _, hcs⟩ := (h.later b).block (by rw [← HN.out]; omega)
   rw [← HN.out] at he
   simp only [Value.slice.injEq] at he
   obtain ⟨rfl, -, rfl⟩ := he
   obtain ⟨v1, v2, v3, v4, v5, d1, hD, o1, o2, o3, o4, o5⟩ := hcs k d hd
   have hft := HFT.out d (List.mem_of_getElem? hd)
   have hm5 := hft.wits
   obtain ⟨y1, y2, y3, y4, y5, he, h1, h2, h3, h4, h5, ok⟩ := hD
   have he' : [v1, v2, v3, v4, v5] = [y1, y2, y3, y4, y5] := by
    simp only [deedV, deedCs, Value.agg.injEq] at he
    simpa using he
   simp only [List.cons.injEq, and_true] at he'
   obtain ⟨rfl, rfl, rfl, rfl, rfl⟩ := he'
   obtain ⟨a1, c1', rfl, -⟩ := h1.shape
   obtain ⟨a2, c2, rfl, -⟩ := h2.shape
   obtain ⟨a3, c3, rfl, -⟩ := h3.shape
   obtain ⟨a4, c4, rfl, -⟩ := h4.shape
   obtain ⟨a5, c5, rfl, -⟩ := h5.shape
   have OKW := hide ok.wits
   obtain ⟨n5, hn5⟩ : ∃ n, n = d.wits.length := ⟨_, rfl⟩
   have HN5 := hide hn5
   rw [← hn5] at o5 hm5 d1 h5
   have k2 := Below.refl wr.heap.size wr
   have qb := b.size
   clear hcs hd hft he hn5 h1 h2 h3 h4 ok
   generalize d.ins.length = n1 at *
   generalize d.outs.length = n2 at *
   generalize d.certs.length = n3 at *
   generalize d.pays.length = n4 at *
   generalize d.fee = f at *
   generalize d.frm = s at *
   generalize d.til = t at *
   have mF1 := True.intro
   have mF2 := True.intro
   go_wp2_with (first | (with_reducible refine w11g ?_; refine q3j rfl _ rfl rfl d1 ?_) | (with_reducible refine w12g ?_; clear mF1; refine q2v rfl rfl ?_; intro _ g1 hg1 F1 hb; replace b := later b hb; replace k2 := later k2 hb; clear hb) | ((with_reducible refine w13g ?_); refine q1w rfl _ _ rfl rfl rfl o1 o2 o3 o4 o5 F1 ?_; intro _ t1 ht1; clear F1; replace b := q0b b ht1 (Nat.le_trans qb hg1) (Nat.le_refl _); replace k2 := q0b k2 ht1 hg1 (Nat.le_refl _); have F1 := t1; clear t1 ht1) | (with_reducible refine w0g ?_; first | refine q0a rfl 22 _ rfl rfl (DAt.c0 F1) (by kernel_rfl) ?_ | refine q0a rfl 23 _ rfl rfl (DAt.c1 F1) (by kernel_rfl) ?_ | refine q0a rfl 25 _ rfl rfl (DAt.c5 F1) (by kernel_rfl) ?_ | refine q0a rfl 26 _ rfl rfl (DAt.c6 F1) (by kernel_rfl) ?_ | refine q0a rfl 27 _ rfl rfl (DAt.c7 F1) (by kernel_rfl) ?_))
   generalize wrap64 (z + wrap64 (wrap64 (wrap64 (wrap64 ((n1 : Int) + (n2 : Int)) + (n3 : Int)) + (n4 : Int)) + (n5 : Int))) = z2
   go_loopw [38] (fun i wr2 => ∃ j : Nat, i = .int .i64 j ∧ j ≤ n5 ∧ Below wr.heap.size wr wr2 ∧ Below w.heap.size w wr2) (fun i _ => n5 - (RowKit.intOf i).toNat)
   case atStart => exact ⟨0, rfl, by omega, k2, b⟩
   case round =>
    clear b k2 F1
    obtain ⟨j, rfl, hj, k2, b⟩ := hrel
    by_cases hlt5 : j < n5
    ·obtain ⟨x, hx, ok⟩ := q1a OKW.out (k := j) (by rw [← HN5.out]; exact hlt5)
     obtain ⟨bb5, k5, c5', he, _, hcs⟩ := (h5.later k2).block (by rw [← HN5.out]; omega)
     have d5 := hcs j x hx
     rw [← HN5.out] at he
     simp only [Value.slice.injEq] at he
     obtain ⟨rfl, -, rfl⟩ := he
     have OK := hide ok
     clear hcs hx ok
     by_cases hg : (4096 : Int) < (x.sig.size : Int)
     ·have cc := decide_eq_true hg
      go_wp2_with (first | (with_reducible refine w3g ?_; clear mF2; refine q8l rfl rfl ?_; intro _ g2 hg2 F2 ha; simp only [pS]) | ((with_reducible show wpList _ _ _ (⟨_, Op.store 74 _ _, _, _, _, _⟩ :: _) _ _); refine q7h rfl _ _ rfl rfl rfl OK.out F2 ?_; intro _ t1 ht1; have hb := q0b ha ht1 hg2 (Nat.le_refl _); clear F2; replace b := later b hb; replace k2 := later k2 hb; have F2 := t1; clear t1 ht1 ha hb; simp only [pS]) | ((with_reducible show wpList _ _ _ (⟨_, Op.load 74 _, _, _, _, _⟩ :: _) _ _); refine q5q rfl _ rfl rfl d5 OK.out ?_) | (with_reducible refine w0g ?_; refine q0a rfl 9 _ rfl rfl (WitAt.sig F2) (by kernel_rfl) ?_))
      go_ret
      exact ⟨⟨_, rfl, by simp⟩, b⟩
     ·have cc := decide_eq_false hg
      go_wp2_with (first | (with_reducible refine w3g ?_; clear mF2; refine q8l rfl rfl ?_; intro _ g2 hg2 F2 ha; simp only [pS]) | ((with_reducible show wpList _ _ _ (⟨_, Op.store 74 _ _, _, _, _, _⟩ :: _) _ _); refine q7h rfl _ _ rfl rfl rfl OK.out F2 ?_; intro _ t1 ht1; have hb := q0b ha ht1 hg2 (Nat.le_refl _); clear F2; replace b := later b hb; replace k2 := later k2 hb; have F2 := t1; clear t1 ht1 ha hb; simp only [pS]) | ((with_reducible show wpList _ _ _ (⟨_, Op.load 74 _, _, _, _, _⟩ :: _) _ _); refine q5q rfl _ rfl rfl d5 OK.out ?_) | (with_reducible refine w0g ?_; refine q0a rfl 9 _ rfl rfl (WitAt.sig F2) (by kernel_rfl) ?_))
      go_roundw
      case rel => exact ⟨j + 1, by simp, by omega, k2, b⟩
      case measure => simp [RowKit.intOf]; omega
    ·obtain rfl : n5 = j := by omega
     by_cases hz : (300 : Int) < z2
     ·have cc := decide_eq_true hz
      go_wp2_with fail
      go_ret
      exact ⟨⟨_, rfl, by simp⟩, b⟩
     ·have cc := decide_eq_false hz
      go_wp2_with fail
      go_roundw
      case rel => exact ⟨k + 1, _, by simp, by omega, rfl, b⟩
      case measure => simp [RowKit.intOf]; omega
  case neg =>
   obtain rfl : n = k := by omega
   go_wp2_with fail
   go_ret
   refine ⟨⟨_, rfl, ?_⟩, b⟩
   intro h
   have := of_decide_eq_false h
   omega
theorem q8u (v : Value) (x : Blk) (w : World) (h : BlkIs w v x) (hf : ∀ d ∈ x.deeds, d.Fit) (hn : x.deeds.length ≤ 9223372036854775807) :
  Calls Tryz.prog 30 #[v] w fun e w' => (∃ B : Bool, e = .returned (.bool B) ∧ (B = false → x.deeds.length ≤ 60)) ∧ Below w.heap.size w w' := by
 obtain ⟨u, rfl, hD, hok⟩ := h
 have HH := hide (fun (w' : World) (hb : Below w.heap.size w w') => j9z u x.deeds w' (hD.later hb) hf hn)
 have o1 : u.oneCell' = true := by obtain ⟨a, c, rfl⟩ := hD.shape; rfl
 have HOK := hide hok
 have b := Below.refl w.heap.size w
 clear hD hf hn hok
 generalize x.deeds.length = n at *
 generalize x.head = d at *
 clear x
 have h1 : ∃ B, decide ((8192 : Int) < (d.sig.size : Int)) = B := ⟨_, rfl⟩
 have h2 : ∃ B, decide ((8192 : Int) < (d.right.sig.size : Int)) = B := ⟨_, rfl⟩
 obtain ⟨B1, c1⟩ := h1
 obtain ⟨B2, c2⟩ := h2
 have mF1 := True.intro
 go_enter Tryz.func30, Tryz.ntmps30
 go_wp2_with (first | (with_reducible refine w2g ?_; clear mF1; refine q0l rfl _ rfl rfl HOK.out o1 ?_; intro _ g1 hg1 F1 hb; (try replace b := later b hb); clear hb) | (with_reducible refine w0g ?_; refine q0a rfl 42 _ rfl rfl (KAt.ds F1) (by kernel_rfl) ?_) | (with_reducible refine w0g ?_; refine q0a rfl 9 _ rfl rfl (KAt.sig F1) (by kernel_rfl) ?_) | (with_reducible refine w0g ?_; refine q0a rfl 9 _ rfl rfl (KAt.rsig F1) (by kernel_rfl) ?_) | (go_at_call 23; refine (HH.out _ b).mono ?_; rintro _ _ ⟨⟨B, rfl, hB⟩, hc⟩; (try replace F1 := F1.later hc); (try replace b := later b hc); clear hc; cases B))
 all_goals
  go_ret
  refine ⟨⟨_, rfl, ?_⟩, b⟩
  first | (intro h; cases h; done) | exact fun _ => hB trivial
theorem x4x (v : Value) (l : List H32) (i : Nat) (w : World) (hv0 : Hs w v l) (hm : l.length ≤ 400000) (hi : i < l.length) :
  Calls Tryz.prog 86 #[v, .int .i64 i] w (fun e w' => ∃ pv, e = .returned (.tuple #[pv, .int .i64 0]) ∧ OwnHs w' w.heap.size pv (provL l i) ∧ (∀ h ∈ provL l i, h.length = 32) ∧ Below w.heap.size w w') := by
 obtain ⟨a, cap, rfl, hc1, hc2, hc0⟩ := hv0.shape
 have p0 : One ((w.alloc (.cells #[.int .i64 i] 3)).alloc (.cells #[.slice none 0 0] 63)) w.heap.size 3 (.int .i64 i) := Arr.alloc (Arr.new w [.int .i64 i] 3) _
 have q0 : One ((w.alloc (.cells #[.int .i64 i] 3)).alloc (.cells #[.slice none 0 0] 63)) (w.heap.size + 1) 63 (.slice none 0 0) := Arr.new2 w _ [.slice none 0 0] _
 have b := below2 w (.cells #[.int .i64 i] 3) (.cells #[.slice none 0 0] 63)
 have s0 : w.heap.size + 2 ≤ ((w.alloc (.cells #[.int .i64 i] 3)).alloc (.cells #[.slice none 0 0] 63)).heap.size := by simp
 have hI : ∀ W, One W w.heap.size 3 (.int .i64 i) → One W (w.heap.size + 1) 63 (.slice none 0 0) → w.heap.size + 2 ≤ W.heap.size → ProveI w.heap.size (provL l i) l.length (l.map leafL) (fun b => b = w.heap.size ∨ b = w.heap.size + 1 ∨ (Value.slice none 0 0).ownBlock = some b) W :=
  fun W h1 h2 h3 => ⟨i, .slice none 0 0, [], h1, h2, World.ownsRow_nil _ _ _ _, by simp, rfl, by omega, by simp; omega, h3, fun _ => Iff.rfl⟩
 have HI := hide hI
 have hv1 := hv0.later b
 clear hI
 go_enter Tryz.func86, Tryz.ntmps86
 go_wp2_with fail
 show Calls _ _ _ ((w.alloc (.cells #[.int .i64 i] 3)).alloc (.cells #[.slice none 0 0] 63)) _
 generalize (w.alloc (.cells #[.int .i64 i] 3)).alloc (.cells #[.slice none 0 0] 63) = W at *
 refine (x3k w.heap.size (w.heap.size + 1) w.heap.size (ProveI w.heap.size (provL l i)) _ _ l W hv1 (by omega) (by omega) (by omega) (x3g _ _) (HI.out W p0 q0 s0)).mono ?_
 rintro _ w1 ⟨rfl, hb1, f, r, S, hr1, j, vo, acc, hp, hq, ho, ha, HP, hj, hfa, hsz, hS⟩
 have hacc : acc = provL l i := by rw [← HP.out, j0z _ _ _ hr1, List.append_nil]
 have hres : OwnHs w1 w.heap.size vo (provL l i) := by rw [← hacc]; exact q9v ho (by omega)
 have hlen : ∀ h ∈ provL l i, h.length = 32 := by rw [← hacc]; exact ha
 have cq := hq.cell
 have b1 := b.trans hb1
 clear hp hq ho ha HP hacc HI p0 q0 s0 b hb1
 go_wp2_with fail
 go_ret2
 exact ⟨_, rfl, hres, hlen, b1⟩
theorem OwnHs.off {w w' : World} {B g : Nat} {v : Value} {l : List H32} (h : OwnHs w B v l) (ht : Touch (fun x => x = g) w w') (hg : g < B) : OwnHs w' B v l := q1h h ht (fun y hy hs => by
 have h1 := (World.ownsRow.lt h y hy).1
 have h2 : y = g := hs
 omega)
/-- What Prove hands back. -/
def ProvB (x : Blk) (i : Int) (w : World) (e : Ending) (w' : World) : Prop :=
  ((mayB x = false ∧ e = .returned (.tuple #[hv zero32, nilD, .int .i64 2])) ∨ (mayB x = true ∧ (i < 0 ∨ (x.deeds.length : Int) ≤ i) ∧ e = .returned (.tuple #[hv zero32, nilD, .int .i64 5])) ∨
    (mayB x = true ∧ ∃ (k : Nat) (pv : Value), i = (k : Int) ∧ k < x.deeds.length ∧ e = .returned (.tuple #[hv ((fulsB x.deeds).getD k []), pv, .int .i64 0]) ∧ Hs w' pv (provL (fulsB x.deeds) k))) ∧ Below w.heap.size w w'
theorem int3 (i : Int) (n : Nat) : i < 0 ∨ (n : Int) ≤ i ∨ ∃ K : Nat, i = (K : Int) ∧ K < n := by
 by_cases h : i < 0
 ·exact .inl h
 ·by_cases h2 : i < n
  ·exact .inr (.inr ⟨i.toNat, by omega, by omega⟩)
  ·exact .inr (.inl (by omega))
theorem j5n (l : List Deed) {k : Nat} (hk : k < l.length) : ((fulsB l).getD k []).length = 32 := by
 have h : k < (fulsB l).length := by unfold fulsB; rw [List.length_map]; exact hk
 rw [List.getD_eq_getElem?_getD, List.getElem?_eq_getElem h]
 have := List.getElem_mem h
 obtain ⟨d, _, e⟩ := List.mem_map.1 this
 show ((fulsB l)[k]).length = 32
 rw [← e]
 exact q7k d
theorem j0l (v : Value) (x : Blk) (i : Int) (w : World) (h : BlkIs w v x) (hn : x.deeds.length ≤ 1000) (hf : ∀ d ∈ x.deeds, d.Fit) :
    Calls Tryz.prog 40 #[v, .int .i64 i] w (ProvB x i w) := by
  have HM := hide (fun (w' : World) (hb : Below w.heap.size w w') => q9q v x w' (h.later hb) hn hf)
  obtain ⟨u, rfl, hD, hok⟩ := h
  have HBB := hide (fun (w' : World) (hb : Below w.heap.size w w') => j0k u x.deeds w' (hD.later hb) hn hf)
  obtain ⟨a1, c1, rfl⟩ := hD.shape
  have o1 : (Value.slice a1 x.deeds.length c1).oneCell' = true := rfl
  have HOK := hide hok
  have HZ : Hid (zero32.length = 32) := rfl
  have b := Below.refl w.heap.size w
  unfold ProvB
  by_cases hm : mayB x = true
  · have hall : x.deeds.all mayD = true := by
      have hfw := j1r hm
      simp only [fewB, Bool.and_eq_true] at hfw
      exact hfw.1
    have hfl : (fulsB x.deeds).length = x.deeds.length := by unfold fulsB; rw [List.length_map]
    rw [if_pos hm] at HM
    rw [hall] at HBB
    rcases int3 i x.deeds.length with hi | hi | ⟨K, rfl, hK⟩
    · have hio : i < 0 ∨ ((fulsB x.deeds).length : Int) ≤ i := .inl hi
      have HPI := hide (fun (fv : Value) (w' : World) (S : Hs w' fv (fulsB x.deeds)) => j8b fv (fulsB x.deeds) i w' S hio)
      have HHS := hide (fun (fv : Value) (w' : World) (S : Sl w' fv 32 (x.deeds.map fuC)) => j7d S)
      have HPO2 := hide (fun (e : Ending) (w' : World) (he : e = .returned (.tuple #[hv zero32, nilD, .int .i64 5])) => (Or.inr (Or.inl ⟨hm, by rw [hfl] at hio; exact hio, he⟩) : (mayB x = false ∧ e = .returned (.tuple #[hv zero32, nilD, .int .i64 2])) ∨ (mayB x = true ∧ (i < 0 ∨ (x.deeds.length : Int) ≤ i) ∧ e = .returned (.tuple #[hv zero32, nilD, .int .i64 5])) ∨ (mayB x = true ∧ ∃ (k : Nat) (pv : Value), i = (k : Int) ∧ k < x.deeds.length ∧ e = .returned (.tuple #[hv ((fulsB x.deeds).getD k []), pv, .int .i64 0]) ∧ Hs w' pv (provL (fulsB x.deeds) k))))
      clear hall hfl hD hok hf hio hm hi
      generalize mayB x = MB at *
      generalize x.head = d at *
      generalize hfl2 : fulsB x.deeds = fl at *
      generalize hDl : x.deeds.map fuC = fd at *
      generalize x.deeds.map txC = td at *
      generalize x.deeds.length = n at *
      clear hDl hfl2
      have mF1 := True.intro
      have mF2 := True.intro
      go_enter Tryz.func40, Tryz.ntmps40
      go_wp2_with (first | (with_reducible refine w2g ?_; clear mF1; refine q0l rfl _ rfl rfl HOK.out o1 ?_; intro _ g1 hg1 F1 hb; (try replace b := later b hb); clear hb) | (with_reducible refine w3g ?_; clear mF2; refine q0k rfl rfl ?_; intro _ g2 hg2 F2 hb; (try have := F1.lt); (try have := F2.lt); (try have := F4.lt); (try have := F5.lt); (try have := F6.lt); (try have := b.size); (try replace F1 := F1.later hb); (try replace b := later b hb); clear hb) | (with_reducible refine w16g ?_; refine q0p rfl _ rfl rfl F1 ?_) | (with_reducible refine w0g ?_; refine q0a rfl 42 _ rfl rfl (KAt.ds F1) (by kernel_rfl) ?_) | (go_at_call 36; refine (HM.out _ b).mono ?_; rintro _ _ ⟨rfl, hc⟩; (try replace F1 := F1.later hc); (try replace F2 := F2.later hc); (try replace b := later b hc); clear hc) | (go_at_call 62; refine (HBB.out _ b).mono ?_; rintro _ _ ⟨hx, hc⟩; (try replace F1 := F1.later hc); (try replace F2 := F2.later hc); (try replace b := later b hc); clear hc; replace hx := hx.resolve_right (fun h => by cases h.1); obtain ⟨_, tv, fv, rfl, _, F4⟩ := hx; replace F4 := HHS.out _ _ F4) | (go_at_call 86; refine (HPI.out _ _ F4).mono ?_; rintro _ _ ⟨rfl, hc⟩; (try replace F1 := F1.later hc); (try replace F2 := F2.later hc); (try replace F4 := F4.later hc); (try replace b := later b hc); clear hc) | (with_reducible refine w5g ?_; refine q1z rfl rfl ?_) | (with_reducible refine w4g ?_; refine q0i rfl _ _ rfl rfl rfl HZ.out F2 ?_; intro _ t1 ht; (try replace F1 := F1.tt ht); (try replace b := q0b b ht (by omega) (by omega)); replace F2 := t1; clear ht))
      exact bodyPost_ret (q5o rfl _ _ _ _ rfl rfl rfl F2) rfl ⟨HPO2.out _ _ rfl, b⟩
    · have hio : i < 0 ∨ ((fulsB x.deeds).length : Int) ≤ i := .inr (by rw [hfl]; exact hi)
      have HPI := hide (fun (fv : Value) (w' : World) (S : Hs w' fv (fulsB x.deeds)) => j8b fv (fulsB x.deeds) i w' S hio)
      have HHS := hide (fun (fv : Value) (w' : World) (S : Sl w' fv 32 (x.deeds.map fuC)) => j7d S)
      have HPO2 := hide (fun (e : Ending) (w' : World) (he : e = .returned (.tuple #[hv zero32, nilD, .int .i64 5])) => (Or.inr (Or.inl ⟨hm, by rw [hfl] at hio; exact hio, he⟩) : (mayB x = false ∧ e = .returned (.tuple #[hv zero32, nilD, .int .i64 2])) ∨ (mayB x = true ∧ (i < 0 ∨ (x.deeds.length : Int) ≤ i) ∧ e = .returned (.tuple #[hv zero32, nilD, .int .i64 5])) ∨ (mayB x = true ∧ ∃ (k : Nat) (pv : Value), i = (k : Int) ∧ k < x.deeds.length ∧ e = .returned (.tuple #[hv ((fulsB x.deeds).getD k []), pv, .int .i64 0]) ∧ Hs w' pv (provL (fulsB x.deeds) k))))
      clear hall hfl hD hok hf hio hm hi
      generalize mayB x = MB at *
      generalize x.head = d at *
      generalize hfl2 : fulsB x.deeds = fl at *
      generalize hDl : x.deeds.map fuC = fd at *
      generalize x.deeds.map txC = td at *
      generalize x.deeds.length = n at *
      clear hDl hfl2
      have mF1 := True.intro
      have mF2 := True.intro
      go_enter Tryz.func40, Tryz.ntmps40
      go_wp2_with (first | (with_reducible refine w2g ?_; clear mF1; refine q0l rfl _ rfl rfl HOK.out o1 ?_; intro _ g1 hg1 F1 hb; (try replace b := later b hb); clear hb) | (with_reducible refine w3g ?_; clear mF2; refine q0k rfl rfl ?_; intro _ g2 hg2 F2 hb; (try have := F1.lt); (try have := F2.lt); (try have := F4.lt); (try have := F5.lt); (try have := F6.lt); (try have := b.size); (try replace F1 := F1.later hb); (try replace b := later b hb); clear hb) | (with_reducible refine w16g ?_; refine q0p rfl _ rfl rfl F1 ?_) | (with_reducible refine w0g ?_; refine q0a rfl 42 _ rfl rfl (KAt.ds F1) (by kernel_rfl) ?_) | (go_at_call 36; refine (HM.out _ b).mono ?_; rintro _ _ ⟨rfl, hc⟩; (try replace F1 := F1.later hc); (try replace F2 := F2.later hc); (try replace b := later b hc); clear hc) | (go_at_call 62; refine (HBB.out _ b).mono ?_; rintro _ _ ⟨hx, hc⟩; (try replace F1 := F1.later hc); (try replace F2 := F2.later hc); (try replace b := later b hc); clear hc; replace hx := hx.resolve_right (fun h => by cases h.1); obtain ⟨_, tv, fv, rfl, _, F4⟩ := hx; replace F4 := HHS.out _ _ F4) | (go_at_call 86; refine (HPI.out _ _ F4).mono ?_; rintro _ _ ⟨rfl, hc⟩; (try replace F1 := F1.later hc); (try replace F2 := F2.later hc); (try replace F4 := F4.later hc); (try replace b := later b hc); clear hc) | (with_reducible refine w5g ?_; refine q1z rfl rfl ?_) | (with_reducible refine w4g ?_; refine q0i rfl _ _ rfl rfl rfl HZ.out F2 ?_; intro _ t1 ht; (try replace F1 := F1.tt ht); (try replace b := q0b b ht (by omega) (by omega)); replace F2 := t1; clear ht))
      exact bodyPost_ret (q5o rfl _ _ _ _ rfl rfl rfl F2) rfl ⟨HPO2.out _ _ rfl, b⟩
    · have HPI := hide (fun (fv : Value) (w' : World) (S : Hs w' fv (fulsB x.deeds)) => x4x fv (fulsB x.deeds) K w' S (by rw [hfl]; omega) (by rw [hfl]; exact hK))
      have HLK := hide (j5n x.deeds hK)
      have HFL := hide hfl
      have HPO := hide (fun (e : Ending) (w' : World) (hx : ∃ (k : Nat) (pv : Value), (K : Int) = (k : Int) ∧ k < x.deeds.length ∧ e = .returned (.tuple #[hv ((fulsB x.deeds).getD k []), pv, .int .i64 0]) ∧ Hs w' pv (provL (fulsB x.deeds) k)) => (Or.inr (Or.inr ⟨hm, hx⟩) : (mayB x = false ∧ e = .returned (.tuple #[hv zero32, nilD, .int .i64 2])) ∨ (mayB x = true ∧ ((K : Int) < 0 ∨ (x.deeds.length : Int) ≤ K) ∧ e = .returned (.tuple #[hv zero32, nilD, .int .i64 5])) ∨ (mayB x = true ∧ ∃ (k : Nat) (pv : Value), (K : Int) = (k : Int) ∧ k < x.deeds.length ∧ e = .returned (.tuple #[hv ((fulsB x.deeds).getD k []), pv, .int .i64 0]) ∧ Hs w' pv (provL (fulsB x.deeds) k))))
      have c1 : (0 : Int) ≤ (K : Int) := by omega
      have HHS := hide (fun (fv : Value) (w' : World) (S : Sl w' fv 32 (x.deeds.map fuC)) => j7d S)
      have h16 : x.deeds.length ≤ 16 := by
        have hfw := j1r hm
        simp only [fewB, Bool.and_eq_true, decide_eq_true_eq] at hfw
        exact hfw.2.1
      clear hm hall hfl hD hok hf
      generalize mayB x = MB at *
      generalize fulsB x.deeds = fl at *
      generalize hDl : x.deeds.map fuC = fd at *
      generalize x.deeds.map txC = td at *
      generalize x.head = d at *
      generalize x.deeds.length = n at *
      clear hDl
      have mF1 := True.intro
      have mF2 := True.intro
      go_enter Tryz.func40, Tryz.ntmps40
      go_wp2_with (first | (with_reducible refine w2g ?_; clear mF1; refine q0l rfl _ rfl rfl HOK.out o1 ?_; intro _ g1 hg1 F1 hb; (try replace b := later b hb); clear hb) | (with_reducible refine w3g ?_; clear mF2; refine q0k rfl rfl ?_; intro _ g2 hg2 F2 hb; (try have := F1.lt); (try have := F2.lt); (try have := F4.lt); (try have := F5.lt); (try have := F6.lt); (try have := b.size); (try replace F1 := F1.later hb); (try replace b := later b hb); clear hb) | (with_reducible refine w16g ?_; refine q0p rfl _ rfl rfl F1 ?_) | (with_reducible refine w0g ?_; refine q0a rfl 42 _ rfl rfl (KAt.ds F1) (by kernel_rfl) ?_) | (go_at_call 36; refine (HM.out _ b).mono ?_; rintro _ _ ⟨rfl, hc⟩; (try replace F1 := F1.later hc); (try replace F2 := F2.later hc); (try replace b := later b hc); clear hc) | (go_at_call 62; refine (HBB.out _ b).mono ?_; rintro _ _ ⟨hx, hc⟩; (try replace F1 := F1.later hc); (try replace F2 := F2.later hc); (try replace b := later b hc); clear hc; replace hx := hx.resolve_right (fun h => by cases h.1); obtain ⟨_, tv, fv, rfl, _, F4⟩ := hx; replace F4 := HHS.out _ _ F4; obtain ⟨aF, cF, rfl, _⟩ := F4.shape; rw [HFL.out] at F4 ⊢) | (go_at_call 86; have q2 := F2.lt; refine (HPI.out _ _ F4).mono ?_; rintro _ _ ⟨pv, rfl, F5, F6, hc⟩; replace F4 := F4.later hc; (try replace F1 := F1.later hc); (try replace F2 := F2.later hc); (try replace b := later b hc); clear hc; obtain ⟨bb, k0, c', he, _, _, _, hcs⟩ := F4.block (by rw [HFL.out]; omega); rw [HFL.out] at he; simp only [Value.slice.injEq] at he; obtain ⟨rfl, -, rfl⟩ := he; have d1 := hcs K (by rw [HFL.out]; omega); clear hcs) | (with_reducible show wpList _ _ _ (⟨_, Op.load 34 _, _, _, _, _⟩ :: _) _ _; refine q0g rfl _ rfl rfl d1 HLK.out ?_) | (with_reducible refine w4g ?_; refine q0i rfl _ _ rfl rfl rfl HLK.out F2 ?_; intro _ t1 ht; replace F5 := F5.off ht q2; clear F2; have F2 := t1; replace b := q0b b ht (by omega) (by omega); clear t1 ht))
      exact bodyPost_ret (q5o rfl _ _ _ _ rfl rfl rfl F2) rfl ⟨HPO.out _ _ ⟨K, _, rfl, hK, rfl, OwnHs.hs F5 F6⟩, b⟩
  · have hm' : mayB x = false := by simpa using hm
    rw [if_neg hm] at HM
    rw [hm']
    clear hm hm' hD hok hf HBB
    generalize x.head = d at *
    generalize x.deeds.length = n at *
    have mF1 := True.intro
    have mF2 := True.intro
    go_enter Tryz.func40, Tryz.ntmps40
    go_wp2_with (first | (with_reducible refine w2g ?_; clear mF1; refine q0l rfl _ rfl rfl HOK.out o1 ?_; intro _ g1 hg1 F1 hb; (try replace b := later b hb); clear hb) | (with_reducible refine w3g ?_; clear mF2; refine q0k rfl rfl ?_; intro _ g2 hg2 F2 hb; (try have := F1.lt); (try have := F2.lt); (try have := F4.lt); (try have := F5.lt); (try have := F6.lt); (try have := b.size); (try replace F1 := F1.later hb); (try replace b := later b hb); clear hb) | (with_reducible refine w16g ?_; refine q0p rfl _ rfl rfl F1 ?_) | (go_at_call 36; refine (HM.out _ b).mono ?_; rintro _ _ ⟨rfl, hc⟩; (try replace F1 := F1.later hc); (try replace F2 := F2.later hc); (try replace b := later b hc); clear hc) | (with_reducible refine w5g ?_; refine q1z rfl rfl ?_) | (with_reducible refine w4g ?_; refine q0i rfl _ _ rfl rfl rfl HZ.out F2 ?_; intro _ t1 ht; (try replace F1 := F1.tt ht); (try replace b := q0b b ht (by omega) (by omega)); replace F2 := t1; clear ht))
    exact bodyPost_ret (q5o rfl _ _ _ _ rfl rfl rfl F2) rfl ⟨.inl ⟨by simp, rfl⟩, b⟩
end Go.Proofs.YtbbfnpfkbbpjgaaGreat
