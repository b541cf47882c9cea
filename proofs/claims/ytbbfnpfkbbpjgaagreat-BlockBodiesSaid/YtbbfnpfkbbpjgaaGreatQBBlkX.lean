/- Layer 15: that a block goes there and back: works. -/
import Derived.Test.YtbbfnpfkbbpjgaaGreatQBBlkV
import Derived.Test.YtbbfnpfkbbpjgaaGreatQBBlkF
import Derived.Test.YtbbfnpfkbbpjgaaGreatQBBlk5
import Derived.Test.YtbbfnpfkbbpjgaaGreatQBBlk8
import Derived.Test.YtbbfnpfkbbpjgaaGreatQBBlk4
import Derived.Test.YtbbfnpfkbbpjgaaGreatQBBlkM
import Derived.Test.YtbbfnpfkbbpjgaaGreatQBDeed8
import Derived.Test.YtbbfnpfkbbpjgaaGreatQBElWit
import Derived.Test.YtbbfnpfkbbpjgaaGreatQBHdEq
import Derived.Test.YtbbfnpfkbbpjgaaGreatQBBkR2
import Derived.Test.YtbbfnpfkbbpjgaaGreatQBBlk3
namespace Go.Proofs.YtbbfnpfkbbpjgaaGreat
open Go.RowKit Go.Lib
set_option linter.unusedVariables false
set_option linter.unusedSimpArgs false
set_option maxRecDepth 100000
set_option maxHeartbeats 4000000
theorem q8p {o : Oper} {a : Act} {K : Act → Prop} {w0 : World} {g : Nat} {d : Hd} {v : Value} (x : Operand) (ho : o.op = .load 51 x) (hx : a.eval x = .pointer (some ⟨g, 0, none⟩)) (h : KAt w0 g d v) (hk : K (a.put o.dst (blkV d v))) :
    o.quiet Tryz.prog a (fun w' => ∃ s : Kept (fun x => Below w0.heap.size w0 x), w' = s.w) K :=
  q5z 51 x ho hx h.cells _ Tryz.underlying51 rfl (by rw [q2v v h.ok]; exact blkSize) hk
theorem j7b : mayH hdOne = true := by decide +kernel
theorem x0q : fewB blkOne.deeds = true := by
  show fewB [smallD] = true
  unfold fewB sizB
  rw [Bool.and_eq_true, Bool.and_eq_true]
  refine ⟨by simp [x0l], by simp, ?_⟩
  simp only [List.map_cons, List.map_nil, List.sum_cons, List.sum_nil, q8b]
  decide
theorem j0n : mayB blkOne = true := by
  unfold mayB
  rw [x0q, show mayH blkOne.head = true from j7b]
  rfl
theorem x0a : sizB blkOne.deeds = 41 := by
  show sizB [smallD] = 41
  unfold sizB
  simp only [List.map_cons, List.map_nil, List.sum_cons, List.sum_nil, q8b, Nat.add_zero]
theorem j6q : fitB blkOne = false := by
  unfold fitB
  rw [x0a]
  rw [show decide (blkOne.head.size = 41) = false from rfl, Bool.false_and, Bool.and_false, Bool.and_false]
theorem x1k : (putB blkOne).length = 2363 := by
  have h1 := q8x blkOne_ok.head j7b
  unfold putB
  rw [List.length_append, h1]
  show 2320 + (putL 1 ++ [smallD].flatMap fun d => putText (fullL d)).length = 2363
  rw [List.flatMap_cons, List.flatMap_nil, List.append_nil]
  unfold putText
  rw [q8b, List.length_append, List.length_append, q8b]
  decide
theorem j3f : ∀ d ∈ blkOne.deeds, d.Fit := by intro d hd; simp [blkOne] at hd; subst hd; exact x1m
theorem x4s (x : Blk) : samB x x = true := (x9v x x).2 rfl
theorem works15 (w : World) : Calls Tryz.prog 24 #[] w fun e w' => e = .returned (.bool true) ∧ Below w.heap.size w w' := by
  obtain ⟨sS, hsS⟩ : ∃ s : ByteArray, s = ⟨(putB blkOne).toArray⟩ := ⟨_, rfl⟩
  have hz : sS.size = 2363 := by rw [hsS]; show (putB blkOne).toArray.size = 2363; rw [List.size_toArray]; exact x1k
  have hl : sS.data.toList = putB blkOne := by rw [hsS]
  have HO := hide x2o
  have HP := hide (fun v w (h : BlkIs w v blkOne) => x7q v blkOne w h (by decide) j3f)
  rw [if_pos j0n, if_pos j0n, ← hsS] at HP
  have HTK : Hid (∀ w, Calls Tryz.prog 27 #[.string sS] w fun e w' => (∃ v, e = .returned (.tuple #[v, .int .i64 0]) ∧ BlkIs w' v blkOne) ∧ Below w.heap.size w w') := fun w => by
    have := x4l sS w (by omega)
    rwa [hl, x7l blkOne_ok j0n] at this
  have HSA := hide (fun v u w (h : BlkIs w v blkOne) (k : BlkIs w u blkOne) => x5g v u blkOne blkOne w h k)
  rw [x4s] at HSA
  have HF := hide (fun v w (h : BlkIs w v blkOne) => x5v v blkOne w h (by decide) j3f)
  rw [j6q] at HF
  have c41 : ((sS.size : Int) == 2363) = true := by rw [hz]; rfl
  have b := Below.refl w.heap.size w
  clear hsS hl hz
  generalize blkOne = X at *
  have mF3 := True.intro
  go_enter Tryz.func24, Tryz.ntmps24
  go_wp2_with (first | (go_at_call 39; refine (HO.out _).mono ?_; rintro _ _ ⟨⟨v0, rfl, I0⟩, hc⟩; replace b := later b hc; clear hc) | (go_at_call 31; refine (HP.out _ _ I0).mono ?_; rintro _ _ ⟨rfl, hc⟩; replace b := later b hc; clear hc I0) | (go_at_call 27; go_loud (refine (HTK.out _).mono ?_; rintro _ _ ⟨⟨v1, rfl, I1⟩, hc⟩; have J1 := I1; obtain ⟨u1, rfl, D1, ok1⟩ := I1; have o1 : u1.oneCell' = true := (by obtain ⟨a, c, rfl⟩ := D1.shape; rfl); clear D1; replace b := later b hc; clear hc)) | (with_reducible refine w5g ?_; clear mF3; refine q2j rfl rfl ?_; intro _ g3 hg3 F3 ha) | ((with_reducible refine w6g ?_); refine q0z rfl _ _ rfl rfl rfl ok1 o1 F3 ?_; intro _ t1 ht1; have hb := q0c ha ht1 hg3 (Nat.le_refl _); clear F3; have F3 := t1; clear t1 ha ht1; replace J1 := J1.later hb; replace b := later b hb; clear hb) | (with_reducible show Code.wp _ (Code.region _ _ true) _ _ _; (try simp only [pS]); fail))
  (try simp only [pS])
  refine q1n (fun x => Below _ _ x) (.one [0, 1, 2, 3, 4, 5, 6, 7, 8] 9 (.fl [] 10 (.fl [11, 12, 13, 14, 15, 16, 17] 18 (.stop [19, 20, 21])))) (by kernel_rfl) (by kernel_rfl) (by kernel_rfl) (by decide) (q3h (Nat.le_refl _)) (Below.refl _ _) ?_
  intro _ _ _ _
  refine q0w ?_
  simp only [pickOps, opAt, List.getElem?_cons_succ, List.getElem?_cons_zero, List.nil_append, List.cons_append]
  repeat (first | go_big_quiet_skip | (go_big_quiet_want; first | ((with_reducible refine w22g ?_); first | (refine q8p _ rfl rfl F3 ?_; simp only [pS]; go_big_quiet_on)) | ((with_reducible refine w27g ?_); refine q3q _ _ rfl (deedCs nilS nilS nilS nilS nilS 0 0 0).toArray (by simp only [List.map_toArray, List.map_cons, List.map_nil]; exact deedBuilt0) ?_; simp only [pS]; go_big_quiet_on) | (go_big_quiet_op; first | go_big_quiet_on | (refine ⟨_, fun _ => rfl, ?_⟩; go_big_quiet_on))))
  refine wpQuiet_nil ?_
  intro _ hb k
  replace F3 := F3.later k
  replace J1 := J1.later k
  replace b := later b k
  go_wp2_with (go_at_call 39; refine (HO.out _).mono ?_; rintro _ _ ⟨⟨v3, rfl, I3⟩, hc⟩; replace k := later k hc; replace F3 := F3.later hc; replace J1 := J1.later hc; replace b := later b hc; clear hc)
  refine q6x (q3h (Nat.le_refl _)) k ?_
  (try simp only [pS])
  clear hb k
  refine q7k ?_
  simp only [pickOps, opAt, List.getElem?_cons_succ, List.getElem?_cons_zero, List.nil_append, List.cons_append]
  repeat (first | go_big_quiet_skip | (go_big_quiet_want; first | ((with_reducible refine w22g ?_); first | (refine q8p _ rfl rfl F3 ?_; simp only [pS]; go_big_quiet_on)) | ((with_reducible refine w27g ?_); refine q3q _ _ rfl (deedCs nilS nilS nilS nilS nilS 0 0 0).toArray (by simp only [List.map_toArray, List.map_cons, List.map_nil]; exact deedBuilt0) ?_; simp only [pS]; go_big_quiet_on) | (go_big_quiet_op; first | go_big_quiet_on | (refine ⟨_, fun _ => rfl, ?_⟩; go_big_quiet_on))))
  refine wpQuiet_nil ?_
  refine q7f (by rfl) rfl (by kernel_rfl) (by simp only [List.map_toArray, List.map_cons, List.map_nil] <;> rfl) (fun w' hC => HSA.out _ _ _ (J1.later (Kl.out hC)) (I3.later (Kl.out hC))) ?_
  simp only [pS]
  refine q7k ?_
  simp only [pickOps, opAt, List.getElem?_cons_succ, List.getElem?_cons_zero, List.nil_append, List.cons_append]
  repeat (first | go_big_quiet_skip | (go_big_quiet_want; first | ((with_reducible refine w22g ?_); first | (refine q8p _ rfl rfl F3 ?_; simp only [pS]; go_big_quiet_on)) | ((with_reducible refine w27g ?_); refine q3q _ _ rfl (deedCs nilS nilS nilS nilS nilS 0 0 0).toArray (by simp only [List.map_toArray, List.map_cons, List.map_nil]; exact deedBuilt0) ?_; simp only [pS]; go_big_quiet_on) | (go_big_quiet_op; first | go_big_quiet_on | (refine ⟨_, fun _ => rfl, ?_⟩; go_big_quiet_on))))
  refine wpQuiet_nil ?_
  refine q7f (by rfl) rfl (by kernel_rfl) (by simp only [List.map_toArray, List.map_cons, List.map_nil] <;> rfl) (fun w' hC => HF.out _ _ (J1.later (Kl.out hC))) ?_
  simp only [pS]
  refine q2i ?_
  simp only [pickOps, opAt, List.getElem?_cons_succ, List.getElem?_cons_zero, List.nil_append, List.cons_append]
  repeat (first | go_big_quiet_skip | (go_big_quiet_want; first | ((with_reducible refine w22g ?_); first | fail) | ((with_reducible refine w27g ?_); refine q3q _ _ rfl (deedCs nilS nilS nilS nilS nilS 0 0 0).toArray (by simp only [List.map_toArray, List.map_cons, List.map_nil]; exact deedBuilt0) ?_; simp only [pS]; go_big_quiet_on) | (go_big_quiet_op; first | go_big_quiet_on | (refine ⟨_, fun _ => rfl, ?_⟩; go_big_quiet_on))))
  refine wpQuiet_nil ?_
  intro _ hb k
  replace b := later b k
  go_wp2_with fail
  go_ret
  exact ⟨rfl, b⟩
end Go.Proofs.YtbbfnpfkbbpjgaaGreat
/- Layer 15: heavy and great: a block that is not great has at most sixty deeds. -/
namespace Go.Proofs.YtbbfnpfkbbpjgaaGreat
open Go.RowKit Go.Lib
set_option linter.unusedVariables false
set_option linter.unusedSimpArgs false
set_option maxRecDepth 100000
set_option maxHeartbeats 4000000
theorem j7x (v : Value) (l : List Deed) (w : World) (h : DsIs w v l) (hf : ∀ d ∈ l, d.Fit) (hn : l.length ≤ 9223372036854775807) :
    Calls Tryz.prog 23 #[v] w fun e w' => (∃ B : Bool, e = .returned (.bool B) ∧ (B = false → l.length ≤ 60)) ∧ Below w.heap.size w w' := by
  obtain ⟨a1, c1, rfl⟩ := h.shape
  obtain ⟨n, hn'⟩ : ∃ n, n = l.length := ⟨_, rfl⟩
  have HN := hide hn'
  have HFT := hide hf
  rw [← hn'] at h hn ⊢
  clear hn' hf
  have b := Below.refl w.heap.size w
  go_enter Tryz.func23, Tryz.ntmps23
  go_wp2_with fail
  go_loopw [3, 10] (fun q i wr => ∃ (k : Nat) (z : Int), i = .int .i64 k ∧ k ≤ n ∧ q = .int .i64 z ∧ Below w.heap.size w wr) (fun _ i _ => n - (RowKit.intOf i).toNat)
  case atStart => exact ⟨0, 0, rfl, by omega, rfl, b⟩
  case round =>
    clear b
    obtain ⟨k, z, rfl, hk, rfl, b⟩ := hrel
    by_cases hlt : k < n
    case pos =>
      obtain ⟨d, hd⟩ : ∃ d, l[k]? = some d := ⟨_, List.getElem?_eq_getElem (by rw [← HN.out]; exact hlt)⟩
      obtain ⟨bb, k0, c', he, _, hcs⟩ := (h.later b).block (by rw [← HN.out]; omega)
      rw [← HN.out] at he
      simp only [Value.slice.injEq] at he
      obtain ⟨rfl, -, rfl⟩ := he
      obtain ⟨v1, v2, v3, v4, v5, d1, hD, o1, o2, o3, o4, o5⟩ := hcs k d hd
      have hft := HFT.out d (List.mem_of_getElem? hd)
      have hm5 := hft.wits
      obtain ⟨y1, y2, y3, y4, y5, he, h1, h2, h3, h4, h5, ok⟩ := hD
      have he' : [v1, v2, v3, v4, v5] = [y1, y2, y3, y4, y5] := by
        simp only [deedV, deedCs, Value.agg.injEq] at he
        simpa using he
      simp only [List.cons.injEq, and_true] at he'
      obtain ⟨rfl, rfl, rfl, rfl, rfl⟩ := he'
      obtain ⟨a1, c1', rfl, -⟩ := h1.shape
      obtain ⟨a2, c2, rfl, -⟩ := h2.shape
      obtain ⟨a3, c3, rfl, -⟩ := h3.shape
      obtain ⟨a4, c4, rfl, -⟩ := h4.shape
      obtain ⟨a5, c5, rfl, -⟩ := h5.shape
      have OKW := hide ok.wits
      obtain ⟨n5, hn5⟩ : ∃ n, n = d.wits.length := ⟨_, rfl⟩
      have HN5 := hide hn5
      rw [← hn5] at o5 hm5 d1 h5
      have k2 := Below.refl wr.heap.size wr
      have qb := b.size
      clear hcs hd hft he hn5 h1 h2 h3 h4 ok
      generalize d.ins.length = n1 at *
      generalize d.outs.length = n2 at *
      generalize d.certs.length = n3 at *
      generalize d.pays.length = n4 at *
      generalize d.fee = f at *
      generalize d.frm = s at *
      generalize d.til = t at *
      have mF1 := True.intro
      have mF2 := True.intro
      go_wp2_with (first | (with_reducible refine w10g ?_; refine q3k rfl _ rfl rfl d1 ?_) | (with_reducible refine w11g ?_; clear mF1; refine q2y rfl rfl ?_; intro _ g1 hg1 F1 hb; replace b := later b hb; replace k2 := later k2 hb; clear hb) | ((with_reducible refine w12g ?_); refine q1x rfl _ _ rfl rfl rfl o1 o2 o3 o4 o5 F1 ?_; intro _ t1 ht1; clear F1; replace b := q0c b ht1 (Nat.le_trans qb hg1) (Nat.le_refl _); replace k2 := q0c k2 ht1 hg1 (Nat.le_refl _); have F1 := t1; clear t1 ht1) | (with_reducible refine w0g ?_; first | ((with_reducible refine w2g ?_); first | refine q0a rfl 24 _ rfl rfl (DAt.c2 F1) (by kernel_rfl) ?_ | refine q0a rfl 24 _ rfl rfl (DAt.c3 F1) (by kernel_rfl) ?_ | refine q0a rfl 24 _ rfl rfl (DAt.c4 F1) (by kernel_rfl) ?_) | refine q0a rfl 22 _ rfl rfl (DAt.c0 F1) (by kernel_rfl) ?_ | refine q0a rfl 23 _ rfl rfl (DAt.c1 F1) (by kernel_rfl) ?_ | refine q0a rfl 25 _ rfl rfl (DAt.c5 F1) (by kernel_rfl) ?_ | refine q0a rfl 26 _ rfl rfl (DAt.c6 F1) (by kernel_rfl) ?_ | refine q0a rfl 27 _ rfl rfl (DAt.c7 F1) (by kernel_rfl) ?_ | refine q0f rfl _ rfl rfl F1 ?_))
      generalize wrap64 (z + wrap64 (wrap64 (wrap64 (wrap64 ((n1 : Int) + (n2 : Int)) + (n3 : Int)) + (n4 : Int)) + (n5 : Int))) = z2
      go_loopw [38] (fun i wr2 => ∃ j : Nat, i = .int .i64 j ∧ j ≤ n5 ∧ Below wr.heap.size wr wr2 ∧ Below w.heap.size w wr2) (fun i _ => n5 - (RowKit.intOf i).toNat)
      case atStart => exact ⟨0, rfl, by omega, k2, b⟩
      case round =>
        clear b k2 F1
        obtain ⟨j, rfl, hj, k2, b⟩ := hrel
        by_cases hlt5 : j < n5
        · obtain ⟨x, hx, ok⟩ := q1u OKW.out (k := j) (by rw [← HN5.out]; exact hlt5)
          obtain ⟨bb5, k5, c5', he, _, hcs⟩ := (h5.later k2).block (by rw [← HN5.out]; omega)
          have d5 := hcs j x hx
          rw [← HN5.out] at he
          simp only [Value.slice.injEq] at he
          obtain ⟨rfl, -, rfl⟩ := he
          have OK := hide ok
          clear hcs hx ok
          by_cases hg : (4096 : Int) < (x.sig.size : Int)
          · have cc := decide_eq_true hg
            go_wp2_with (first | (with_reducible refine w5g ?_; clear mF2; refine q8d rfl rfl ?_; intro _ g2 hg2 F2 ha; simp only [pS]) | ((with_reducible show wpList _ _ _ (⟨_, Op.store 74 _ _, _, _, _, _⟩ :: _) _ _); refine q7e rfl _ _ rfl rfl rfl OK.out F2 ?_; intro _ t1 ht1; have hb := q0c ha ht1 hg2 (Nat.le_refl _); clear F2; replace b := later b hb; replace k2 := later k2 hb; have F2 := t1; clear t1 ht1 ha hb; simp only [pS]) | ((with_reducible show wpList _ _ _ (⟨_, Op.load 74 _, _, _, _, _⟩ :: _) _ _); refine q5r rfl _ rfl rfl d5 OK.out ?_) | (with_reducible refine w0g ?_; refine q0a rfl 9 _ rfl rfl (WitAt.sig F2) (by kernel_rfl) ?_))
            go_ret
            exact ⟨⟨_, rfl, by simp⟩, b⟩
          · have cc := decide_eq_false hg
            go_wp2_with (first | (with_reducible refine w5g ?_; clear mF2; refine q8d rfl rfl ?_; intro _ g2 hg2 F2 ha; simp only [pS]) | ((with_reducible show wpList _ _ _ (⟨_, Op.store 74 _ _, _, _, _, _⟩ :: _) _ _); refine q7e rfl _ _ rfl rfl rfl OK.out F2 ?_; intro _ t1 ht1; have hb := q0c ha ht1 hg2 (Nat.le_refl _); clear F2; replace b := later b hb; replace k2 := later k2 hb; have F2 := t1; clear t1 ht1 ha hb; simp only [pS]) | ((with_reducible show wpList _ _ _ (⟨_, Op.load 74 _, _, _, _, _⟩ :: _) _ _); refine q5r rfl _ rfl rfl d5 OK.out ?_) | (with_reducible refine w0g ?_; refine q0a rfl 9 _ rfl rfl (WitAt.sig F2) (by kernel_rfl) ?_))
            go_roundw
            case rel => exact ⟨j + 1, by simp, by omega, k2, b⟩
            case measure => simp [RowKit.intOf]; omega
        · obtain rfl : n5 = j := by omega
          by_cases hz : (300 : Int) < z2
          · have cc := decide_eq_true hz
            go_wp2_with fail
            go_ret
            exact ⟨⟨_, rfl, by simp⟩, b⟩
          · have cc := decide_eq_false hz
            go_wp2_with fail
            go_roundw
            case rel => exact ⟨k + 1, _, by simp, by omega, rfl, b⟩
            case measure => simp [RowKit.intOf]; omega
    case neg =>
      obtain rfl : n = k := by omega
      go_wp2_with fail
      go_ret
      refine ⟨⟨_, rfl, ?_⟩, b⟩
      intro h
      have := of_decide_eq_false h
      omega
end Go.Proofs.YtbbfnpfkbbpjgaaGreat
/- BlockBodies: any deeds: their root, how many bytes they have, how many they are. -/
namespace Go.Proofs.YtbbfnpfkbbpjgaaGreat
open Go.RowKit Go.Lib
set_option linter.unusedVariables false
set_option linter.unusedSimpArgs false
set_option maxRecDepth 100000
set_option maxHeartbeats 4000000
theorem j2q (w : World) (v : Value) (l : List Deed) (h : DsIs w v l) (hf : ∀ d ∈ l, d.Fit) (hn : l.length ≤ 9223372036854775807) :
    Calls Tryz.prog 4 #[v] w fun e w' => e = .returned (.bool true) ∧ Below w.heap.size w w' := by
  have HH := hide (fun (w' : World) (hb : Below w.heap.size w w') => j7x v l w' (h.later hb) hf hn)
  have HB := hide (fun (hk : l.length ≤ 60) (w' : World) (hb : Below w.heap.size w w') => j1j v l w' (h.later hb) (by omega) hf)
  have HR := hide (fun (hk : l.length ≤ 60) (w' : World) (hb : Below w.heap.size w w') => x4g v l w' (h.later hb) (by omega))
  have HL := hide (j1z l)
  have HW := hide works15
  have b := Below.refl w.heap.size w
  clear h hf hn
  generalize (bodB l).1.1 = R at *
  generalize (bodB l).1.2 = s at *
  generalize (bodB l).2.1 = m at *
  generalize (bodB l).2.2 = c at *
  generalize l.length = n at *
  clear l
  have mF1 := True.intro
  have mF2 := True.intro
  go_enter Tryz.func4, Tryz.ntmps4
  go_wp2_with (first | (go_at_call 23; refine (HH.out _ b).mono ?_; rintro _ _ ⟨⟨B, rfl, hB⟩, hc⟩; (try replace F1 := F1.later hc); (try replace F2 := F2.later hc); (try replace b := later b hc); clear hc; cases B) | (go_at_call 25; refine (HB.out (by simpa using hB) _ b).mono ?_; rintro _ _ ⟨rfl, hc⟩; (try replace F1 := F1.later hc); (try replace F2 := F2.later hc); (try replace b := later b hc); clear hc) | (go_at_call 26; refine (HR.out (by simpa using hB) _ b).mono ?_; rintro _ _ ⟨rfl, hc⟩; (try replace F1 := F1.later hc); (try replace F2 := F2.later hc); (try replace b := later b hc); clear hc) | (with_reducible refine w5g ?_; clear mF1; refine q0v rfl rfl ?_; intro _ g1 hg1 F1 hb; (try have := F1.lt); (try have := F2.lt); (try have := b.size); (try replace F1 := F1.later hb); (try replace F2 := F2.later hb); (try replace b := later b hb); clear hb) | (with_reducible refine w5g ?_; clear mF2; refine q0v rfl rfl ?_; intro _ g2 hg2 F2 hb; (try have := F1.lt); (try have := F2.lt); (try have := b.size); (try replace F1 := F1.later hb); (try replace F2 := F2.later hb); (try replace b := later b hb); clear hb) | (with_reducible refine w6g ?_; refine q0l rfl _ _ rfl rfl rfl HL.out F1 ?_; intro _ t1 ht; (try replace F1 := F1.tt ht); (try replace F2 := F2.tt ht); (try replace b := q0c b ht (by omega) (by omega)); replace F1 := t1; clear ht) | (with_reducible refine w6g ?_; refine q0l rfl _ _ rfl rfl rfl HL.out F2 ?_; intro _ t1 ht; (try replace F1 := F1.tt ht); (try replace F2 := F2.tt ht); (try replace b := q0c b ht (by omega) (by omega)); replace F2 := t1; clear ht) | (with_reducible refine w0g ?_; refine q0t rfl _ rfl rfl (by assumption) ?_) | (with_reducible refine w9g ?_; refine j1q rfl _ _ rfl rfl rfl HL.out HL.out ?_) | (go_at_call 24; refine (HW.out _).mono ?_; rintro _ _ ⟨rfl, hc⟩; (try replace F1 := F1.later hc); (try replace F2 := F2.later hc); (try replace b := later b hc); clear hc))
  all_goals
    go_ret
    exact ⟨rfl, b⟩
end Go.Proofs.YtbbfnpfkbbpjgaaGreat
