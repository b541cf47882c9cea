/- deed.Full. -/
import Derived.Test.YtbbfnpfkbbpjgaaGreatQBDeed8
import Derived.Test.YtbbfnpfkbbpjgaaGreatQBHdLaw
import Derived.Test.YtbbfnpfkbbpjgaaGreatQBMCells
import Derived.Test.YtbbfnpfkbbpjgaaGreatQBTakeL
import Derived.Test.YtbbfnpfkbbpjgaaGreatQBHdEq
import Derived.Test.YtbbfnpfkbbpjgaaGreatQBHdAt
namespace Go.Proofs.YtbbfnpfkbbpjgaaGreat
open Go.RowKit Go.Lib
set_option linter.unusedVariables false
set_option linter.unusedSimpArgs false
set_option maxRecDepth 100000
set_option maxHeartbeats 4000000
def tagFull : List UInt8 := [102, 117, 108, 108]
def fullD (d : Deed) : List UInt8 × Int := if mayD d = true then (ofX tagFull [fullL d], 0) else (zero32, 2)
theorem j7e (v : Value) (d : Deed) (w : World) (h : DeedIs w v d) (hf : d.Fit) :
    Calls Tryz.prog 21 #[v] w fun e w' => e = .returned (.tuple #[hv (fullD d).1, .int .i64 (fullD d).2]) ∧ Below w.heap.size w w' := by
  have HM := hide (fun (w' : World) (hb : Below w.heap.size w w') => j1g v d w' (h.later hb) hf)
  have hF : mayD d = true → d.FewW := fun hm => q7g (by obtain ⟨_, _, _, _, _, _, _, _, _, _, _, ok⟩ := h; exact ok) hm
  have HP := hide (fun (hm : mayD d = true) (w' : World) (hb : Below w.heap.size w w') => j9r v d w' (h.later hb) (hF hm))
  have HBL := hide (fun (hm : mayD d = true) => j4d (hF hm))
  obtain ⟨v1, v2, v3, v4, v5, rfl, h1, h2, h3, h4, h5, ok⟩ := h
  have o1 := h1.one'
  have o2 := h2.one'
  have o3 := h3.one'
  have o4 := h4.one'
  have o5 := h5.one'
  have b := Below.refl w.heap.size w
  clear h1 h2 h3 h4 h5 ok hf hF
  generalize d.fee = f at *
  generalize d.frm = s at *
  generalize d.til = t at *
  unfold fullD
  by_cases hm : mayD d = true
  · have HP2 := hide (HP.out hm)
    have hbl := HBL.out hm
    rw [hm] at HM
    rw [if_pos hm]
    have HO : Hid (∀ w, Calls Tryz.prog 61 #[.string ⟨#[102, 117, 108, 108]⟩, .slice (some ⟨w.heap.size, 0, none⟩) 1 1] (w.alloc (.cells #[.string ⟨(fullL d).toArray⟩] 9)) fun e w' => e = .returned (hv (ofX tagFull [fullL d])) ∧ Below w.heap.size w w') := fun w => of1 tagFull _ w (by decide) (by omega)
    have HL := hide (q1z tagFull [fullL d])
    clear HP hm HBL hbl
    generalize ofX tagFull [fullL d] = R at *
    generalize (⟨(fullL d).toArray⟩ : ByteArray) = sb at *
    have mF1 := True.intro
    have mF2 := True.intro
    go_enter Tryz.func21, Tryz.ntmps21
    go_wp2_with (first | (with_reducible refine w4g ?_; clear mF1; refine q1h rfl _ rfl rfl o1 o2 o3 o4 o5 ?_; intro _ g1 hg1 F1 hb; (try replace F1 := F1.later hb); (try replace F2 := F2.later hb); (try replace b := later b hb); clear hb) | (with_reducible refine w5g ?_; clear mF2; refine q0v rfl rfl ?_; intro _ g2 hg2 F2 hb; (try have := F1.lt); (try have := F2.lt); (try have := b.size); (try replace F1 := F1.later hb); (try replace F2 := F2.later hb); (try replace b := later b hb); clear hb) | (with_reducible refine w0g ?_; refine q0f rfl _ rfl rfl F1 ?_) | (go_at_call 58; refine (HM.out _ b).mono ?_; rintro _ _ ⟨rfl, hc⟩; (try replace F1 := F1.later hc); (try replace F2 := F2.later hc); (try replace b := later b hc); clear hc) | (go_at_call 60; refine (HP2.out _ b).mono ?_; rintro _ _ ⟨rfl, hc⟩; (try replace F1 := F1.later hc); (try replace F2 := F2.later hc); (try replace b := later b hc); clear hc) | (go_at_call 61; refine (HO.out _).mono ?_; rintro _ _ ⟨rfl, hc⟩; (try replace F1 := F1.later hc); (try replace F2 := F2.later hc); (try replace b := later b hc); clear hc) | (with_reducible refine w6g ?_; refine q0l rfl _ _ rfl rfl rfl HL.out F2 ?_; intro _ t1 ht; (try replace F1 := F1.tt ht); (try replace F2 := F2.tt ht); (try replace b := q0c b ht (by omega) (by omega)); replace F2 := t1; clear ht))
    exact bodyPost_ret (j0z rfl _ _ _ rfl rfl F2) rfl ⟨rfl, b⟩
  · have hm' : mayD d = false := by simpa using hm
    rw [hm'] at HM
    rw [if_neg hm]
    clear HP hm hm' HBL
    have mF1 := True.intro
    have mF2 := True.intro
    go_enter Tryz.func21, Tryz.ntmps21
    go_wp2_with (first | (with_reducible refine w4g ?_; clear mF1; refine q1h rfl _ rfl rfl o1 o2 o3 o4 o5 ?_; intro _ g1 hg1 F1 hb; (try replace F1 := F1.later hb); (try replace F2 := F2.later hb); (try replace b := later b hb); clear hb) | (with_reducible refine w5g ?_; clear mF2; refine q0v rfl rfl ?_; intro _ g2 hg2 F2 hb; (try have := F1.lt); (try have := F2.lt); (try have := b.size); (try replace F1 := F1.later hb); (try replace F2 := F2.later hb); (try replace b := later b hb); clear hb) | (with_reducible refine w0g ?_; refine q0f rfl _ rfl rfl F1 ?_) | (go_at_call 58; refine (HM.out _ b).mono ?_; rintro _ _ ⟨rfl, hc⟩; (try replace F1 := F1.later hc); (try replace F2 := F2.later hc); (try replace b := later b hc); clear hc) | (with_reducible refine w7g ?_; refine q2m rfl rfl ?_) | (with_reducible refine w6g ?_; refine q0l rfl _ _ rfl rfl rfl rfl F2 ?_; intro _ t1 ht; (try replace F1 := F1.tt ht); (try replace F2 := F2.tt ht); (try replace b := q0c b ht (by omega) (by omega)); replace F2 := t1; clear ht))
    exact bodyPost_ret (j0z rfl _ _ _ rfl rfl F2) rfl ⟨rfl, b⟩
end Go.Proofs.YtbbfnpfkbbpjgaaGreat
/- Blocks, plainly: what they are as bytes, when they may be, how they are read. -/
namespace Go.Proofs.YtbbfnpfkbbpjgaaGreat
open Go.RowKit Go.Lib
set_option linter.unusedVariables false
set_option linter.unusedSimpArgs false
set_option maxRecDepth 100000
set_option maxHeartbeats 4000000
structure Blk where
  head : Hd
  deeds : List Deed
structure Blk.Ok (b : Blk) : Prop where
  head : b.head.Ok
  deeds : ∀ d ∈ b.deeds, d.Ok
def fulB (d : Deed) : List UInt8 := ofX tagFull [fullL d]
def fulsB (l : List Deed) : List (List UInt8) := l.map fulB
theorem q9a (d : Deed) : (fulB d).length = 32 := q1z _ _
def sizB (l : List Deed) : Nat := (l.map fun d => (fullL d).length).sum
def bodB (l : List Deed) : (List UInt8 × Nat) × (Nat × Int) :=
  if l.all mayD = true then (if l.length ≤ 16 ∧ sizB l ≤ 32768 then ((treeL (fulsB l), sizB l), (l.length, 0)) else ((zero32, 0), (0, 3))) else ((zero32, 0), (0, 2))
def fewB (l : List Deed) : Bool := l.all mayD && (decide (l.length ≤ 16) && decide (sizB l ≤ 32768))
theorem x8r {l : List Deed} (h : fewB l = true) : bodB l = ((treeL (fulsB l), sizB l), (l.length, 0)) := by
  simp only [fewB, Bool.and_eq_true, decide_eq_true_eq] at h
  unfold bodB
  rw [if_pos h.1, if_pos h.2]
theorem x3r (l : List Deed) : (bodB l).2.2 = 0 ↔ fewB l = true := by
  unfold bodB fewB
  by_cases h1 : l.all mayD = true
  · rw [if_pos h1, h1]
    by_cases h2 : l.length ≤ 16 ∧ sizB l ≤ 32768
    · rw [if_pos h2]
      simp [h2.1, h2.2]
    · rw [if_neg h2]
      simp only [Bool.true_and, Bool.and_eq_true, decide_eq_true_eq]
      exact ⟨fun h => by simp at h, fun h => absurd h h2⟩
  · rw [if_neg h1]
    simp [h1]
theorem j1z (l : List Deed) : (bodB l).1.1.length = 32 := by
  unfold bodB
  split
  · split
    · exact q4l _ _
    · rfl
  · rfl
def mayB (b : Blk) : Bool := mayH b.head && fewB b.deeds
def putB (b : Blk) : List UInt8 := putH b.head ++ (putL b.deeds.length ++ b.deeds.flatMap fun d => putText (fullL d))
def fitB (b : Blk) : Bool := mayB b && (decide (b.head.body = treeL (fulsB b.deeds)) && (decide (b.head.size = sizB b.deeds) && decide (b.head.many = b.deeds.length)))
def blk0 : Blk := ⟨hd0, []⟩
/-! ### Texts that are told -/
def takeT (most : Nat) (s : List UInt8) : Option (List UInt8 × Nat) := match takeO s with
  | none => none
  | some (n, k) => if n ≤ most ∧ n ≤ s.length - k then some ((s.drop k).take n, k + n) else none
theorem x6b (most : Nat) (t rest : List UInt8) (h : t.length ≤ most) (hm : most < 18446744073709551616) : takeT most (putText t ++ rest) = some (t, (putText t).length) := by
  have h1 := j2u t.length (by omega) (t ++ rest)
  have e : putText t ++ rest = putL t.length ++ (t ++ rest) := by unfold putText; rw [List.append_assoc]
  rw [e]
  unfold takeT
  rw [h1]
  simp only
  rw [if_pos ⟨h, by simp only [List.length_append]; omega⟩, List.drop_left, List.take_left]
  simp [putText]
theorem j9n {most : Nat} {s t : List UInt8} {k : Nat} (h : takeT most s = some (t, k)) : s = putText t ++ s.drop k ∧ k = (putText t).length ∧ t.length ≤ most ∧ k ≤ s.length := by
  unfold takeT at h
  cases hq : takeO s with
  | none => rw [hq] at h; cases h
  | some x =>
    obtain ⟨n, j⟩ := x
    rw [hq] at h
    simp only at h
    obtain ⟨h1, h2, h3, h4⟩ := q9s hq
    split at h
    · rename_i hc
      simp only [Option.some.injEq, Prod.mk.injEq] at h
      obtain ⟨rfl, rfl⟩ := h
      have hl : ((s.drop j).take n).length = n := by rw [List.length_take, List.length_drop]; omega
      refine ⟨?_, ?_, by rw [hl]; exact hc.1, by omega⟩
      · unfold putText
        rw [hl, List.append_assoc]
        have : (s.drop j).take n ++ s.drop (j + n) = s.drop j := by rw [← List.drop_drop, List.take_append_drop]
        rw [this]
        exact h3
      · unfold putText
        rw [List.length_append, hl, h2]
    · cases h
/-- So many deeds, one text each. -/
def dsP : Nat → List UInt8 → Option (List Deed × List UInt8)
  | 0, s => some ([], s)
  | n + 1, s => match takeT 32768 s with
    | none => none
    | some (t, k) => if (takeD t).2 = 0 then (match dsP n (s.drop k) with
      | none => none
      | some (l, r) => some ((takeD t).1 :: l, r)) else none
theorem x3l : ∀ (l : List Deed) (rest : List UInt8), (∀ d ∈ l, d.Ok) → l.all mayD = true → (∀ d ∈ l, (fullL d).length ≤ 32768) → dsP l.length (l.flatMap (fun d => putText (fullL d)) ++ rest) = some (l, rest)
  | [], _, _, _, _ => rfl
  | d :: l, rest, ok, hm, hs => by
    simp only [List.all_cons, Bool.and_eq_true] at hm
    rw [List.flatMap_cons, List.append_assoc]
    show dsP (l.length + 1) _ = _
    unfold dsP
    rw [x6b 32768 (fullL d) _ (hs d (by simp)) (by decide)]
    simp only
    rw [x4k (ok d (by simp)) hm.1, List.drop_left, x3l l rest (fun x hx => ok x (by simp [hx])) hm.2 (fun x hx => hs x (by simp [hx]))]
    rfl
def takB (s : List UInt8) : Blk × Int :=
  if s.length < 2320 then (blk0, 6) else match takeO (s.drop 2320) with
    | none => (blk0, 6)
    | some (n, k) => if 16 < n then (blk0, 6) else match dsP n ((s.drop 2320).drop k) with
      | some (l, []) => if mayB ⟨hdOf (s.take 2320), l⟩ = true then (⟨hdOf (s.take 2320), l⟩, 0) else (blk0, 6)
      | _ => (blk0, 6)
theorem j9q : ∀ {l : List Deed} {d : Deed}, d ∈ l → (fullL d).length ≤ sizB l
  | x :: l, d, h => by
    unfold sizB
    rw [List.map_cons, List.sum_cons]
    rcases List.mem_cons.1 h with rfl | h
    · omega
    · have := j9q h
      unfold sizB at this
      omega
theorem x7l {b : Blk} (ok : b.Ok) (h : mayB b = true) : takB (putB b) = (b, 0) := by
  have hm := h
  simp only [mayB, fewB, Bool.and_eq_true, decide_eq_true_eq] at h
  obtain ⟨h1, h2, h3, h4⟩ := h
  have hl := q8x ok.head h1
  have e1 : (putB b).drop 2320 = putL b.deeds.length ++ b.deeds.flatMap fun d => putText (fullL d) := by unfold putB; rw [← hl, List.drop_left]
  have e2 : (putB b).take 2320 = putH b.head := by unfold putB; rw [← hl, List.take_left]
  have hn : ¬ (putB b).length < 2320 := by unfold putB; rw [List.length_append, hl]; omega
  unfold takB
  rw [if_neg hn, e1, e2, j2u _ (by omega)]
  simp only
  rw [if_neg (by omega), List.drop_left]
  have := x3l b.deeds [] ok.deeds h2 (fun d hd => Nat.le_trans (j9q hd) h4)
  rw [List.append_nil] at this
  rw [this, x7d _ ok.head h1]
  exact if_pos hm
/-- One with another. -/
def samRt (a b : Rt) : Bool := decide (a.hot = b.hot) && (decide (a.counter = b.counter) && (decide (a.start = b.start) && decide (a.sig = b.sig)))
def samHd (a b : Hd) : Bool := decide (a.slot = b.slot) && (decide (a.number = b.number) && (decide (a.prev = b.prev) && (decide (a.pool = b.pool) && (decide (a.body = b.body) && (decide (a.size = b.size) && (decide (a.many = b.many) && (samRt a.right b.right && decide (a.sig = b.sig))))))))
theorem x7z (a b : Rt) : samRt a b = true ↔ a = b := by cases a; cases b; simp [samRt]
theorem x7b (a b : Hd) : samHd a b = true ↔ a = b := by cases a; cases b; simp [samHd, x7z]
def samB (a b : Blk) : Bool := samHd a.head b.head && sameL sameD a.deeds b.deeds
theorem x9v (a b : Blk) : samB a b = true ↔ a = b := by cases a; cases b; simp [samB, x7b, q7i x7n]
end Go.Proofs.YtbbfnpfkbbpjgaaGreat
/- Two heads compared. -/
namespace Go.Proofs.YtbbfnpfkbbpjgaaGreat
open Go.RowKit Go.Lib
set_option linter.unusedVariables false
set_option linter.unusedSimpArgs false
set_option maxRecDepth 100000
set_option maxHeartbeats 4000000
theorem x4f (d : Nat) (r q : Rt) (h : r.Ok) (k : q.Ok) (w : World) : (Op.equalIn (d + 3) 47 (rtV r) (rtV q)).run Tryz.prog w = .ok (samRt r q) w := by
  unfold rtV
  rw [run_equalIn_struct w (d + 2) 47 _ _ (by kernel_rfl) (by kernel_rfl)]
  have hb : (bvs r.hot).length = 32 := by rw [q0e, h.hot]
  have kb : (bvs q.hot).length = 32 := by rw [q0e, k.hot]
  have e32 : (rtCs r).toArray[32]? = some (.int .u64 r.counter) := by unfold rtCs; simp [List.getElem?_append, hb]
  have e33 : (rtCs r).toArray[33]? = some (.int .u64 r.start) := by unfold rtCs; simp [List.getElem?_append, hb]
  have e34 : (rtCs r).toArray[34]? = some (.string r.sig) := by unfold rtCs; simp [List.getElem?_append, hb]
  have e0 : ((rtCs r).drop 0).take 32 = bvs r.hot := by unfold rtCs; rw [List.drop_zero, take_left hb]
  have g32 : (rtCs q).toArray[32]? = some (.int .u64 q.counter) := by unfold rtCs; simp [List.getElem?_append, kb]
  have g33 : (rtCs q).toArray[33]? = some (.int .u64 q.start) := by unfold rtCs; simp [List.getElem?_append, kb]
  have g34 : (rtCs q).toArray[34]? = some (.string q.sig) := by unfold rtCs; simp [List.getElem?_append, kb]
  have g0 : ((rtCs q).drop 0).take 32 = bvs q.hot := by unfold rtCs; rw [List.drop_zero, take_left kb]
  unfold Program.fieldsOf
  rw [Tryz.underlying47]
  unfold samRt
  refine q1o (by decide) (q1p e0 w) (q1p g0 w) (q2h d r.hot q.hot h.hot k.hot w) ?_
  refine q1o (by decide) (run_part_plain w q1j e32) (run_part_plain w q1j g32) (by rw [run_equalIn_int w (d + 1) 24 .u64 .u64 _ _ Tryz.underlying24, q3m]) ?_
  refine q1o (by decide) (run_part_plain w q1j e33) (run_part_plain w q1j g33) (by rw [run_equalIn_int w (d + 1) 24 .u64 .u64 _ _ Tryz.underlying24, q3m]) ?_
  exact q4w (by decide) (run_part_plain w q6s e34) (run_part_plain w q6s g34) (by rw [run_equalIn_string w (d + 1) 9 _ _ Tryz.underlying9, j7w])
theorem j6l (d : Nat) (x y : Hd) (h : x.Ok) (k : y.Ok) (w : World) : (Op.equalIn (d + 4) 49 (hdV x) (hdV y)).run Tryz.prog w = .ok (samHd x y) w := by
  unfold hdV
  rw [run_equalIn_struct w (d + 3) 49 _ _ (by kernel_rfl) (by kernel_rfl)]
  have e0 : (hdCs x).toArray[0]? = some (.int .u64 x.slot) := q5f (l := (hdCs x).tail) rfl
  have e1 : (hdCs x).toArray[1]? = some (.int .u64 x.number) := q5f (l := (hdCs x).tail.tail) rfl
  have e2 : ((hdCs x).drop 2).take 32 = bvs x.prev := by rw [j4u, take_left (by rw [q0e, h.prev])]
  have e34 : ((hdCs x).drop 34).take 32 = bvs x.pool := by rw [j1s h, take_left (by rw [q0e, h.pool])]
  have e66 : ((hdCs x).drop 66).take 32 = bvs x.body := by rw [j1w h, take_left (by rw [q0e, h.body])]
  have e98 := q5f (q7m h)
  have e99 : (hdCs x).toArray[99]? = some (.int .u64 x.many) := q5f (l := rtCs x.right ++ [.string x.sig]) (by rw [show 99 = 98 + 1 by rfl, ← List.drop_drop, q7m h]; rfl)
  have e100 : ((hdCs x).drop 100).take 35 = rtCs x.right := by rw [j0i h, take_left (q1q h.right)]
  have e135 := q5f (j3k h)
  have g0 : (hdCs y).toArray[0]? = some (.int .u64 y.slot) := q5f (l := (hdCs y).tail) rfl
  have g1 : (hdCs y).toArray[1]? = some (.int .u64 y.number) := q5f (l := (hdCs y).tail.tail) rfl
  have g2 : ((hdCs y).drop 2).take 32 = bvs y.prev := by rw [j4u, take_left (by rw [q0e, k.prev])]
  have g34 : ((hdCs y).drop 34).take 32 = bvs y.pool := by rw [j1s k, take_left (by rw [q0e, k.pool])]
  have g66 : ((hdCs y).drop 66).take 32 = bvs y.body := by rw [j1w k, take_left (by rw [q0e, k.body])]
  have g98 := q5f (q7m k)
  have g99 : (hdCs y).toArray[99]? = some (.int .u64 y.many) := q5f (l := rtCs y.right ++ [.string y.sig]) (by rw [show 99 = 98 + 1 by rfl, ← List.drop_drop, q7m k]; rfl)
  have g100 : ((hdCs y).drop 100).take 35 = rtCs y.right := by rw [j0i k, take_left (q1q k.right)]
  have g135 := q5f (j3k k)
  have U : ∀ n m : Nat, (Op.equalIn (d + 3) 24 (.int .u64 (n : Int)) (.int .u64 (m : Int))).run Tryz.prog w = .ok (decide (n = m)) w := fun n m => by rw [run_equalIn_int w (d + 2) 24 .u64 .u64 _ _ Tryz.underlying24, q3m]
  unfold Program.fieldsOf
  rw [Tryz.underlying49]
  unfold samHd
  refine q1o (by decide) (run_part_plain w q1j e0) (run_part_plain w q1j g0) (U _ _) ?_
  refine q1o (by decide) (run_part_plain w q1j e1) (run_part_plain w q1j g1) (U _ _) ?_
  refine q1o (by decide) (q1p e2 w) (q1p g2 w) (q2h (d + 1) x.prev y.prev h.prev k.prev w) ?_
  refine q1o (by decide) (q1p e34 w) (q1p g34 w) (q2h (d + 1) x.pool y.pool h.pool k.pool w) ?_
  refine q1o (by decide) (q1p e66 w) (q1p g66 w) (q2h (d + 1) x.body y.body h.body k.body w) ?_
  refine q1o (by decide) (run_part_plain w q1j e98) (run_part_plain w q1j g98) (U _ _) ?_
  refine q1o (by decide) (run_part_plain w q1j e99) (run_part_plain w q1j g99) (U _ _) ?_
  refine q1o (by decide) (x2n e100 w) (x2n g100 w) (x4f d x.right y.right h.right k.right w) ?_
  exact q4w (by decide) (run_part_plain w q6s e135) (run_part_plain w q6s g135) (by rw [run_equalIn_string w (d + 2) 9 _ _ Tryz.underlying9, j7w])
section
variable {ops : Array Oper} {rest : List Oper} {o : Oper} {a : Act} {w : World} {Q : Exit → Act → World → Prop} {K : Act → Prop}
theorem j5e (hw : Region.wanted o (yielded ops a.tmps) = true) (p q : Operand) (ho : o.op = .binOp .eql 49 p q 49) {x y : Hd} (hx : a.eval p = hdV x) (hy : a.eval q = hdV y) (kx : x.Ok) (ky : y.Ok) (hk : wpList Tryz.prog ops Q rest (a.put o.dst (.bool (samHd x y))) w) : wpList Tryz.prog ops Q (o :: rest) a w :=
  q3v hw _ (j7o 49 p q ho hx hy (by kernel_rfl) (fun w => j6l 9996 x y kx ky w) w) hk
theorem j6e (hw : Region.wanted o (yielded ops a.tmps) = true) (p q : Operand) (ho : o.op = .binOp .neq 49 p q 49) {x y : Hd} (hx : a.eval p = hdV x) (hy : a.eval q = hdV y) (kx : x.Ok) (ky : y.Ok) (hk : wpList Tryz.prog ops Q rest (a.put o.dst (.bool (!(samHd x y)))) w) : wpList Tryz.prog ops Q (o :: rest) a w :=
  q3v hw _ (j0e 49 p q ho hx hy (by kernel_rfl) (fun w => j6l 9996 x y kx ky w) w) hk
end
end Go.Proofs.YtbbfnpfkbbpjgaaGreat
/- One field of a head in memory stored (printed by gen_hdset.py). -/
namespace Go.Proofs.YtbbfnpfkbbpjgaaGreat
open Go.RowKit Go.Lib
set_option linter.unusedVariables false
set_option linter.unusedSimpArgs false
set_option maxRecDepth 100000
set_option maxHeartbeats 4000000
section
variable {ops : Array Oper} {rest : List Oper} {o : Oper} {a : Act} {w w0 : World} {Q : Exit → Act → World → Prop}
theorem hdSet134 {d : Hd} (h : d.Ok) (s : ByteArray) : (hdCs d).set 134 (.string s) = hdCs { d with right := { d.right with sig := s } } := by
  have e1 : (bvs d.prev).length = 32 := by rw [q0e, h.prev]
  have e2 : (bvs d.pool).length = 32 := by rw [q0e, h.pool]
  have e3 : (bvs d.body).length = 32 := by rw [q0e, h.body]
  have e4 := q1q h.right
  have e5 := rtSigSet h.right s
  unfold hdCs
  simp [List.set_append, e1, e2, e3, e4, e5]
end
end Go.Proofs.YtbbfnpfkbbpjgaaGreat
