/- Blocks, plainly: what they are as bytes, when they may be, how they are read. -/
import Derived.Test.YtbbfnpfkbbpjgaaGreatQCHd7
import Derived.Test.YtbbfnpfkbbpjgaaGreatQCDeed5
import Derived.Test.YtbbfnpfkbbpjgaaGreatQCMCells
import Derived.Test.YtbbfnpfkbbpjgaaGreatQCDeed6
import Derived.Test.YtbbfnpfkbbpjgaaGreatQCHdEq
import Derived.Test.YtbbfnpfkbbpjgaaGreatQCHdAt
import Derived.Test.YtbbfnpfkbbpjgaaGreatQCElCert
namespace Go.Proofs.YtbbfnpfkbbpjgaaGreat
open Go.RowKit Go.Lib
set_option linter.unusedVariables false
set_option linter.unusedSimpArgs false
set_option maxRecDepth 100000
set_option maxHeartbeats 4000000
structure Blk where
 head : Hd
 deeds : List Deed
structure Blk.Ok (b : Blk) : Prop where
 head : b.head.Ok
 deeds : ∀ d ∈ b.deeds, d.Ok
def fulB (d : Deed) : List UInt8 := ofX tagFull [fullL d]
def fulsB (l : List Deed) : List (List UInt8) := l.map fulB
theorem q7q (d : Deed) : (fulB d).length = 32 := q1h _ _
def sizB (l : List Deed) : Nat := (l.map fun d => (fullL d).length).sum
def bodB (l : List Deed) : (List UInt8 × Nat) × (Nat × Int) :=
 if l.all mayD = true then (if l.length ≤ 16 ∧ sizB l ≤ 32768 then ((treeL (fulsB l), sizB l), (l.length, 0)) else ((zero32, 0), (0, 3))) else ((zero32, 0), (0, 2))
def fewB (l : List Deed) : Bool := l.all mayD && (decide (l.length ≤ 16) && decide (sizB l ≤ 32768))
theorem x0m {l : List Deed} (h : fewB l = true) : bodB l = ((treeL (fulsB l), sizB l), (l.length, 0)) := by
 simp only [fewB, Bool.and_eq_true, decide_eq_true_eq] at h
 unfold bodB
 rw [if_pos h.1, if_pos h.2]
theorem j2c (l : List Deed) : (bodB l).2.2 = 0 ↔ fewB l = true := by
 unfold bodB fewB
 by_cases h1 : l.all mayD = true
 ·rw [if_pos h1, h1]
  by_cases h2 : l.length ≤ 16 ∧ sizB l ≤ 32768
  ·rw [if_pos h2]
   simp [h2.1, h2.2]
  ·rw [if_neg h2]
   simp only [Bool.true_and, Bool.and_eq_true, decide_eq_true_eq]
   exact ⟨fun h => by simp at h, fun h => absurd h h2⟩
 ·rw [if_neg h1]
  simp [h1]
theorem q8y (l : List Deed) : (bodB l).1.1.length = 32 := by
 unfold bodB
 split
 ·split
  ·exact q3p _ _
  ·rfl
 ·rfl
def mayB (b : Blk) : Bool := mayH b.head && fewB b.deeds
def putB (b : Blk) : List UInt8 := putH b.head ++ (putL b.deeds.length ++ b.deeds.flatMap fun d => putText (fullL d))
def fitB (b : Blk) : Bool := mayB b && (decide (b.head.body = treeL (fulsB b.deeds)) && (decide (b.head.size = sizB b.deeds) && decide (b.head.many = b.deeds.length)))
def blk0 : Blk := ⟨hd0, []⟩
/-! ### Texts that are told -/
def takeT (most : Nat) (s : List UInt8) : Option (List UInt8 × Nat) := match takeO s with
 | none => none
 | some (n, k) => if n ≤ most ∧ n ≤ s.length - k then some ((s.drop k).take n, k + n) else none
theorem x6c (most : Nat) (t rest : List UInt8) (h : t.length ≤ most) (hm : most < 18446744073709551616) : takeT most (putText t ++ rest) = some (t, (putText t).length) := by
 have h1 := j3l t.length (by omega) (t ++ rest)
 have e : putText t ++ rest = putL t.length ++ (t ++ rest) := by unfold putText; rw [List.append_assoc]
 rw [e]
 unfold takeT
 rw [h1]
 simp only
 rw [if_pos ⟨h, by simp only [List.length_append]; omega⟩, List.drop_left, List.take_left]
 simp [putText]
theorem j5i {most : Nat} {s t : List UInt8} {k : Nat} (h : takeT most s = some (t, k)) : s = putText t ++ s.drop k ∧ k = (putText t).length ∧ t.length ≤ most ∧ k ≤ s.length := by
 unfold takeT at h
 cases hq : takeO s with
 | none => rw [hq] at h; cases h
 | some x =>
  obtain ⟨n, j⟩ := x
  rw [hq] at h
  simp only at h
  obtain ⟨h1, h2, h3, h4⟩ := q8v hq
  split at h
  ·rename_i hc
   simp only [Option.some.injEq, Prod.mk.injEq] at h
   obtain ⟨rfl, rfl⟩ := h
   have hl : ((s.drop j).take n).length = n := by rw [List.length_take, List.length_drop]; omega
   refine ⟨?_, ?_, by rw [hl]; exact hc.1, by omega⟩
   ·unfold putText
    rw [hl, List.append_assoc]
    have : (s.drop j).take n ++ s.drop (j + n) = s.drop j := by rw [← List.drop_drop, List.take_append_drop]
    rw [this]
    exact h3
   ·unfold putText
    rw [List.length_append, hl, h2]
  ·cases h
/-- So many deeds, one text each. -/
def dsP : Nat → List UInt8 → Option (List Deed × List UInt8)
 | 0, s => some ([], s)
 | n + 1, s => match takeT 32768 s with
  | none => none
  | some (t, k) => if (takeD t).2 = 0 then (match dsP n (s.drop k) with
   | none => none
   | some (l, r) => some ((takeD t).1 :: l, r)) else none
theorem x6j : ∀ (l : List Deed) (rest : List UInt8), (∀ d ∈ l, d.Ok) → l.all mayD = true → (∀ d ∈ l, (fullL d).length ≤ 32768) → dsP l.length (l.flatMap (fun d => putText (fullL d)) ++ rest) = some (l, rest)
 | [], _, _, _, _ => rfl
 | d :: l, rest, ok, hm, hs => by
  simp only [List.all_cons, Bool.and_eq_true] at hm
  rw [List.flatMap_cons, List.append_assoc]
  show dsP (l.length + 1) _ = _
  unfold dsP
  rw [x6c 32768 (fullL d) _ (hs d (by simp)) (by decide)]
  simp only
  rw [x4i (ok d (by simp)) hm.1, List.drop_left, x6j l rest (fun x hx => ok x (by simp [hx])) hm.2 (fun x hx => hs x (by simp [hx]))]
  rfl
theorem z0j : ∀ (n : Nat) (s : List UInt8) (l : List Deed) (r : List UInt8), dsP n s = some (l, r) → l.length = n ∧ (∀ d ∈ l, d.Ok) ∧ s = l.flatMap (fun d => putText (fullL d)) ++ r
 | 0, s, l, r, h => by
  unfold dsP at h
  simp only [Option.some.injEq, Prod.mk.injEq] at h
  obtain ⟨rfl, rfl⟩ := h
  exact ⟨rfl, by simp, rfl⟩
 | n + 1, s, l, r, h => by
  unfold dsP at h
  cases hq : takeT 32768 s with
  | none => rw [hq] at h; cases h
  | some x =>
   obtain ⟨t, k⟩ := x
   rw [hq] at h
   simp only at h
   by_cases hz : (takeD t).2 = 0
   ·rw [if_pos hz] at h
    cases hr : dsP n (s.drop k) with
    | none => rw [hr] at h; cases h
    | some y =>
     obtain ⟨l', r'⟩ := y
     rw [hr] at h
     simp only [Option.some.injEq, Prod.mk.injEq] at h
     obtain ⟨rfl, rfl⟩ := h
     obtain ⟨h1, h2, h3⟩ := z0j n _ _ _ hr
     obtain ⟨e1, _, _, _⟩ := j5i hq
     obtain ⟨_, o1, e2⟩ := x0r hz
     refine ⟨by rw [List.length_cons, h1], ?_, ?_⟩
     ·intro d hd
      rcases List.mem_cons.1 hd with rfl | hd
      ·exact o1
      ·exact h2 d hd
     ·rw [List.flatMap_cons, List.append_assoc, ← h3, ← e2]
      exact e1
   ·rw [if_neg hz] at h; cases h
def takB (s : List UInt8) : Blk × Int :=
 if s.length < 2320 then (blk0, 6) else match takeO (s.drop 2320) with
  | none => (blk0, 6)
  | some (n, k) => if 16 < n then (blk0, 6) else match dsP n ((s.drop 2320).drop k) with
   | some (l, []) => if mayB ⟨hdOf (s.take 2320), l⟩ = true then (⟨hdOf (s.take 2320), l⟩, 0) else (blk0, 6)
   | _ => (blk0, 6)
theorem j8i : ∀ {l : List Deed} {d : Deed}, d ∈ l → (fullL d).length ≤ sizB l
 | x :: l, d, h => by
  unfold sizB
  rw [List.map_cons, List.sum_cons]
  rcases List.mem_cons.1 h with rfl | h
  ·omega
  ·have := j8i h
   unfold sizB at this
   omega
theorem x1c {b : Blk} (ok : b.Ok) (h : mayB b = true) : takB (putB b) = (b, 0) := by
 have hm := h
 simp only [mayB, fewB, Bool.and_eq_true, decide_eq_true_eq] at h
 obtain ⟨h1, h2, h3, h4⟩ := h
 have hl := q4r ok.head h1
 have e1 : (putB b).drop 2320 = putL b.deeds.length ++ b.deeds.flatMap fun d => putText (fullL d) := by unfold putB; rw [← hl, List.drop_left]
 have e2 : (putB b).take 2320 = putH b.head := by unfold putB; rw [← hl, List.take_left]
 have hn : ¬ (putB b).length < 2320 := by unfold putB; rw [List.length_append, hl]; omega
 unfold takB
 rw [if_neg hn, e1, e2, j3l _ (by omega)]
 simp only
 rw [if_neg (by omega), List.drop_left]
 have := x6j b.deeds [] ok.deeds h2 (fun d hd => Nat.le_trans (j8i hd) h4)
 rw [List.append_nil] at this
 rw [this, x9c _ ok.head h1]
 exact if_pos hm
theorem z1k {s : List UInt8} (h : (takB s).2 = 0) : mayB (takB s).1 = true ∧ (takB s).1.Ok ∧ s = putB (takB s).1 := by
 unfold takB at h ⊢
 by_cases h0 : s.length < 2320
 ·rw [if_pos h0] at h; cases h
 ·rw [if_neg h0] at h ⊢
  cases hq : takeO (s.drop 2320) with
  | none => rw [hq] at h; cases h
  | some x =>
   obtain ⟨n, k⟩ := x
   rw [hq] at h
   simp only at h ⊢
   by_cases hn : 16 < n
   ·rw [if_pos hn] at h; cases h
   ·rw [if_neg hn] at h ⊢
    obtain ⟨a1, a2, a3, _⟩ := q8v hq
    split at h
    ·rename_i l hd
     have hd' := z0j _ _ _ _ hd
     obtain ⟨b1, b2, b3⟩ := hd'
     have hL : (s.take 2320).length = 2320 := by rw [List.length_take]; omega
     by_cases hm : mayB ⟨hdOf (s.take 2320), l⟩ = true
     ·rw [if_pos hm]
      refine ⟨hm, ⟨j9q hL, b2⟩, ?_⟩
      show s = putH (hdOf (s.take 2320)) ++ (putL l.length ++ l.flatMap fun d => putText (fullL d))
      rw [x7y _ hL, b1]
      rw [List.append_nil] at b3
      rw [← b3, ← a3, List.take_append_drop]
     ·rw [if_neg hm] at h; cases h
    ·cases h
theorem x6y {s : List UInt8} (h : (takB s).2 ≠ 0) : takB s = (blk0, 6) := by
 unfold takB at h ⊢
 by_cases h0 : s.length < 2320
 ·rw [if_pos h0]
 ·rw [if_neg h0] at h ⊢
  cases hq : takeO (s.drop 2320) with
  | none => rfl
  | some x =>
   obtain ⟨n, k⟩ := x
   rw [hq] at h
   simp only at h ⊢
   by_cases hn : 16 < n
   ·rw [if_pos hn]
   ·rw [if_neg hn] at h ⊢
    split
    ·rename_i l hd
     rw [hd] at h
     simp only at h
     split
     ·rename_i hm; rw [if_pos hm] at h; exact absurd rfl h
     ·rfl
    ·rfl
/-- One with another. -/
def samRt (a b : Rt) : Bool := decide (a.hot = b.hot) && (decide (a.counter = b.counter) && (decide (a.start = b.start) && decide (a.sig = b.sig)))
def samHd (a b : Hd) : Bool := decide (a.slot = b.slot) && (decide (a.number = b.number) && (decide (a.prev = b.prev) && (decide (a.pool = b.pool) && (decide (a.body = b.body) && (decide (a.size = b.size) && (decide (a.many = b.many) && (samRt a.right b.right && decide (a.sig = b.sig))))))))
theorem x8u (a b : Rt) : samRt a b = true ↔ a = b := by cases a; cases b; simp [samRt]
theorem z0b (a b : Hd) : samHd a b = true ↔ a = b := by cases a; cases b; simp [samHd, x8u]
def samB (a b : Blk) : Bool := samHd a.head b.head && sameL sameD a.deeds b.deeds
theorem z0x (a b : Blk) : samB a b = true ↔ a = b := by cases a; cases b; simp [samB, z0b, q7p x0h]
theorem x5y (d : Nat) (r q : Rt) (h : r.Ok) (k : q.Ok) (w : World) : (Op.equalIn (d + 3) 47 (rtV r) (rtV q)).run Tryz.prog w = .ok (samRt r q) w := by
 unfold rtV
 rw [run_equalIn_struct w (d + 2) 47 _ _ (by kernel_rfl) (by kernel_rfl)]
 have hb : (bvs r.hot).length = 32 := by rw [q0d, h.hot]
 have kb : (bvs q.hot).length = 32 := by rw [q0d, k.hot]
 have e32 : (rtCs r).toArray[32]? = some (.int .u64 r.counter) := by unfold rtCs; simp [List.getElem?_append, hb]
 have e33 : (rtCs r).toArray[33]? = some (.int .u64 r.start) := by unfold rtCs; simp [List.getElem?_append, hb]
 have e34 : (rtCs r).toArray[34]? = some (.string r.sig) := by unfold rtCs; simp [List.getElem?_append, hb]
 have e0 : ((rtCs r).drop 0).take 32 = bvs r.hot := by unfold rtCs; rw [List.drop_zero, take_left hb]
 have g32 : (rtCs q).toArray[32]? = some (.int .u64 q.counter) := by unfold rtCs; simp [List.getElem?_append, kb]
 have g33 : (rtCs q).toArray[33]? = some (.int .u64 q.start) := by unfold rtCs; simp [List.getElem?_append, kb]
 have g34 : (rtCs q).toArray[34]? = some (.string q.sig) := by unfold rtCs; simp [List.getElem?_append, kb]
 have g0 : ((rtCs q).drop 0).take 32 = bvs q.hot := by unfold rtCs; rw [List.drop_zero, take_left kb]
 unfold Program.fieldsOf
 rw [Tryz.underlying47]
 unfold samRt
 refine q1n (by decide) (q1m e0 w) (q1m g0 w) (q2i d r.hot q.hot h.hot k.hot w) ?_
 refine q1n (by decide) (run_part_plain w q1e e32) (run_part_plain w q1e g32) (by rw [run_equalIn_int w (d + 1) 24 .u64 .u64 _ _ Tryz.underlying24, q3a]) ?_
 refine q1n (by decide) (run_part_plain w q1e e33) (run_part_plain w q1e g33) (by rw [run_equalIn_int w (d + 1) 24 .u64 .u64 _ _ Tryz.underlying24, q3a]) ?_
 exact q5c (by decide) (run_part_plain w q7f e34) (run_part_plain w q7f g34) (by rw [run_equalIn_string w (d + 1) 9 _ _ Tryz.underlying9, j9d])
theorem j7t (d : Nat) (x y : Hd) (h : x.Ok) (k : y.Ok) (w : World) : (Op.equalIn (d + 4) 49 (hdV x) (hdV y)).run Tryz.prog w = .ok (samHd x y) w := by
 unfold hdV
 rw [run_equalIn_struct w (d + 3) 49 _ _ (by kernel_rfl) (by kernel_rfl)]
 have e0 : (hdCs x).toArray[0]? = some (.int .u64 x.slot) := q5j (l := (hdCs x).tail) rfl
 have e1 : (hdCs x).toArray[1]? = some (.int .u64 x.number) := q5j (l := (hdCs x).tail.tail) rfl
 have e2 : ((hdCs x).drop 2).take 32 = bvs x.prev := by rw [j5z, take_left (by rw [q0d, h.prev])]
 have e34 : ((hdCs x).drop 34).take 32 = bvs x.pool := by rw [j2o h, take_left (by rw [q0d, h.pool])]
 have e66 : ((hdCs x).drop 66).take 32 = bvs x.body := by rw [j3o h, take_left (by rw [q0d, h.body])]
 have e98 := q5j (q8g h)
 have e99 : (hdCs x).toArray[99]? = some (.int .u64 x.many) := q5j (l := rtCs x.right ++ [.string x.sig]) (by rw [show 99 = 98 + 1 by rfl, ← List.drop_drop, q8g h]; rfl)
 have e100 : ((hdCs x).drop 100).take 35 = rtCs x.right := by rw [j0k h, take_left (q2u h.right)]
 have e135 := q5j (j4s h)
 have g0 : (hdCs y).toArray[0]? = some (.int .u64 y.slot) := q5j (l := (hdCs y).tail) rfl
 have g1 : (hdCs y).toArray[1]? = some (.int .u64 y.number) := q5j (l := (hdCs y).tail.tail) rfl
 have g2 : ((hdCs y).drop 2).take 32 = bvs y.prev := by rw [j5z, take_left (by rw [q0d, k.prev])]
 have g34 : ((hdCs y).drop 34).take 32 = bvs y.pool := by rw [j2o k, take_left (by rw [q0d, k.pool])]
 have g66 : ((hdCs y).drop 66).take 32 = bvs y.body := by rw [j3o k, take_left (by rw [q0d, k.body])]
 have g98 := q5j (q8g k)
 have g99 : (hdCs y).toArray[99]? = some (.int .u64 y.many) := q5j (l := rtCs y.right ++ [.string y.sig]) (by rw [show 99 = 98 + 1 by rfl, ← List.drop_drop, q8g k]; rfl)
 have g100 : ((hdCs y).drop 100).take 35 = rtCs y.right := by rw [j0k k, take_left (q2u k.right)]
 have g135 := q5j (j4s k)
 have U : ∀ n m : Nat, (Op.equalIn (d + 3) 24 (.int .u64 (n : Int)) (.int .u64 (m : Int))).run Tryz.prog w = .ok (decide (n = m)) w := fun n m => by rw [run_equalIn_int w (d + 2) 24 .u64 .u64 _ _ Tryz.underlying24, q3a]
 unfold Program.fieldsOf
 rw [Tryz.underlying49]
 unfold samHd
 refine q1n (by decide) (run_part_plain w q1e e0) (run_part_plain w q1e g0) (U _ _) ?_
 refine q1n (by decide) (run_part_plain w q1e e1) (run_part_plain w q1e g1) (U _ _) ?_
 refine q1n (by decide) (q1m e2 w) (q1m g2 w) (q2i (d + 1) x.prev y.prev h.prev k.prev w) ?_
 refine q1n (by decide) (q1m e34 w) (q1m g34 w) (q2i (d + 1) x.pool y.pool h.pool k.pool w) ?_
 refine q1n (by decide) (q1m e66 w) (q1m g66 w) (q2i (d + 1) x.body y.body h.body k.body w) ?_
 refine q1n (by decide) (run_part_plain w q1e e98) (run_part_plain w q1e g98) (U _ _) ?_
 refine q1n (by decide) (run_part_plain w q1e e99) (run_part_plain w q1e g99) (U _ _) ?_
 refine q1n (by decide) (x4j e100 w) (x4j g100 w) (x5y d x.right y.right h.right k.right w) ?_
 exact q5c (by decide) (run_part_plain w q7f e135) (run_part_plain w q7f g135) (by rw [run_equalIn_string w (d + 2) 9 _ _ Tryz.underlying9, j9d])
section
variable {ops : Array Oper} {rest : List Oper} {o : Oper} {a : Act} {w : World} {Q : Exit → Act → World → Prop} {K : Act → Prop}
theorem j7q (hw : Region.wanted o (yielded ops a.tmps) = true) (p q : Operand) (ho : o.op = .binOp .eql 49 p q 49) {x y : Hd} (hx : a.eval p = hdV x) (hy : a.eval q = hdV y) (kx : x.Ok) (ky : y.Ok) (hk : wpList Tryz.prog ops Q rest (a.put o.dst (.bool (samHd x y))) w) : wpList Tryz.prog ops Q (o :: rest) a w :=
 q3v hw _ (j9n 49 p q ho hx hy (by kernel_rfl) (fun w => j7t 9996 x y kx ky w) w) hk
theorem j2k (hw : Region.wanted o (yielded ops a.tmps) = true) (p q : Operand) (ho : o.op = .binOp .neq 49 p q 49) {x y : Hd} (hx : a.eval p = hdV x) (hy : a.eval q = hdV y) (kx : x.Ok) (ky : y.Ok) (hk : wpList Tryz.prog ops Q rest (a.put o.dst (.bool (!(samHd x y)))) w) : wpList Tryz.prog ops Q (o :: rest) a w :=
 q3v hw _ (j1c 49 p q ho hx hy (by kernel_rfl) (fun w => j7t 9996 x y kx ky w) w) hk
end
section
variable {ops : Array Oper} {rest : List Oper} {o : Oper} {a : Act} {w w0 : World} {Q : Exit → Act → World → Prop}
theorem hdSet134 {d : Hd} (h : d.Ok) (s : ByteArray) : (hdCs d).set 134 (.string s) = hdCs { d with right := { d.right with sig := s } } := by
 have e1 : (bvs d.prev).length = 32 := by rw [q0d, h.prev]
 have e2 : (bvs d.pool).length = 32 := by rw [q0d, h.pool]
 have e3 : (bvs d.body).length = 32 := by rw [q0d, h.body]
 have e4 := q2u h.right
 have e5 := rtSigSet h.right s
 unfold hdCs
 simp [List.set_append, e1, e2, e3, e4, e5]
end
def nilD : Value := .slice none 0 0
def blkCs (d : Hd) (v : Value) : List Value := hdCs d ++ [v]
def blkV (d : Hd) (v : Value) : Value := .agg (blkCs d v).toArray
theorem q2o {d : Hd} (v : Value) (h : d.Ok) : (blkCs d v).length = 137 := by unfold blkCs; rw [List.length_append, q2m h]; rfl
theorem x4u (d : Hd) {v : Value} (hv : v.oneCell' = true) : ∀ u ∈ blkCs d v, u.oneCell' = true := fun u hu => by
 rcases List.mem_append.1 hu with h | h
 ·exact x0l d u h
 ·simp at h; subst h; exact hv
structure KAt (w : World) (g : Nat) (d : Hd) (v : Value) : Prop where
 ok : d.Ok
 one : v.oneCell' = true
 arr : Arr w g 51 (blkCs d v)
section
variable {w w' : World} {g : Nat} {d : Hd} {v : Value}
theorem KAt.lt (h : KAt w g d v) : g < w.heap.size := Arr.lt h.arr
theorem KAt.later (h : KAt w g d v) (hb : Below w.heap.size w w') : KAt w' g d v := ⟨h.ok, h.one, h.arr.later hb⟩
theorem KAt.touch {S : Nat → Prop} (h : KAt w g d v) (ht : Touch S w w') (hS : ¬ S g) : KAt w' g d v := ⟨h.ok, h.one, h.arr.touch ht hS⟩
theorem KAt.tt {g' : Nat} (h : KAt w g d v) (ht : Touch (fun y => y = g') w w') (hS : ¬ g = g' := by omega) : KAt w' g d v := h.touch ht hS
theorem KAt.cells (h : KAt w g d v) : Cells w g 0 (blkCs d v) := Cells.arr h.arr
theorem KAt.hd (h : KAt w g d v) : Cells w g 0 (hdCs d) := Cells.left h.cells
theorem KAt.ds (h : KAt w g d v) : w.cell? ⟨g, 136, none⟩ = some v := by
 have := (Cells.right (n := 136) h.cells (q2m h.ok)).one
 rwa [Nat.zero_add] at this
theorem KAt.r66 (h : KAt w g d v) : Cells w g 66 (bvs d.body ++ (.int .u64 d.size :: .int .u64 d.many :: (rtCs d.right ++ [.string d.sig]))) := by
 have h2 : Cells w g 2 (bvs d.prev ++ (bvs d.pool ++ (bvs d.body ++ (.int .u64 d.size :: .int .u64 d.many :: (rtCs d.right ++ [.string d.sig]))))) := h.hd.tail.tail
 have h34 := Cells.right (n := 32) h2 (by rw [q0d, h.ok.prev])
 exact Cells.right (n := 32) h34 (by rw [q0d, h.ok.pool])
theorem KAt.body (h : KAt w g d v) : Cells w g 66 (bvs d.body) := Cells.left h.r66
theorem KAt.r98 (h : KAt w g d v) : Cells w g 98 (.int .u64 d.size :: .int .u64 d.many :: (rtCs d.right ++ [.string d.sig])) := Cells.right (n := 32) h.r66 (by rw [q0d, h.ok.body])
theorem KAt.size (h : KAt w g d v) : w.cell? ⟨g, 98, none⟩ = some (.int .u64 d.size) := h.r98.one
theorem KAt.many (h : KAt w g d v) : w.cell? ⟨g, 99, none⟩ = some (.int .u64 d.many) := h.r98.tail.one
theorem KAt.rsig (h : KAt w g d v) : w.cell? ⟨g, 134, none⟩ = some (.string d.right.sig) := (j5h (Cells.left h.r98.tail.tail) h.ok.right).tail.tail.one
theorem KAt.sig (h : KAt w g d v) : w.cell? ⟨g, 135, none⟩ = some (.string d.sig) := (Cells.right (n := 35) h.r98.tail.tail (q2u h.ok.right)).one
end
theorem blkSize : (Tryz.prog.info? 51).map (·.size) = some 137 := by kernel_rfl
theorem blkZero : (Tryz.prog.info? 51).bind (·.zero) = some (blkV hd0 nilD) := by kernel_rfl
theorem blkBuilt0 : Tryz.prog.built 51 [] = some (blkCs hd0 nilD).toArray := by kernel_rfl
theorem blkBuilt2 (a : Option Addr) (n c : Nat) : Tryz.prog.built 51 [(1, .slice a n c)] = some (blkCs hd0 (.slice a n c)).toArray := by kernel_rfl
theorem blkBuilt1 {d : Hd} (h : d.Ok) : Tryz.prog.built 51 [(0, hdV d)] = some (blkCs d nilD).toArray := by
 obtain ⟨slot, number, prev, pool, body, size, many, ⟨hot, counter, start, rsig⟩, sig⟩ := d
 obtain ⟨a0, a1, a2, a3, a4, a5, a6, a7, a8, a9, a10, a11, a12, a13, a14, a15, a16, a17, a18, a19, a20, a21, a22, a23, a24, a25, a26, a27, a28, a29, a30, a31, rfl⟩ := q5k h.prev
 obtain ⟨b0, b1, b2, b3, b4, b5, b6, b7, b8, b9, b10, b11, b12, b13, b14, b15, b16, b17, b18, b19, b20, b21, b22, b23, b24, b25, b26, b27, b28, b29, b30, b31, rfl⟩ := q5k h.pool
 obtain ⟨c0, c1, c2, c3, c4, c5, c6, c7, c8, c9, c10, c11, c12, c13, c14, c15, c16, c17, c18, c19, c20, c21, c22, c23, c24, c25, c26, c27, c28, c29, c30, c31, rfl⟩ := q5k h.body
 obtain ⟨d0, d1, d2, d3, d4, d5, d6, d7, d8, d9, d10, d11, d12, d13, d14, d15, d16, d17, d18, d19, d20, d21, d22, d23, d24, d25, d26, d27, d28, d29, d30, d31, rfl⟩ := q5k h.right.hot
 kernel_rfl
section
variable {ops : Array Oper} {rest : List Oper} {o : Oper} {a : Act} {w w0 : World} {Q : Exit → Act → World → Prop} {K : Act → Prop} {d e : Hd} {v u : Value} {g : Nat}
theorem q0k (hw : Region.wanted o (yielded ops a.tmps) = true) (x : Operand) (ho : o.op = .box 51 x) (hx : a.eval x = blkV d v) (hr : d.Ok) (hv : v.oneCell' = true)
  (hk : ∀ w2 g, w.heap.size ≤ g → KAt w2 g d v → Below w.heap.size w w2 → wpList Tryz.prog ops Q rest (a.put o.dst (.pointer (some ⟨g, 0, none⟩))) w2) : wpList Tryz.prog ops Q (o :: rest) a w :=
 q4s hw 51 x ho hx (cs := blkCs d v) (by simp [blkV, Value.cells]) (fun w2 g hg h hb => hk w2 g hg ⟨hr, hv, h⟩ hb)
theorem q1f (hw : Region.wanted o (yielded ops a.tmps) = true) (ho : o.op = .alloc 51)
  (hk : ∀ w2 g, w.heap.size ≤ g → KAt w2 g hd0 nilD → Below w.heap.size w w2 → wpList Tryz.prog ops Q rest (a.put o.dst (.pointer (some ⟨g, 0, none⟩))) w2) : wpList Tryz.prog ops Q (o :: rest) a w :=
 q4z hw 51 ho blkZero (cs := blkCs hd0 nilD) (by simp [blkV, Value.cells]) (fun w2 g hg h hb => hk w2 g hg ⟨q7g, rfl, h⟩ hb)
theorem q0r (hgd : o.guard = none) (x y : Operand) (ho : o.op = .store 51 x y) (hx : a.eval x = .pointer (some ⟨g, 0, none⟩)) (hy : a.eval y = blkV d v) (hr : d.Ok) (hv : v.oneCell' = true) (h : KAt w g e u)
  (hk : ∀ w2, KAt w2 g d v → Touch (fun b => b = g) w w2 → wpList Tryz.prog ops Q rest (a.put o.dst undef) w2) : wpList Tryz.prog ops Q (o :: rest) a w :=
 q5o hgd 51 x y ho hx hy h.arr (by rw [q2o v hr]; exact blkSize) (by rw [q2o v hr, q2o u h.ok]) (x4u d hv) (fun w2 ha ht => hk w2 ⟨hr, hv, ha⟩ ht)
theorem q0m (hw : Region.wanted o (yielded ops a.tmps) = true) (x : Operand) (ho : o.op = .load 51 x) (hx : a.eval x = .pointer (some ⟨g, 0, none⟩)) (h : KAt w g d v)
  (hk : wpList Tryz.prog ops Q rest (a.put o.dst (blkV d v)) w) : wpList Tryz.prog ops Q (o :: rest) a w :=
 q1x hw 51 x ho hx h.cells _ Tryz.underlying51 rfl (by rw [q2o v h.ok]; exact blkSize) hk
theorem j1o (x : Operand) (ho : o.op = .load 51 x) (hx : a.eval x = .pointer (some ⟨g, 0, none⟩)) (h : KAt w0 g d v) (hk : K (a.put o.dst (blkV d v))) :
  o.quiet Tryz.prog a (fun w' => ∃ s : Since w0, w' = s.w) K := q1y 51 x ho hx h.cells _ Tryz.underlying51 rfl (by rw [q2o v h.ok]; exact blkSize) hk
theorem q1l (hw : Region.wanted o (yielded ops a.tmps) = true) (x : Operand) (ho : o.op = .load 49 x) (hx : a.eval x = .pointer (some ⟨g, 0, none⟩)) (h : KAt w g d v)
  (hk : wpList Tryz.prog ops Q rest (a.put o.dst (hdV d)) w) : wpList Tryz.prog ops Q (o :: rest) a w :=
 q1x hw 49 x ho hx h.hd _ Tryz.underlying49 rfl (by rw [q2m h.ok]; exact hdSize) hk
theorem slDsSize : (Tryz.prog.info? 42).map (·.size) = some 1 := by kernel_rfl
theorem blkDsSet {d : Hd} (h : d.Ok) (v u : Value) : (blkCs d v).set 136 u = blkCs d u := by
 have e := q2m h
 unfold blkCs
 simp [List.set_append, e]
theorem j4q (hgd : o.guard = none) (x y : Operand) (ho : o.op = .store 42 x y) (hx : a.eval x = .pointer (some ⟨g, 136, none⟩)) (hy : a.eval y = u) (hc : u.cells = #[u]) (hu : u.oneCell' = true) (h : KAt w g d v)
  (hk : ∀ w2, KAt w2 g d u → Touch (fun b => b = g) w w2 → wpList Tryz.prog ops Q rest (a.put o.dst undef) w2) : wpList Tryz.prog ops Q (o :: rest) a w :=
 q0x hgd 42 x y ho hx hy h.arr (by rw [q2o v h.ok]; omega) slDsSize hc hu (fun w2 ha ht => hk w2 ⟨h.ok, hu, by rw [blkDsSet h.ok] at ha; exact ha⟩ ht)
theorem q3b (hw : Region.wanted o (yielded ops a.tmps) = true) (x : Operand) (ho : o.op = .load 29 x) {b k : Nat} {v1 v2 v3 v4 v5 : Value} {f s t : Nat} (hx : a.eval x = .pointer (some ⟨b, k, none⟩)) (h : Cells w b k (deedCs v1 v2 v3 v4 v5 f s t))
  (hk : wpList Tryz.prog ops Q rest (a.put o.dst (deedV v1 v2 v3 v4 v5 f s t)) w) : wpList Tryz.prog ops Q (o :: rest) a w :=
 q1x hw 29 x ho hx h _ Tryz.underlying29 rfl deedSize hk
theorem q6x (x : Operand) (ho : o.op = .load 29 x) {b k : Nat} {v1 v2 v3 v4 v5 : Value} {f s t : Nat} (hx : a.eval x = .pointer (some ⟨b, k, none⟩)) (h : Cells w0 b k (deedCs v1 v2 v3 v4 v5 f s t)) (hk : K (a.put o.dst (deedV v1 v2 v3 v4 v5 f s t))) :
  o.quiet Tryz.prog a (fun w' => ∃ s : Since w0, w' = s.w) K := q1y 29 x ho hx h _ Tryz.underlying29 rfl deedSize hk
end
theorem j9w {fn : Func} {q : Tmp} (hr : fn.results = #[.cell q 51]) (tmps : Array Value) (w : World) {g : Nat} {d : Hd} {x : Value} (hp : tmps.getD q undef = .pointer (some ⟨g, 0, none⟩)) (h : KAt w g d x) :
  (results fn tmps).run Tryz.prog w = .ok (blkV d x) w :=
 results_cell_row hr tmps w g 51 (blkCs d x).toArray (0, 0) _ hp h.arr Tryz.underlying51 rfl (by rw [List.size_toArray, q2o x h.ok]; exact blkSize)
/-- v is a slice of the deeds l. -/
def DsIs (w : World) (v : Value) (l : List Deed) : Prop := ∃ vs : List (List Value), Sl w v 8 vs ∧ vs.length = l.length ∧ ∀ (i : Nat) (cs : List Value) (d : Deed), vs[i]? = some cs → l[i]? = some d → DeedIs w (.agg cs.toArray) d
theorem DsIs.later {w w' : World} {v : Value} {l : List Deed} (h : DsIs w v l) (hb : Below w.heap.size w w') : DsIs w' v l := by
 obtain ⟨vs, h1, h2, h3⟩ := h
 exact ⟨vs, h1.later hb, h2, fun i cs d hi hd => (h3 i cs d hi hd).later hb⟩
theorem DsIs.shape {w : World} {v : Value} {l : List Deed} (h : DsIs w v l) : ∃ a c, v = .slice a l.length c := by
 obtain ⟨vs, h1, h2, _⟩ := h
 obtain ⟨a, c, he, _⟩ := h1
 exact ⟨a, c, by rw [he, h2]⟩
theorem DsIs.ok {w : World} {v : Value} {l : List Deed} (h : DsIs w v l) : ∀ d ∈ l, d.Ok := by
 obtain ⟨vs, _, h2, h3⟩ := h
 intro d hd
 obtain ⟨i, hi, rfl⟩ := List.mem_iff_getElem.1 hd
 obtain ⟨_, _, _, _, _, _, _, _, _, _, _, ok⟩ := h3 i _ _ (List.getElem?_eq_getElem (by omega)) (List.getElem?_eq_getElem hi)
 exact ok
theorem DsIs.block {w : World} {v : Value} {l : List Deed} (h : DsIs w v l) (h0 : 0 < l.length) :
  ∃ b k c, v = .slice (some ⟨b, k, none⟩) l.length c ∧ b < w.heap.size ∧ ∀ i d, l[i]? = some d → ∃ v1 v2 v3 v4 v5, Cells w b (k + i * 8) (deedCs v1 v2 v3 v4 v5 d.fee d.frm d.til) ∧ DeedIs w (deedV v1 v2 v3 v4 v5 d.fee d.frm d.til) d ∧ v1.oneCell' = true ∧ v2.oneCell' = true ∧ v3.oneCell' = true ∧ v4.oneCell' = true ∧ v5.oneCell' = true := by
 obtain ⟨vs, h1, h2, h3⟩ := h
 rw [← List.map_id vs] at h1
 obtain ⟨b, k, c, he, hb, hc⟩ := Sl.block (f := id) h1 (by omega)
 refine ⟨b, k, c, by rw [he, h2], hb, fun i d hd => ?_⟩
 have hi : i < vs.length := by have := (List.getElem?_eq_some_iff.1 hd).1; omega
 have hv := List.getElem?_eq_getElem hi
 have hD := h3 i _ d hv hd
 have hC := hc i _ hv
 have hD' := hD
 obtain ⟨v1, v2, v3, v4, v5, e, s1, s2, s3, s4, s5, ok⟩ := hD
 have e2 : vs[i] = deedCs v1 v2 v3 v4 v5 d.fee d.frm d.til := by
  unfold deedV at e
  simpa using e
 refine ⟨v1, v2, v3, v4, v5, ?_, ?_, s1.one', s2.one', s3.one', s4.one', s5.one'⟩
 ·rw [← e2]; exact hC
 ·rw [← e]; exact hD'
theorem q5f (w : World) : DsIs w nilD [] := ⟨[], ⟨none, 0, rfl, by simp, by decide, by simp, by simp, by simp⟩, rfl, by simp⟩
/-- v is the block b. -/
def BlkIs (w : World) (v : Value) (b : Blk) : Prop := ∃ u, v = blkV b.head u ∧ DsIs w u b.deeds ∧ b.head.Ok
theorem BlkIs.later {w w' : World} {v : Value} {b : Blk} (h : BlkIs w v b) (hb : Below w.heap.size w w') : BlkIs w' v b := by
 obtain ⟨u, h1, h2, h3⟩ := h
 exact ⟨u, h1, h2.later hb, h3⟩
theorem BlkIs.ok {w : World} {v : Value} {b : Blk} (h : BlkIs w v b) : b.Ok := by
 obtain ⟨u, _, h2, h3⟩ := h
 exact ⟨h3, h2.ok⟩
theorem elOf {P : Program} {t e sz by' : Nat} (ht : P.underlying t = some (.slice e)) (hz : 0 < sz) (h : (P.info? e).map (fun i => (i.size, i.bytes, i.zero.map (·.cells.size))) = some (sz, by', some sz)) : ElemOf P t e sz by' := by
 obtain ⟨i, hi, h1⟩ := Option.map_eq_some_iff.1 h
 simp only [Prod.mk.injEq] at h1
 obtain ⟨h2, h3, h4⟩ := h1
 obtain ⟨z, hz', h5⟩ := Option.map_eq_some_iff.1 h4
 exact ⟨ht, hz, i, z, hi, hz', h2, h3, h5⟩
theorem inElem : ElemOf Tryz.prog 22 80 33 40 := elOf Tryz.underlying22 (by decide) (by kernel_rfl)
theorem outElem : ElemOf Tryz.prog 23 84 65 72 := elOf Tryz.underlying23 (by decide) (by kernel_rfl)
theorem certElem : ElemOf Tryz.prog 25 87 68 96 := elOf Tryz.underlying25 (by decide) (by kernel_rfl)
theorem payElem : ElemOf Tryz.prog 26 89 33 40 := elOf Tryz.underlying26 (by decide) (by kernel_rfl)
theorem witElem : ElemOf Tryz.prog 27 74 33 48 := elOf Tryz.underlying27 (by decide) (by kernel_rfl)
theorem OwnR.off {w : World} {B e sz g : Nat} {v : Value} {els : List (List Value)} {X : List Nat} (h : OwnR w B e sz v els X) (hg : g < B) : ¬ v.ownBlock = some g := fun hs => by
 have := (World.ownsRow.lt h.1 g hs).1; omega
theorem OwnR.tg {w w' : World} {B e sz g : Nat} {v : Value} {els : List (List Value)} {X : List Nat} (h : OwnR w B e sz v els X) (ht : Touch (fun b => b = g) w w') (hg : g < B) : OwnR w' B e sz v els X :=
 ⟨q1k h.1 ht (fun b hb hs => h.off hg (by have e : b = g := hs; rw [e] at hb; exact hb)), h.2⟩
theorem OwnR.ge {w : World} {B e sz : Nat} {v : Value} {els : List (List Value)} {X : List Nat} (h : OwnR w B e sz v els X) : ∀ b, v.ownBlock = some b → B ≤ b := fun b hb => (World.ownsRow.lt h.1 b hb).1
theorem j2w {α : Type} {P : α → Prop} {l : List α} {x : α} (h : ∀ y ∈ l, P y) (hx : P x) : ∀ y ∈ l ++ [x], P y := fun y hy => by
 rcases List.mem_append.1 hy with h1 | h1
 ·exact h y h1
 ·simp at h1; subst h1; exact hx
end Go.Proofs.YtbbfnpfkbbpjgaaGreat
