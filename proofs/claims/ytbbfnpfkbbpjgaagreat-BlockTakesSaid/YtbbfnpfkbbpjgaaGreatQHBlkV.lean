/- The block with a deed of which the laws of layer 15 speak. -/
import Derived.Test.YtbbfnpfkbbpjgaaGreatQHBkR4
import Derived.Test.YtbbfnpfkbbpjgaaGreatQHBkR1
import Derived.Test.YtbbfnpfkbbpjgaaGreatQHBuilderS
import Derived.Test.YtbbfnpfkbbpjgaaGreatQHMRef
import Derived.Test.YtbbfnpfkbbpjgaaGreatQHDeed9
import Derived.Test.YtbbfnpfkbbpjgaaGreatQHMCells
import Derived.Test.YtbbfnpfkbbpjgaaGreatQHTakeRW
import Derived.RangeFuncNested
import Derived.RangeFuncLeaves
import Derived.RangeFuncIn
import Derived.RangeFuncRecord
import Derived.TacticsIn
import Derived.BigFrameIn
import Derived.Test.YtbbfnpfkbbpjgaaGreatQHStep
import Derived.Test.YtbbfnpfkbbpjgaaGreatQHDeed5
namespace Go.Proofs.YtbbfnpfkbbpjgaaGreat
open Go.RowKit Go.Lib
set_option linter.unusedVariables false
set_option linter.unusedSimpArgs false
set_option maxRecDepth 100000
set_option maxHeartbeats 4000000
def zL (n : Nat) : List UInt8 := List.replicate n 0
def zBytes (n : Nat) : ByteArray := ⟨(zL n).toArray⟩
theorem q7i (n : Nat) : (zL n).length = n := List.length_replicate
theorem j4p {n : Nat} (h : 0 < n) : bvs (zL n) ≠ [] := fun h0 => by
 have := congrArg List.length h0
 rw [q0c, q7i] at this
 simp at this
 omega
def hdOne1 : Hd := { hd0 with right := { rt0 with sig := zBytes 1024 } }
def hdOne : Hd := { hdOne1 with sig := zBytes 1120 }
def blkOne : Blk := ⟨hdOne, [smallD]⟩
theorem blkOne_ok : blkOne.Ok := ⟨⟨by decide, by decide, rfl, rfl, rfl, by decide, by decide, ⟨rfl, by decide, by decide⟩⟩, by intro d hd; simp [blkOne] at hd; subst hd; exact j8w⟩
section
variable {ops : Array Oper} {rest : List Oper} {o : Oper} {a : Act} {w w0 : World} {Q : Exit → Act → World → Prop} {K : Act → Prop} {g : Nat} {d : Hd} {v : Value}
theorem j8m {e : Hd} (h : d.Ok) (v x : Value) {i : Nat} (hi : i < 136) (hs : (hdCs d).set i x = hdCs e) : (blkCs d v).set i x = blkCs e v := by
 have e1 := q0t h
 unfold blkCs
 rw [List.set_append, if_pos (by rw [e1]; exact hi), hs]
theorem q5q (hgd : o.guard = none) (x y : Operand) (ho : o.op = .store 9 x y) {s : ByteArray} (hx : a.eval x = .pointer (some ⟨g, 134, none⟩)) (hy : a.eval y = .string s) (h : KAt w g d v)
  (hk : ∀ w2, KAt w2 g { d with right := { d.right with sig := s } } v → Touch (fun b => b = g) w w2 → wpList Tryz.prog ops Q rest (a.put o.dst undef) w2) : wpList Tryz.prog ops Q (o :: rest) a w :=
 q0i hgd 9 x y ho hx hy h.arr (by rw [q2p v h.ok]; omega) strSize rfl rfl (fun w2 ha ht => hk w2 ⟨⟨h.ok.slot, h.ok.number, h.ok.prev, h.ok.pool, h.ok.body, h.ok.size, h.ok.many, ⟨h.ok.right.hot, h.ok.right.counter, h.ok.right.start⟩⟩, h.one, by rw [j8m h.ok v _ (by omega) (hdSet134 h.ok s)] at ha; exact ha⟩ ht)
theorem q6b (hgd : o.guard = none) (x y : Operand) (ho : o.op = .store 9 x y) {s : ByteArray} (hx : a.eval x = .pointer (some ⟨g, 135, none⟩)) (hy : a.eval y = .string s) (h : KAt w g d v)
  (hk : ∀ w2, KAt w2 g { d with sig := s } v → Touch (fun b => b = g) w w2 → wpList Tryz.prog ops Q rest (a.put o.dst undef) w2) : wpList Tryz.prog ops Q (o :: rest) a w :=
 q0i hgd 9 x y ho hx hy h.arr (by rw [q2p v h.ok]; omega) strSize rfl rfl (fun w2 ha ht => hk w2 ⟨⟨h.ok.slot, h.ok.number, h.ok.prev, h.ok.pool, h.ok.body, h.ok.size, h.ok.many, h.ok.right⟩, h.one, by rw [j8m h.ok v _ (by omega) (hdSigSet h.ok s)] at ha; exact ha⟩ ht)
end
theorem Cells.touched {S : Nat → Prop} {w w' : World} {b k : Nat} {cs : List Value} (h : Cells w b k cs) (hb : b < w.heap.size) (ht : Touch S w w') (hS : ¬ S b) : Cells w' b k cs := fun j v hj =>
 (World.cell?_of_block (a := ⟨b, k + j, none⟩) (ht.block b hb hS)).trans (h j v hj)
theorem q6w {o : Oper} {a : Act} {K : Act → Prop} {w0 : World} {S : Nat → Prop} {g k n cap : Nat} {l : List UInt8} (x : Operand) (ho : o.op = .convert 93 9 x) (hx : a.eval x = .slice (some ⟨g, k, none⟩) n cap) (h : Cells w0 g k (bvs l)) (hg : g < w0.heap.size) (hS : ¬ S g) (hn : l.length = n)
  (hk : K (a.put o.dst (.string ⟨l.toArray⟩))) : o.quiet Tryz.prog a (fun w' => ∃ s : Kept (fun x => Touch S w0 x), w' = s.w) K :=
 q2z _ (fun w hw => j9g x ho hx (Cells.touched h hg (Kl.out hw) hS) hn) hk
theorem q5p {S : Nat → Prop} {W0 : World} {next : (World → Prop) → Act → World → Prop} {a : Act} {w : World} (h : Touch S W0 w) (h2 : next (fun x => Touch S w x) a w) : goQ (fun x => Touch S W0 x) next .normal a w :=
 ⟨_, fun _ hx => h.add hx (fun _ h => h), fun _ _ h hb => h.behind hb, Touch.refl _ _, h2⟩
theorem x3b {B : Nat} {w w' : World} (_h : Below B w w') : Below w'.heap.size w' w' := Below.refl _ _
theorem j6z {w : World} {B C g : Nat} {v1 : Value} (S : OwnR w B 29 8 (.slice (some ⟨g, 0, none⟩) 1 1) [deedCs v1 nilS nilS nilS nilS 0 0 0] []) (h : OwnR w C 80 33 v1 [inCs in0] []) : DsIs w (.slice (some ⟨g, 0, none⟩) 1 1) [smallD] := by
 refine ⟨_, S.sl, rfl, fun i cs d h1 h2 => ?_⟩
 cases i with
 | zero =>
  simp only [List.getElem?_cons_zero, Option.some.injEq] at h1 h2
  subst h1 h2
  exact ⟨v1, nilS, nilS, nilS, nilS, rfl, h.sl, (OwnR.nil _ 0 84 _).sl, (OwnR.nil _ 0 87 _).sl, (OwnR.nil _ 0 89 _).sl, (OwnR.nil _ 0 74 _).sl, j8w⟩
 | succ i => simp at h1
theorem x6m (w : World) : Calls Tryz.prog 39 #[] w fun e w' => (∃ v, e = .returned v ∧ BlkIs w' v blkOne) ∧ Below w.heap.size w w' := by
 have b := Below.refl w.heap.size w
 have mF0 := True.intro
 have mF1 := True.intro
 go_enter Tryz.func39, Tryz.ntmps39
 go_wp2_with (first | (with_reducible refine w3g ?_; first | (clear mF0; refine q0z rfl rfl ?_; intro _ g0 hg0 F0 hb; replace b := later b hb; clear hb) | (clear mF1; refine q0z rfl rfl ?_; have qb := b.size; have q0 := F0.lt; have qk := kD.size; intro _ g1 hg1 F1 hb; replace F0 := F0.later hb; replace b := later b hb; replace kD := later kD hb; clear hb)) | ((with_reducible show wpList _ _ _ (⟨_, Op.build 80 _, _, _, _, _⟩ :: _) _ _); refine q0q rfl 80 rfl (cs := inCs in0) inBuilt0 ?_) | ((with_reducible show wpList _ _ _ (⟨_, Op.buildSlice 22 _ _, _, _, _, _⟩ :: _) _ _); have q9 := F0.lt; have r9 := b.size; refine q2q rfl inElem (by decide) _ rfl (v := inV in0) (el := inCs in0) rfl (by simp [inV, Value.cells]) (q4o x1e) (j2f in0) ?_; intro _ g9 h9 O9 hb; replace F0 := F0.later hb; replace b := later b hb; clear hb) | ((with_reducible refine w18g ?_); refine q2x rfl 29 _ rfl rfl (deedBuilt1 _ _ _) ?_) | ((with_reducible show wpList _ _ _ (⟨_, Op.buildSlice 42 _ _, _, _, _, _⟩ :: _) _ _); have q8 := F0.lt; refine q2q rfl bdElem (by decide) _ rfl (v := deedV (.slice (some ⟨g9, 0, none⟩) 1 1) nilS nilS nilS nilS 0 0 0) (el := deedCs (.slice (some ⟨g9, 0, none⟩) 1 1) nilS nilS nilS nilS 0 0 0) rfl (by simp [deedV, Value.cells]) rfl (j0m rfl rfl rfl rfl rfl 0 0 0) ?_; intro _ g8 h8 O8 hb; replace O9 := O9.later hb; replace F0 := F0.later hb; replace b := later b hb; have kD := x3b hb; clear hb) | ((with_reducible refine w19g ?_); refine q2x rfl 51 _ rfl rfl (blkBuilt2 _ _ _) ?_) | ((with_reducible refine w4g ?_); refine q0j rfl _ _ rfl rfl (d := hd0) rfl q4w rfl F1 ?_; intro _ t1 ht1; clear F1; replace F0 := F0.tt ht1; replace b := q0b b ht1 (by omega) (Nat.le_refl _); replace kD := q0b kD ht1 (by omega) (Nat.le_refl _); have F1 := t1; clear t1 ht1) | (with_reducible show Code.wp _ (Code.region _ _ true) _ _ _; (try simp only [pS]); fail))
 have q1 := F1.lt
 have qk1 := kD.size
 have qb1 := b.size
 (try simp only [pS])
 refine q1m (fun x => Touch (fun b => b = g1) _ x) (.two [] 0 (.two [1, 4, 5, 6] 2 (.one [3] 7 (.bar [8, 9] 10 (.stop []))) 7 (.one [] 2 (.bar [3, 8, 9] 10 (.stop [])))) 2 (.one [3] 0 (.one [1, 4, 5, 6] 7 (.bar [8, 9] 10 (.stop []))))) (by kernel_rfl) (by kernel_rfl) (by kernel_rfl) (by decide) (fun _ _ h hb => h.behind hb) (Touch.refl _ _) ?_
 intro _ hb _ hT
 replace F0 := F0.later hb
 replace F1 := F1.later hb
 replace b := later b hb
 replace kD := later kD hb
 clear hb
 refine j2i ?_
 simp only [pickOps, opAt, List.getElem?_cons_succ, List.getElem?_cons_zero, List.nil_append, List.cons_append]
 refine wpQuiet_nil ?_
 intro _ hb hT
 replace F0 := F0.later hb
 replace F1 := F1.later hb
 replace b := later b hb
 replace kD := later kD hb
 clear hb
 refine ⟨?_, ?_⟩
 ·skip
  refine q3u rfl _ _ rfl 1024 rfl rfl (by decide) ?_
  have qw := F1.lt
  intro _ gA hgA FA hb
  have FA : Cells _ gA 0 (bvs (zL 1024)) := FA
  have ngA : ¬ gA = g1 := by omega
  replace hT := hT.behind hb
  replace F0 := F0.later hb
  replace F1 := F1.later hb
  replace b := later b hb
  replace kD := later kD hb
  clear hb
  refine q5p hT ?_
  clear hT
  (try simp only [pS])
  refine j2i ?_
  simp only [pickOps, opAt, List.getElem?_cons_succ, List.getElem?_cons_zero, List.nil_append, List.cons_append]
  repeat ((go_big_quiet_want; first | ((refine q6w _ rfl rfl FA (Cells.lt FA (j4p (by decide))) ngA (q7i _) ?_; simp only [pS]; go_big_quiet_on)) | (go_big_quiet_op; first | (refine ⟨_, fun _ => rfl, ?_⟩; go_big_quiet_on))))
  refine wpQuiet_nil ?_
  intro _ hb hT
  replace F0 := F0.later hb
  replace F1 := F1.later hb
  replace b := later b hb
  replace kD := later kD hb
  (try replace FA := FA.later hb)
  clear hb
  refine ⟨?_, ?_⟩
  ·skip
   refine q3u rfl _ _ rfl 1120 rfl rfl (by decide) ?_
   have qw := F1.lt
   intro _ gB hgB FB hb
   have FB : Cells _ gB 0 (bvs (zL 1120)) := FB
   have ngB : ¬ gB = g1 := by omega
   replace hT := hT.behind hb
   replace F0 := F0.later hb
   replace F1 := F1.later hb
   replace b := later b hb
   replace kD := later kD hb
   (try replace FA := FA.later hb)
   clear hb
   refine q5p hT ?_
   clear hT
   (try simp only [pS])
   refine q0w ?_
   simp only [pickOps, opAt, List.getElem?_cons_succ, List.getElem?_cons_zero, List.nil_append, List.cons_append]
   repeat ((go_big_quiet_want; first | ((refine q6w _ rfl rfl FB (Cells.lt FB (j4p (by decide))) ngB (q7i _) ?_; simp only [pS]; go_big_quiet_on))))
   refine wpQuiet_nil ?_
   intro _ hb hT
   replace F0 := F0.later hb
   replace F1 := F1.later hb
   replace b := later b hb
   replace kD := later kD hb
   (try replace FA := FA.later hb)
   (try replace FB := FB.later hb)
   clear hb
   refine q5q rfl _ _ rfl rfl (s := zBytes 1024) rfl F1 ?_
   intro _ t1 ht1
   clear F1
   replace F0 := F0.tt ht1
   (try replace FA := Cells.touched FA (Cells.lt FA (j4p (by decide))) ht1 ngA)
   (try replace FB := Cells.touched FB (Cells.lt FB (j4p (by decide))) ht1 ngB)
   replace b := q0b b ht1 (by omega) (Nat.le_refl _)
   replace kD := q0b kD ht1 (by omega) (Nat.le_refl _)
   replace hT := hT.add ht1 (fun _ h => h)
   have F1 : KAt _ g1 hdOne1 _ := t1
   clear t1 ht1
   refine q5p hT ?_
   clear hT
   (try simp only [pS])
   refine q2u ?_
   simp only [pickOps, opAt, List.getElem?_cons_succ, List.getElem?_cons_zero, List.nil_append, List.cons_append]
   repeat ((go_big_quiet_want; first | (go_big_quiet_op; first | (refine ⟨_, fun _ => rfl, ?_⟩; go_big_quiet_on))))
   refine wpQuiet_nil ?_
   intro _ hb hT
   replace F0 := F0.later hb
   replace F1 := F1.later hb
   replace b := later b hb
   replace kD := later kD hb
   (try replace FA := FA.later hb)
   (try replace FB := FB.later hb)
   clear hb
   refine q6b rfl _ _ rfl rfl (s := zBytes 1120) rfl F1 ?_
   intro _ t1 ht1
   clear F1
   replace F0 := F0.tt ht1
   replace b := q0b b ht1 (by omega) (Nat.le_refl _)
   replace kD := q0b kD ht1 (by omega) (Nat.le_refl _)
   have F1 : KAt _ g1 hdOne _ := t1
   clear t1 ht1 hT FA FB
   refine q1v ?_
   (try simp only [pS])
   refine wpQuiet_nil ?_
   intro _ hb _
   replace F0 := F0.later hb
   replace F1 := F1.later hb
   replace b := later b hb
   replace kD := later kD hb
   clear hb
   replace O8 := O8.later kD
   replace O9 := O9.later kD
   go_wp2_with (first | (with_reducible refine w16g ?_; refine q0v rfl _ rfl rfl F1 ?_) | ((with_reducible refine w4g ?_); refine q0j rfl _ _ rfl rfl (d := hdOne) rfl F1.ok rfl F0 ?_; intro _ t1 ht1; clear F0 F1; replace b := q0b b ht1 (by omega) (Nat.le_refl _); replace O8 := O8.tg ht1 (by omega); replace O9 := O9.tg ht1 (by omega); have F0 := t1; clear t1 ht1))
   exact bodyPost_ret (j9s rfl _ _ rfl F0) rfl ⟨⟨_, rfl, _, rfl, j6z O8 O9, blkOne_ok.head⟩, b⟩
  ·skip
   refine q5q rfl _ _ rfl rfl (s := zBytes 1024) rfl F1 ?_
   intro _ t1 ht1
   clear F1
   replace F0 := F0.tt ht1
   (try replace FA := Cells.touched FA (Cells.lt FA (j4p (by decide))) ht1 ngA)
   replace b := q0b b ht1 (by omega) (Nat.le_refl _)
   replace kD := q0b kD ht1 (by omega) (Nat.le_refl _)
   replace hT := hT.add ht1 (fun _ h => h)
   have F1 : KAt _ g1 hdOne1 _ := t1
   clear t1 ht1
   refine q5p hT ?_
   clear hT
   (try simp only [pS])
   refine q0w ?_
   simp only [pickOps, opAt, List.getElem?_cons_succ, List.getElem?_cons_zero, List.nil_append, List.cons_append]
   repeat (fail)
   refine wpQuiet_nil ?_
   intro _ hb hT
   replace F0 := F0.later hb
   replace F1 := F1.later hb
   replace b := later b hb
   replace kD := later kD hb
   (try replace FA := FA.later hb)
   clear hb
   refine q3u rfl _ _ rfl 1120 rfl rfl (by decide) ?_
   have qw := F1.lt
   intro _ gB hgB FB hb
   have FB : Cells _ gB 0 (bvs (zL 1120)) := FB
   have ngB : ¬ gB = g1 := by omega
   replace hT := hT.behind hb
   replace F0 := F0.later hb
   replace F1 := F1.later hb
   replace b := later b hb
   replace kD := later kD hb
   (try replace FA := FA.later hb)
   clear hb
   refine q5p hT ?_
   clear hT
   (try simp only [pS])
   refine q2u ?_
   simp only [pickOps, opAt, List.getElem?_cons_succ, List.getElem?_cons_zero, List.nil_append, List.cons_append]
   repeat ((go_big_quiet_want; first | ((refine q6w _ rfl rfl FB (Cells.lt FB (j4p (by decide))) ngB (q7i _) ?_; simp only [pS]; go_big_quiet_on)) | (go_big_quiet_op; first | (refine ⟨_, fun _ => rfl, ?_⟩; go_big_quiet_on))))
   refine wpQuiet_nil ?_
   intro _ hb hT
   replace F0 := F0.later hb
   replace F1 := F1.later hb
   replace b := later b hb
   replace kD := later kD hb
   (try replace FA := FA.later hb)
   (try replace FB := FB.later hb)
   clear hb
   refine q6b rfl _ _ rfl rfl (s := zBytes 1120) rfl F1 ?_
   intro _ t1 ht1
   clear F1
   replace F0 := F0.tt ht1
   replace b := q0b b ht1 (by omega) (Nat.le_refl _)
   replace kD := q0b kD ht1 (by omega) (Nat.le_refl _)
   have F1 : KAt _ g1 hdOne _ := t1
   clear t1 ht1 hT FA FB
   refine q1v ?_
   (try simp only [pS])
   refine wpQuiet_nil ?_
   intro _ hb _
   replace F0 := F0.later hb
   replace F1 := F1.later hb
   replace b := later b hb
   replace kD := later kD hb
   clear hb
   replace O8 := O8.later kD
   replace O9 := O9.later kD
   go_wp2_with (first | (with_reducible refine w16g ?_; refine q0v rfl _ rfl rfl F1 ?_) | ((with_reducible refine w4g ?_); refine q0j rfl _ _ rfl rfl (d := hdOne) rfl F1.ok rfl F0 ?_; intro _ t1 ht1; clear F0 F1; replace b := q0b b ht1 (by omega) (Nat.le_refl _); replace O8 := O8.tg ht1 (by omega); replace O9 := O9.tg ht1 (by omega); have F0 := t1; clear t1 ht1))
   exact bodyPost_ret (j9s rfl _ _ rfl F0) rfl ⟨⟨_, rfl, _, rfl, j6z O8 O9, blkOne_ok.head⟩, b⟩
 ·skip
  refine q3u rfl _ _ rfl 1120 rfl rfl (by decide) ?_
  have qw := F1.lt
  intro _ gB hgB FB hb
  have FB : Cells _ gB 0 (bvs (zL 1120)) := FB
  have ngB : ¬ gB = g1 := by omega
  replace hT := hT.behind hb
  replace F0 := F0.later hb
  replace F1 := F1.later hb
  replace b := later b hb
  replace kD := later kD hb
  clear hb
  refine q5p hT ?_
  clear hT
  (try simp only [pS])
  refine q0w ?_
  simp only [pickOps, opAt, List.getElem?_cons_succ, List.getElem?_cons_zero, List.nil_append, List.cons_append]
  repeat ((go_big_quiet_want; first | ((refine q6w _ rfl rfl FB (Cells.lt FB (j4p (by decide))) ngB (q7i _) ?_; simp only [pS]; go_big_quiet_on))))
  refine wpQuiet_nil ?_
  intro _ hb hT
  replace F0 := F0.later hb
  replace F1 := F1.later hb
  replace b := later b hb
  replace kD := later kD hb
  (try replace FB := FB.later hb)
  clear hb
  refine q3u rfl _ _ rfl 1024 rfl rfl (by decide) ?_
  have qw := F1.lt
  intro _ gA hgA FA hb
  have FA : Cells _ gA 0 (bvs (zL 1024)) := FA
  have ngA : ¬ gA = g1 := by omega
  replace hT := hT.behind hb
  replace F0 := F0.later hb
  replace F1 := F1.later hb
  replace b := later b hb
  replace kD := later kD hb
  (try replace FB := FB.later hb)
  clear hb
  refine q5p hT ?_
  clear hT
  (try simp only [pS])
  refine q0w ?_
  simp only [pickOps, opAt, List.getElem?_cons_succ, List.getElem?_cons_zero, List.nil_append, List.cons_append]
  repeat ((go_big_quiet_want; first | ((refine q6w _ rfl rfl FA (Cells.lt FA (j4p (by decide))) ngA (q7i _) ?_; simp only [pS]; go_big_quiet_on)) | (go_big_quiet_op; first | (refine ⟨_, fun _ => rfl, ?_⟩; go_big_quiet_on))))
  refine wpQuiet_nil ?_
  intro _ hb hT
  replace F0 := F0.later hb
  replace F1 := F1.later hb
  replace b := later b hb
  replace kD := later kD hb
  (try replace FA := FA.later hb)
  (try replace FB := FB.later hb)
  clear hb
  refine q5q rfl _ _ rfl rfl (s := zBytes 1024) rfl F1 ?_
  intro _ t1 ht1
  clear F1
  replace F0 := F0.tt ht1
  (try replace FA := Cells.touched FA (Cells.lt FA (j4p (by decide))) ht1 ngA)
  (try replace FB := Cells.touched FB (Cells.lt FB (j4p (by decide))) ht1 ngB)
  replace b := q0b b ht1 (by omega) (Nat.le_refl _)
  replace kD := q0b kD ht1 (by omega) (Nat.le_refl _)
  replace hT := hT.add ht1 (fun _ h => h)
  have F1 : KAt _ g1 hdOne1 _ := t1
  clear t1 ht1
  refine q5p hT ?_
  clear hT
  (try simp only [pS])
  refine q2u ?_
  simp only [pickOps, opAt, List.getElem?_cons_succ, List.getElem?_cons_zero, List.nil_append, List.cons_append]
  repeat ((go_big_quiet_want; first | (go_big_quiet_op; first | (refine ⟨_, fun _ => rfl, ?_⟩; go_big_quiet_on))))
  refine wpQuiet_nil ?_
  intro _ hb hT
  replace F0 := F0.later hb
  replace F1 := F1.later hb
  replace b := later b hb
  replace kD := later kD hb
  (try replace FA := FA.later hb)
  (try replace FB := FB.later hb)
  clear hb
  refine q6b rfl _ _ rfl rfl (s := zBytes 1120) rfl F1 ?_
  intro _ t1 ht1
  clear F1
  replace F0 := F0.tt ht1
  replace b := q0b b ht1 (by omega) (Nat.le_refl _)
  replace kD := q0b kD ht1 (by omega) (Nat.le_refl _)
  have F1 : KAt _ g1 hdOne _ := t1
  clear t1 ht1 hT FA FB
  refine q1v ?_
  (try simp only [pS])
  refine wpQuiet_nil ?_
  intro _ hb _
  replace F0 := F0.later hb
  replace F1 := F1.later hb
  replace b := later b hb
  replace kD := later kD hb
  clear hb
  replace O8 := O8.later kD
  replace O9 := O9.later kD
  go_wp2_with (first | (with_reducible refine w16g ?_; refine q0v rfl _ rfl rfl F1 ?_) | ((with_reducible refine w4g ?_); refine q0j rfl _ _ rfl rfl (d := hdOne) rfl F1.ok rfl F0 ?_; intro _ t1 ht1; clear F0 F1; replace b := q0b b ht1 (by omega) (Nat.le_refl _); replace O8 := O8.tg ht1 (by omega); replace O9 := O9.tg ht1 (by omega); have F0 := t1; clear t1 ht1))
  exact bodyPost_ret (j9s rfl _ _ rfl F0) rfl ⟨⟨_, rfl, _, rfl, j6z O8 O9, blkOne_ok.head⟩, b⟩
theorem x5k {n : Nat} {P : Program} {row : String} {args : Array Value} {w : World} {R : Value → World → Prop} (h : Rows P row args w R) : RowsIn Fence.wide n P row args w R :=
 fun c cs _ => let ⟨v, w', r, s⟩ := h c cs; ⟨v, w', r, stepsIn_wide.2 s⟩
theorem x3j {lp n : Nat} {P : Program} {o : Oper} {a : Act} {next next' : Act → World → Prop} {Q : Exit → Act → World → Prop} (hn : ∀ a w, next a w → next' a w) (r : Result Next) (h : o.upon P a next Q r) : o.uponIn (Fence.wide.inRound lp) n P a next' Q r := by
 cases r with
 | ok x w =>
  cases x with
  | value v => exact hn _ _ h
  | skip => exact hn _ _ h
  | defer d => exact hn _ _ h
  | enter f args =>
   refine ⟨fun hd => (by cases hd), CallsIn.inRound lp (callsIn_wide.2 (Calls.mono h (fun e w' he => ?_)))⟩
   cases e with
   | returned v => exact hn _ _ he
   | panicked c => exact he
   | outgrown => exact he
  | row r args => exact ⟨fun hd => (by cases hd), x5k (n := n - 1) (Rows.mono h fun v w' hv => hn _ _ hv)⟩
  | _ => exact h.elim
 | halt x w => cases x <;> first | exact h
def noDefer (o : Oper) : Bool := match o.op with
 | .defer _ => false
 | _ => true
theorem x2h {o : Oper} (h : noDefer o = true) : ∀ c, o.op ≠ .defer c := by
 intro c hc
 unfold noDefer at h
 rw [hc] at h
 cases h
theorem j0v {lp n : Nat} {P : Program} {ops : Array Oper} {Q : Exit → Act → World → Prop} (hQ : ¬ LetsOut Q) : ∀ (l : List Oper), l.all noDefer = true → ∀ (a : Act) (w : World), wpList P ops Q l a w → wpListIn (Fence.wide.inRound lp) n P ops Q l a w
 | [], _, _, _, h => h
 | o :: rest, hd, a, w, h => by
  simp only [List.all_cons, Bool.and_eq_true] at hd
  unfold wpList at h
  unfold wpListIn
  split at h
  ·rename_i hw
   rw [if_pos hw]
   rcases h with h | h
   ·refine ⟨fun f _ => trivial, ?_⟩
    rw [Oper.semAt_eq _ _ _ (x2h hd.1)]
    exact x3j (fun a w h => j0v hQ rest hd.2 a w h) _ h
   ·exact absurd h.2 hQ
  ·rename_i hw
   rw [if_neg hw]
   exact ⟨fun f _ => trivial, j0v hQ rest hd.2 _ w h⟩
theorem q4y {lp n id : Nat} {P : Program} {l : List Oper} {Q : Exit → Act → World → Prop} {a : Act} {w : World} (hQ : ¬ LetsOut Q) (hd : l.all noDefer = true) (h : wpList P l.toArray Q l a w) : (Code.region id l.toArray false).wpIn (Fence.wide.inRound lp) n P Q a w :=
 wpIn_region_lit (j0v hQ l hd a w h)
theorem j2x {n id : Nat} {P : Program} {ops : Array Oper} {b : Bool} {Q : Exit → Act → World → Prop} {a : Act} {w : World} (h : (Code.region id ops b).wp P Q a w) : (Code.region id ops b).wpIn Fence.wide n P Q a w := wpIn_wide.2 h
theorem z0y {s : List UInt8} (h : s.length < 2320) : takB s = (blk0, 6) := by unfold takB; rw [if_pos h]
theorem z1k {s : List UInt8} (h : ¬ s.length < 2320) (h2 : takeO (s.drop 2320) = none) : takB s = (blk0, 6) := by unfold takB; rw [if_neg h, h2]
theorem z1g {s : List UInt8} {n k : Nat} (h : ¬ s.length < 2320) (h2 : takeO (s.drop 2320) = some (n, k)) (h3 : 16 < n) : takB s = (blk0, 6) := by unfold takB; rw [if_neg h, h2]; exact if_pos h3
theorem z1h {s : List UInt8} {n k : Nat} (h : ¬ s.length < 2320) (h2 : takeO (s.drop 2320) = some (n, k)) (h3 : ¬ 16 < n) (h4 : dsP n ((s.drop 2320).drop k) = none) : takB s = (blk0, 6) := by
 unfold takB
 rw [if_neg h, h2]
 simp only
 rw [if_neg h3, h4]
theorem z1b {s : List UInt8} {n k : Nat} {l : List Deed} {r : List UInt8} (h : ¬ s.length < 2320) (h2 : takeO (s.drop 2320) = some (n, k)) (h3 : ¬ 16 < n) (h4 : dsP n ((s.drop 2320).drop k) = some (l, r)) :
  takB s = if r = [] ∧ mayB ⟨hdOf (s.take 2320), l⟩ = true then (⟨hdOf (s.take 2320), l⟩, 0) else (blk0, 6) := by
 unfold takB
 rw [if_neg h, h2]
 simp only
 rw [if_neg h3, h4]
 cases r with
 | nil => simp
 | cons x r => simp
/-- What is read so far, and what the rest gives. -/
def gotD (ds : List Deed) (x : Option (List Deed × List UInt8)) : Option (List Deed × List UInt8) := x.map fun p => (ds ++ p.1, p.2)
theorem x9h (x : Option (List Deed × List UInt8)) : gotD [] x = x := by cases x <;> simp [gotD]
theorem x6x {ds : List Deed} {m : Nat} {s : List UInt8} (h : takeT 32768 s = none) : gotD ds (dsP (m + 1) s) = none := by unfold dsP; rw [h]; rfl
theorem x9g {ds : List Deed} {m k : Nat} {s t : List UInt8} (h : takeT 32768 s = some (t, k)) (h2 : (takeD t).2 ≠ 0) : gotD ds (dsP (m + 1) s) = none := by
 unfold dsP
 rw [h]
 simp only
 rw [if_neg h2]
 rfl
theorem x8k {ds : List Deed} {m k : Nat} {s t : List UInt8} (h : takeT 32768 s = some (t, k)) (h2 : (takeD t).2 = 0) : gotD ds (dsP (m + 1) s) = gotD (ds ++ [(takeD t).1]) (dsP m (s.drop k)) := by
 conv => lhs; unfold dsP
 rw [h]
 simp only
 rw [if_pos h2]
 cases dsP m (s.drop k) with
 | none => rfl
 | some x =>
  obtain ⟨l, r⟩ := x
  simp [gotD]
theorem x9b {ds : List Deed} {s : List UInt8} : gotD ds (dsP 0 s) = some (ds, s) := by simp [gotD, dsP]
/-- The texts that are told. -/
def txP : Nat → List UInt8 → List (List UInt8) × Option (List UInt8)
 | 0, s => ([], some s)
 | n + 1, s => match takeT 32768 s with
  | none => ([], none)
  | some (t, k) => (t :: (txP n (s.drop k)).1, (txP n (s.drop k)).2)
def decs : List (List UInt8) → Option (List Deed)
 | [] => some []
 | t :: r => if (takeD t).2 = 0 then (decs r).map (fun l => (takeD t).1 :: l) else none
theorem j3n (t : List UInt8) (r : List (List UInt8)) : decs (t :: r) = if (takeD t).2 = 0 then (decs r).map (fun l => (takeD t).1 :: l) else none := rfl
theorem x5m : ∀ (n : Nat) (s : List UInt8), dsP n s = match decs (txP n s).1, (txP n s).2 with
  | some l, some r => some (l, r)
  | _, _ => none
 | 0, s => rfl
 | n + 1, s => by
  unfold dsP txP
  cases takeT 32768 s with
  | none => rfl
  | some x =>
   obtain ⟨t, k⟩ := x
   simp only
   rw [x5m n (s.drop k), j3n]
   by_cases h : (takeD t).2 = 0
   ·rw [if_pos h, if_pos h]
    cases decs (txP n (s.drop k)).1 with
    | none => rfl
    | some l =>
     cases (txP n (s.drop k)).2 with
     | none => rfl
     | some r => rfl
   ·rw [if_neg h, if_neg h]
theorem j8l : ∀ {p : List (List UInt8)} {l : List Deed} {t : List UInt8}, decs p = some l → (takeD t).2 = 0 → decs (p ++ [t]) = some (l ++ [(takeD t).1])
 | [], l, t, h, h2 => by
  unfold decs at h
  cases h
  simp [decs, h2]
 | x :: p, l, t, h, h2 => by
  unfold decs at h
  by_cases hx : (takeD x).2 = 0
  ·rw [if_pos hx] at h
   cases hp : decs p with
   | none => rw [hp] at h; cases h
   | some l' =>
    rw [hp] at h
    cases h
    rw [List.cons_append]
    unfold decs
    rw [if_pos hx, j8l hp h2]
    rfl
  ·rw [if_neg hx] at h; cases h
theorem x0z : ∀ {p : List (List UInt8)} {t : List UInt8}, t ∈ p → (takeD t).2 ≠ 0 → decs p = none
 | x :: p, t, h, h2 => by
  unfold decs
  by_cases hx : (takeD x).2 = 0
  ·rw [if_pos hx]
   rcases List.mem_cons.1 h with rfl | h
   ·exact absurd hx h2
   ·rw [x0z h h2]; rfl
  ·rw [if_neg hx]
theorem j1b : ∀ (n : Nat) (s : List UInt8), (txP n s).1.length ≤ n
 | 0, _ => Nat.le_refl _
 | n + 1, s => by
  unfold txP
  cases takeT 32768 s with
  | none => simp
  | some x =>
   obtain ⟨t, k⟩ := x
   have := j1b n (s.drop k)
   simp only [List.length_cons]
   omega
end Go.Proofs.YtbbfnpfkbbpjgaaGreat
