/- Package tree: what Prove's closure does; Root, Prove. -/
import Derived.Test.YtbbfnpfkbbpjgaaGreatQDTreeRows
import Derived.Test.YtbbfnpfkbbpjgaaGreatQDBlkE
import Derived.Test.YtbbfnpfkbbpjgaaGreatQDRowE
namespace Go.Proofs.YtbbfnpfkbbpjgaaGreat
open Go.RowKit Go.Lib
set_option linter.unusedVariables false
set_option linter.unusedSimpArgs false
set_option maxRecDepth 100000
set_option maxHeartbeats 4000000
theorem x0a (i : Nat) (h : i ≤ 4611686018427387904) : bits BinOp.xor IntKind.i64 (i : Int) 1 = ((oth i : Nat) : Int) := by
 have hx : i ^^^ 1 < 2 ^ 63 := Nat.xor_lt_two_pow (by omega) (by omega)
 have h1 : (BitVec.ofInt 64 (i : Int)).toNat = i := by
  rw [BitVec.ofInt_natCast, BitVec.toNat_ofNat]; exact Nat.mod_eq_of_lt (by omega)
 have h2 : (BitVec.ofInt 64 1).toNat = 1 := by decide
 show IntKind.i64.wrap ((BitVec.ofInt 64 (i : Int) ^^^ BitVec.ofInt 64 1).toNat : Int) = _
 rw [BitVec.toNat_xor, h1, h2, ← z2o]
 exact IntWalk.i64_in _ ⟨by omega, by omega⟩
/-- What stands between the rounds of Prove: the place, the hashes so far. -/
def ProveI (p : Nat) (P : List H32) (f : Nat) (r : List H32) (S : Nat → Prop) (w : World) : Prop :=
 ∃ (i : Nat) (vo : Value) (acc : List H32), One w p 3 (.int .i64 i) ∧ One w (p + 1) 63 vo ∧ OwnHs w (p + 2) vo acc ∧ (∀ h ∈ acc, h.length = 32) ∧ Hid (acc ++ proofF f r i = P) ∧ i ≤ 1000000 ∧ f + acc.length ≤ 1000000 ∧
  p + 2 ≤ w.heap.size ∧ (∀ b, S b ↔ (b = p ∨ b = p + 1 ∨ vo.ownBlock = some b))
theorem x2v (p f : Nat) (r : List H32) (v : Value) (w : World) (h1 : 1 < r.length) (hf : r.length ≤ f) (hm : r.length ≤ 1000000) (i : Nat) (vo : Value) (acc : List H32) (hp : One w p 3 (.int .i64 i)) (hq : One w (p + 1) 63 vo)
  (ho : OwnHs w (p + 2) vo acc) (hi : i ≤ 1000000) (hfa : f + acc.length ≤ 1000000) (hv : Hs w v r) (hoff : Off (fun b => b = p ∨ b = p + 1 ∨ vo.ownBlock = some b) v) (hoth : oth i < r.length) :
  Calls Tryz.prog 152 #[v, .pointer (some ⟨p, 0, none⟩), .pointer (some ⟨p + 1, 0, none⟩)] w fun e w' => e = .returned (.tuple #[]) ∧ ∃ vo', One w' p 3 (.int .i64 ((i / 2 : Nat) : Int)) ∧ One w' (p + 1) 63 vo' ∧
   OwnHs w' (p + 2) vo' (acc ++ [r.getD (oth i) []]) ∧ (vo'.ownBlock = vo.ownBlock ∨ ∃ g, vo'.ownBlock = some g ∧ w.heap.size ≤ g) ∧ Touch (fun b => b = p ∨ b = p + 1 ∨ vo.ownBlock = some b) w w' := by
 have hx := x0a i (by omega)
 obtain ⟨ar, capr, rfl, hcr1, hcr2, hcr0⟩ := hv.shape
 obtain ⟨b, k0, cap', hve, _, _, _, hcs0⟩ := hv.block (by omega)
 simp only [Value.slice.injEq] at hve
 obtain ⟨rfl, _, rfl⟩ := hve
 have c0 := hcs0 (oth i) hoth
 have l0 : (r.getD (oth i) []).length = 32 := hv.2 _ (by rw [List.getD_eq_getElem?_getD, List.getElem?_eq_getElem hoth]; exact List.getElem_mem _)
 have cp := hp.cell
 have cq := hq.cell
 have kq := j7i cq
 generalize r.getD (oth i) [] = x at *
 have L0 := hide l0
 obtain ⟨j, hj⟩ : ∃ j, j = oth i := ⟨_, rfl⟩
 rw [← hj] at hx c0 hoth
 clear hcs0 l0 hj
 go_enter Tryz.func152, Tryz.ntmps152
 go_wp2_with fail
 refine q1d (fun x => Below (w).heap.size (w) x) (.one [0, 1, 2, 3, 4] 5 (.bar [] 6 (.bar [] 7 (.stop [])))) (by kernel_rfl) (by kernel_rfl) (by kernel_rfl) (by decide) (q2q (Nat.le_refl _)) (Below.refl _ _) ?_
 intro wpl0 _ _ _
 refine q0t ?_
 simp only [pickOps, opAt, List.getElem?_cons_succ, List.getElem?_cons_zero, List.nil_append, List.cons_append]
 repeat ((go_big_quiet_want; first | ((refine q4m _ rfl rfl c0 L0.out ?_); simp only [pS]; go_big_quiet_on) | (go_big_quiet_op; go_big_quiet_on)))
 refine wpQuiet_nil ?_
 intro w13 hw13 hk13
 refine q4w rfl 1 _ rfl [x] rfl (by simp only [List.map_toArray, List.map_cons, List.map_nil]; rfl) (by intro h hh; simp at hh; subst hh; exact L0.out) (by decide) (by decide) ?_
 intro w14 hs14 hb14 hz14
 have hk14 := later hk13 hb14
 refine q6h (q2q (Nat.le_refl _)) hk14 (q2p ?_)
 simp only [pickOps, opAt, List.getElem?_cons_succ, List.getElem?_cons_zero, List.nil_append, List.cons_append]
 refine wpQuiet_nil ?_
 intro w15 hw15 hk15
 have hk := later hk14 hk15
 have ho15 := ho.later hk
 have hs15 := hs14.later hk15
 have hp15 := hp.later hk
 have hq15 := hq.later hk
 have ht15 : Touch (fun b => b = p ∨ b = p + 1 ∨ vo.ownBlock = some b) w w15 := q2o hk
 have sz15 : w.heap.size ≤ w15.heap.size := hk.size
 have hlp := hp.lt
 have hlq := hq.lt
 clear hw13 hk13 hs14 hb14 hz14 hk14 hw15 hk15 c0
 generalize w13.heap.size = g at *
 refine q3i rfl _ _ rfl rfl ho15 rfl hs15 acc.length rfl (by omega) (by omega) ?_
 intro a' c' w16 ho16 ht16 hb16
 have hnp : ¬ vo.ownBlock = some p := fun h => by have := (World.ownsRow.lt ho p h).1; omega
 have hnq : ¬ vo.ownBlock = some (p + 1) := fun h => by have := (World.ownsRow.lt ho (p + 1) h).1; omega
 have hp16 := hp15.touch ht16 hnp
 have hq16 := hq15.touch ht16 hnq
 have ht' := ht15.add ht16 (fun x hx => .inr (.inr hx))
 have hfr : (Value.slice a' (acc.length + 1) c').ownBlock = vo.ownBlock ∨ ∃ g, (Value.slice a' (acc.length + 1) c').ownBlock = some g ∧ w.heap.size ≤ g := hb16.imp id (fun h => ⟨_, h, sz15⟩)
 clear hk ho15 hs15 hp15 hq15 ht15 ht16 hb16
 refine q1s (q2p ?_)
 simp only [pickOps, opAt, List.getElem?_cons_succ, List.getElem?_cons_zero, List.nil_append, List.cons_append]
 simp only [pS]
 refine wpQuiet_nil ?_
 intro w17 hw17 hk17
 replace ho16 := ho16.later hk17
 replace hp16 := hp16.later hk17
 replace hq16 := hq16.later hk17
 replace ht' := ht'.behind hk17
 clear hk17 hw17
 have cq17 := hq16.cell
 have tq17 := hq16.thaw
 go_wp2_with fail
 have hob : ∀ b, (Value.slice a' (acc.length + 1) c').ownBlock = some b → p + 2 ≤ b := fun b h => (World.ownsRow.lt ho16 b h).1
 have t18 := q5e w17 ⟨p + 1, 0, none⟩ (.slice a' (acc.length + 1) c')
 have hq18 := hq16.set (.slice a' (acc.length + 1) c')
 have hp18 := hp16.touch t18 (by show ¬ p = p + 1; omega)
 have ho18 : OwnHs _ (p + 2) (.slice a' (acc.length + 1) c') (acc ++ [x]) := q1h ho16 t18 (fun b h h' => by have := hob b h; have h' : b = p + 1 := h'; omega)
 have ht18 := ht'.add t18 (fun x hx => .inr (.inl hx))
 clear hq16 hp16 ho16 ht' cq17 tq17 t18 kq cp cq
 generalize w17.setCell ⟨p + 1, 0, none⟩ (.slice a' (acc.length + 1) c') = w18 at *
 refine q1s (q2e ?_)
 simp only [pickOps, opAt, List.getElem?_cons_succ, List.getElem?_cons_zero, List.nil_append, List.cons_append]
 refine wpQuiet_nil ?_
 intro w19 hw19 hk19
 replace hq18 := hq18.later hk19
 replace hp18 := hp18.later hk19
 replace ho18 := ho18.later hk19
 replace ht18 := ht18.behind hk19
 clear hk19 hw19
 have cp19 := hp18.cell
 have tp19 := hp18.thaw
 go_wp2_with fail
 have t20 := q5e w19 ⟨p, 0, none⟩ (.int .i64 ((i : Int) / 2))
 have hp20 := hp18.set (.int .i64 ((i : Int) / 2))
 have hq20 := hq18.touch t20 (by show ¬ p + 1 = p; omega)
 have ho20 : OwnHs _ (p + 2) (.slice a' (acc.length + 1) c') (acc ++ [x]) := q1h ho18 t20 (fun b h h' => by have := hob b h; have h' : b = p := h'; omega)
 have ht20 := ht18.add t20 (fun x hx => .inl hx)
 have ei : ((i : Int) / 2) = ((i / 2 : Nat) : Int) := by omega
 rw [← ei]
 clear hq18 hp18 ho18 ht18 cp19 tp19
 generalize w19.setCell ⟨p, 0, none⟩ (.int .i64 ((i : Int) / 2)) = w20 at *
 go_end0
 exact ⟨rfl, _, hp20, hq20, ho20, hfr, ht20⟩
theorem x5c (p : Nat) (r : List H32) (v : Value) (w : World) (i : Nat) (hp : One w p 3 (.int .i64 i)) (hi : i ≤ 1000000) (hv : Hs w v r) (hoth : ¬ oth i < r.length) :
  Calls Tryz.prog 152 #[v, .pointer (some ⟨p, 0, none⟩), .pointer (some ⟨p + 1, 0, none⟩)] w fun e w' => e = .returned (.tuple #[]) ∧ One w' p 3 (.int .i64 ((i / 2 : Nat) : Int)) ∧ Touch (fun b => b = p) w w' := by
 have hx := x0a i (by omega)
 obtain ⟨ar, capr, rfl, hcr1, hcr2, hcr0⟩ := hv.shape
 have cp := hp.cell
 have tp := hp.thaw
 obtain ⟨j, hj⟩ : ∃ j, j = oth i := ⟨_, rfl⟩
 rw [← hj] at hx hoth
 clear hj
 go_enter Tryz.func152, Tryz.ntmps152
 go_wp2_with fail
 have t20 := q5e w ⟨p, 0, none⟩ (.int .i64 ((i : Int) / 2))
 have hp20 := hp.set (.int .i64 ((i : Int) / 2))
 have ei : ((i : Int) / 2) = ((i / 2 : Nat) : Int) := by omega
 rw [← ei]
 generalize w.setCell ⟨p, 0, none⟩ (.int .i64 ((i : Int) / 2)) = w20 at *
 go_end0
 exact ⟨rfl, hp20, t20⟩
theorem x3g (p : Nat) (P : List H32) : Does 152 #[.pointer (some ⟨p, 0, none⟩), .pointer (some ⟨p + 1, 0, none⟩)] p (ProveI p P) where
 keep := by
  intro f r S T w w' ⟨i, vo, acc, hp, hq, ho, ha, HP, hi, hfa, hsz, hS⟩ ht hT
  have np : ¬ T p := hT _ ((hS _).2 (.inl rfl))
  have nq : ¬ T (p + 1) := hT _ ((hS _).2 (.inr (.inl rfl)))
  exact ⟨i, vo, acc, hp.touch ht np, hq.touch ht nq, q1h ho ht (fun b h => hT _ ((hS _).2 (.inr (.inr h)))), ha, HP, hi, hfa, Nat.le_trans hsz ht.size, hS⟩
 low := by
  intro f r S w ⟨i, vo, acc, hp, hq, ho, ha, HP, hi, hfa, hsz, hS⟩ b hb
  rcases (hS b).1 hb with rfl | rfl | h
  ·exact ⟨Nat.le_refl _, by omega⟩
  ·exact ⟨by omega, by omega⟩
  ·have := World.ownsRow.lt ho b h; exact ⟨by omega, this.2⟩
 does := by
  intro f r v S w h1 hf hm ⟨i, vo, acc, hp, hq, ho, ha, HP, hi, hfa, hsz, hS⟩ hv hoff
  have hSS : S = fun b => b = p ∨ b = p + 1 ∨ vo.ownBlock = some b := funext fun b => propext (hS b)
  have hup := j3e f r i h1 hf
  simp only [Array.empty_append]
  show Calls Tryz.prog _ #[v, .pointer (some ⟨p, 0, none⟩), .pointer (some ⟨p + 1, 0, none⟩)] w _
  by_cases hoth : oth i < r.length
  ·rw [if_pos hoth] at hup
   refine (x2v p f r v w h1 hf hm i vo acc hp hq ho hi hfa hv (hSS ▸ hoff) hoth).mono ?_
   rintro e w' ⟨rfl, vo', hp', hq', ho', hfr, ht⟩
   have h32 : (r.getD (oth i) []).length = 32 := hv.2 _ (by rw [List.getD_eq_getElem?_getD, List.getElem?_eq_getElem hoth]; exact List.getElem_mem _)
   refine ⟨rfl, fun b => b = p ∨ b = p + 1 ∨ vo'.ownBlock = some b, ⟨i / 2, vo', acc ++ [r.getD (oth i) []], hp', hq', ho', ?_, ?_, by omega, ?_, Nat.le_trans hsz ht.size, fun _ => Iff.rfl⟩, ?_, hSS ▸ ht⟩
   ·intro h hh
    rcases List.mem_append.1 hh with h0 | h0
    ·exact ha h h0
    ·simp at h0; subst h0; exact h32
   ·unfold Hid; rw [← HP.out, hup, List.append_assoc]
   ·rw [List.length_append]; simp; omega
   ·rintro b (rfl | rfl | hb)
    ·exact .inl ((hS _).2 (.inl rfl))
    ·exact .inl ((hS _).2 (.inr (.inl rfl)))
    ·rcases hfr with h | ⟨g, h, hg⟩
     ·exact .inl ((hS _).2 (.inr (.inr (h ▸ hb))))
     ·rw [h] at hb; have := Option.some.inj hb; exact .inr (by omega)
  ·rw [if_neg hoth, List.nil_append] at hup
   refine (x5c p r v w i hp hi hv hoth).mono ?_
   rintro e w' ⟨rfl, hp', ht⟩
   have hnq : ¬ (p + 1 = p) := by omega
   refine ⟨rfl, S, ⟨i / 2, vo, acc, hp', hq.touch ht hnq, q1h ho ht (fun b h => by have := (World.ownsRow.lt ho b h).1; show ¬ b = p; omega), ha, ?_, by omega, by omega, Nat.le_trans hsz ht.size, hS⟩, fun b hb => .inl hb, (Touch.refl S w).add ht (fun x hx => (hS _).2 (.inl hx))⟩
   unfold Hid; rw [← HP.out, hup]
theorem x9d (cl : Value) (v : Value) (w : World) (hv0 : Hs w v []) :
  Calls Tryz.prog 88 #[v, cl] w fun e w' => e = .returned (hv noneL) ∧ Below w.heap.size w w' := by
 obtain ⟨a, cap, rfl, hc1, hc2, hc0⟩ := hv0.shape
 obtain ⟨R, hR⟩ : ∃ R, R = noneL := ⟨_, rfl⟩
 have HO : Hid (∀ w, Calls Tryz.prog 61 #[.string ⟨#[110, 111, 110, 101]⟩, .slice none 0 0] w fun e w' => e = .returned (hv R) ∧ Below w.heap.size w w') := fun w => by
  rw [hR]; exact of_at tagNone [] _ w (x0m w) (by decide) (by simp) (by simp)
 have HL : Hid (R.length = 32) := by rw [hR]; exact q2g _ _
 rw [← hR, List.length_nil]
 clear hR
 have z := HashAt.zero w
 have b := below1 w (.cells (bvs zero32).toArray 34)
 go_enter Tryz.func88, Tryz.ntmps88
 go_wp2_with fail
 show Calls _ _ _ (w.alloc (.cells (bvs zero32).toArray 34)) _
 generalize w.alloc (.cells (bvs zero32).toArray 34) = W at *
 refine (HO.out _).mono ?_
 rintro _ wc1 ⟨rfl, hc1⟩
 replace z := z.later hc1
 replace b := later b hc1
 clear hc1
 have zr := z.row R HL.out
 have br := q0o (b := w.heap.size) b (Nat.le_refl _) (bvs R).toArray
 go_wp2_with (refine q0s rfl _ _ rfl rfl rfl HL.out z ?_)
 exact bodyPost_ret (v := hv R) (q2w rfl _ _ rfl zr) rfl ⟨rfl, br⟩
theorem x7q (v : Value) (w : World) : Calls Tryz.prog 89 #[v] w fun e w' => e = .returned (.tuple #[]) ∧ w = w' := by
 go_enter Tryz.func89, Tryz.ntmps89
 go_wp2_with fail
 go_end0
 exact ⟨rfl, rfl⟩
theorem x5o (B : Nat) : Does 89 #[] B (fun _ _ S _ => ∀ b, ¬ S b) where
 keep := fun f r S T w w' h _ _ => h
 low := fun f r S w h b hb => absurd hb (h b)
 does := by
  intro f r v S w h1 hf hm hI hv hoff
  simp only [Array.empty_append, Array.append_empty]
  refine (x7q v w).mono ?_
  rintro e w' ⟨rfl, rfl⟩
  exact ⟨rfl, S, hI, fun b hb => .inl hb, Touch.refl _ _⟩
theorem j8p (v : Value) (l : List H32) (w : World) (hv0 : Hs w v l) (hm : l.length ≤ 1000000) :
  Calls Tryz.prog 88 #[v, .func (.func 89) #[] #[]] w fun e w' => e = .returned (hv (topL l)) ∧ Below w.heap.size w w' := by
 by_cases h : l = []
 ·subst h
  exact x9d _ v w hv0
 ·refine (x4i w.heap.size (fun _ _ S _ => ∀ b, ¬ S b) (fun _ => False) v l w hv0 hm (List.length_pos_iff.2 h) (Nat.le_refl _) (x5o _) (fun _ h => h)).mono ?_
  rintro e w' ⟨he, hb, _⟩
  exact ⟨he, hb⟩
theorem j8t (v : Value) (l : List H32) (w : World) (hv0 : Hs w v l) (hm : l.length ≤ 1000000) :
  Calls Tryz.prog 41 #[v] w fun e w' => e = .returned (hv (treeL l)) ∧ Below w.heap.size w w' := by
 obtain ⟨a, cap, rfl, hc1, hc2, hc0⟩ := hv0.shape
 obtain ⟨R, hR⟩ : ∃ R, R = treeL l := ⟨_, rfl⟩
 obtain ⟨T, hT⟩ : ∃ T, T = topL l := ⟨_, rfl⟩
 have HRR : Hid (∀ w, Calls Tryz.prog 87 #[.int .i64 l.length, hv T] w fun e w' => e = .returned (hv R) ∧ Below w.heap.size w w') := fun w => by rw [hR, hT]; exact x1g l.length _ (by omega) (q6g l) w
 have HL : Hid (R.length = 32) := by rw [hR]; exact q4h _ _
 have z := HashAt.zero w
 have b := below1 w (.cells (bvs zero32).toArray 34)
 have hv1 := hv0.later b
 have HT := hide hT
 rw [← hR]
 clear hR hT
 go_enter Tryz.func41, Tryz.ntmps41
 go_wp2_with fail
 show Calls _ _ _ (w.alloc (.cells (bvs zero32).toArray 34)) _
 generalize w.alloc (.cells (bvs zero32).toArray 34) = W at *
 refine (j8p _ l _ hv1 hm).mono ?_
 rintro _ w1 ⟨rfl, hb1⟩
 replace z := z.later hb1
 replace b := later b hb1
 rw [← HT.out]
 clear hb1
 go_wp2_with fail
 refine (HRR.out _).mono ?_
 rintro _ wc2 ⟨rfl, hc2⟩
 replace z := z.later hc2
 replace b := later b hc2
 clear hc2
 have zr := z.row R HL.out
 have br := q0o (b := w.heap.size) b (Nat.le_refl _) (bvs R).toArray
 go_wp2_with (refine q0s rfl _ _ rfl rfl rfl HL.out z ?_)
 exact bodyPost_ret (v := hv R) (q2w rfl _ _ rfl zr) rfl ⟨rfl, br⟩
/-- A slice of hashes and no error. -/
def HsOk (w : World) (l : List H32) (e : Ending) (w' : World) : Prop := ∃ v, e = .returned (.tuple #[v, .int .i64 0]) ∧ Hs w' v l ∧ Below w.heap.size w w'
theorem j1y : ∀ (f : Nat) (r : List H32) (i : Nat), (proofF f r i).length ≤ f
 | 0, _, _ => by simp [proofF]
 | f + 1, r, i => by
  have := j1y f (upL r) (i / 2)
  unfold proofF
  split
  ·simp
  ·rw [List.length_append]
   split <;> simp <;> omega
theorem j8b (v : Value) (l : List H32) (i : Int) (w : World) (hv0 : Hs w v l) (hi : i < 0 ∨ (l.length : Int) ≤ i) :
  Calls Tryz.prog 86 #[v, .int .i64 i] w fun e w' => e = .returned (.tuple #[.slice none 0 0, .int .i64 5]) ∧ Below w.heap.size w w' := by
 obtain ⟨a, cap, rfl, hc1, hc2, hc0⟩ := hv0.shape
 have b := below1 w (.cells #[.int .i64 i] 3)
 rcases hi with hi | hi
 ·go_enter Tryz.func86, Tryz.ntmps86
  go_wp2_with fail
  go_ret2
  exact ⟨rfl, b⟩
 ·go_enter Tryz.func86, Tryz.ntmps86
  by_cases h0 : i < 0
  ·go_wp2_with fail
   go_ret2
   exact ⟨rfl, b⟩
  ·go_wp2_with fail
   go_ret2
   exact ⟨rfl, b⟩
def strC (s : ByteArray) : List Value := [.string s]
def txtA (l : List Deed) : List ByteArray := l.map fun d => ⟨(fullL d).toArray⟩
theorem j6b : ∀ l : List Deed, ((txtA l).map ByteArray.size).sum = sizB l
 | [] => rfl
 | d :: l => by
  have ih := j6b l
  unfold txtA sizB at ih ⊢
  simp only [List.map_cons, List.sum_cons]
  rw [ih]
  rfl
theorem x8s {l : List ByteArray} {k : Nat} {x : ByteArray} (h : l[k]? = some x) : ((l.take (k + 1)).map ByteArray.size).sum = ((l.take k).map ByteArray.size).sum + x.size := by
 obtain ⟨hk, rfl⟩ := List.getElem?_eq_some_iff.1 h
 rw [List.take_succ_eq_append_getElem hk, List.map_append, List.sum_append]
 simp
theorem x9i (l : List ByteArray) (k : Nat) : ((l.take k).map ByteArray.size).sum ≤ (l.map ByteArray.size).sum := by
 conv => rhs; rw [← List.take_append_drop k l, List.map_append, List.sum_append]
 omega
theorem x4h (v : Value) (l : List ByteArray) (w : World) (h : Sl w v 1 (l.map strC)) (hs : (l.map ByteArray.size).sum ≤ 1099511627776) (hm : l.length ≤ 1000000) :
  Calls Tryz.prog 63 #[v] w fun e w' => e = .returned (.int .i64 (((l.map ByteArray.size).sum : Nat) : Int)) ∧ Below w.heap.size w w' := by
 obtain ⟨a1, c1, rfl, -⟩ := h.shape
 have HNX := hide (fun k x (h : l[k]? = some x) => x8s h)
 have HPT := hide (x9i l)
 obtain ⟨n, hn⟩ : ∃ n, n = l.length := ⟨_, rfl⟩
 have HN := hide hn
 rw [← hn] at h hm ⊢
 clear hn
 have b := Below.refl w.heap.size w
 go_enter Tryz.func63, Tryz.ntmps63
 go_wp2_with fail
 go_loopw [3, 8] (fun q i wr => ∃ k : Nat, i = .int .i64 k ∧ k ≤ n ∧ q = .int .i64 (((((l.take k).map ByteArray.size).sum : Nat)) : Int) ∧ Below w.heap.size w wr) (fun _ i _ => n - (RowKit.intOf i).toNat)
 case atStart => exact ⟨0, rfl, by omega, by simp, b⟩
 clear b
 obtain ⟨k, rfl, hk, rfl, b⟩ := hrel
 by_cases hlt : k < n
 case pos =>
  obtain ⟨x, hx⟩ : ∃ x, l[k]? = some x := ⟨_, List.getElem?_eq_getElem (by rw [← HN.out]; exact hlt)⟩
  obtain ⟨bb, k0, c', he, _, hcs⟩ := Sl.block (h.later b) (by rw [← HN.out]; omega)
  rw [← HN.out] at he
  simp only [Value.slice.injEq] at he
  obtain ⟨rfl, -, rfl⟩ := he
  have d1 : wr.cell? ⟨bb, k0 + k * 1, none⟩ = some (.string x) := (hcs k x hx).one
  rw [Nat.mul_one] at d1
  have HX := hide (HNX.out k x hx)
  have hp := HPT.out (k + 1)
  have hp0 := HX.out
  rw [hp0] at hp
  generalize ((l.take k).map ByteArray.size).sum = S at *
  clear hcs hx hp0
  have z1 : S + x.size ≤ 1099511627776 := by omega
  go_wp2_with (with_reducible refine w0g ?_; refine q0a rfl 9 _ rfl rfl d1 (by kernel_rfl) ?_)
  go_roundw
  case rel => exact ⟨k + 1, by simp, by omega, by rw [HX.out]; simp, b⟩
  case measure => simp [RowKit.intOf]; omega
 obtain rfl : n = k := by omega
 have HT : Hid (l.take n = l) := List.take_of_length_le (by rw [← HN.out]; exact Nat.le_refl _)
 rw [HT.out]
 clear hlt hk
 go_wp2_with fail
 go_ret
 exact ⟨rfl, b⟩
end Go.Proofs.YtbbfnpfkbbpjgaaGreat
