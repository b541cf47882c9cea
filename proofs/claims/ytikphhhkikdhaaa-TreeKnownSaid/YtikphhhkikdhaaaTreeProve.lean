/- Package tree: what Prove's closure does; Root, Prove. -/
import Derived.Test.YtikphhhkikdhaaaTreeRows
namespace Go.Proofs.Ytikphhhkikdhaaa
open Go.RowKit Go.Lib
set_option linter.unusedVariables false
set_option linter.unusedSimpArgs false

theorem xor_oth (i : Nat) (h : i ≤ 4611686018427387904) : bits BinOp.xor IntKind.i64 (i : Int) 1 = ((oth i : Nat) : Int) := by
  have hx : i ^^^ 1 < 2 ^ 63 := Nat.xor_lt_two_pow (by omega) (by omega)
  have h1 : (BitVec.ofInt 64 (i : Int)).toNat = i := by
    rw [BitVec.ofInt_natCast, BitVec.toNat_ofNat]; exact Nat.mod_eq_of_lt (by omega)
  have h2 : (BitVec.ofInt 64 1).toNat = 1 := by decide
  show IntKind.i64.wrap ((BitVec.ofInt 64 (i : Int) ^^^ BitVec.ofInt 64 1).toNat : Int) = _
  rw [BitVec.toNat_xor, h1, h2, ← oth_xor]
  exact IntWalk.i64_in _ ⟨by omega, by omega⟩
/-- What stands between the rounds of Prove: the place, the hashes so far. -/
def ProveI (p : Nat) (P : List H32) (f : Nat) (r : List H32) (S : Nat → Prop) (w : World) : Prop :=
  ∃ (i : Nat) (vo : Value) (acc : List H32), One w p 3 (.int .i64 i) ∧ One w (p + 1) 36 vo ∧ OwnHs w (p + 2) vo acc ∧ (∀ h ∈ acc, h.length = 32) ∧ Hid (acc ++ proofF f r i = P) ∧ i ≤ 1000000 ∧ f + acc.length ≤ 1000000 ∧
    p + 2 ≤ w.heap.size ∧ (∀ b, S b ↔ (b = p ∨ b = p + 1 ∨ vo.ownBlock = some b))
set_option maxRecDepth 100000 in
set_option maxHeartbeats 1600000 in
theorem prove1_yes (p f : Nat) (r : List H32) (v : Value) (w : World) (h1 : 1 < r.length) (hf : r.length ≤ f) (hm : r.length ≤ 1000000) (i : Nat) (vo : Value) (acc : List H32) (hp : One w p 3 (.int .i64 i)) (hq : One w (p + 1) 36 vo)
    (ho : OwnHs w (p + 2) vo acc) (hi : i ≤ 1000000) (hfa : f + acc.length ≤ 1000000) (hv : Hs w v r) (hoff : Off (fun b => b = p ∨ b = p + 1 ∨ vo.ownBlock = some b) v) (hoth : oth i < r.length) :
    Calls Try.prog 60 #[v, .pointer (some ⟨p, 0, none⟩), .pointer (some ⟨p + 1, 0, none⟩)] w fun e w' => e = .returned (.tuple #[]) ∧ ∃ vo', One w' p 3 (.int .i64 ((i / 2 : Nat) : Int)) ∧ One w' (p + 1) 36 vo' ∧
      OwnHs w' (p + 2) vo' (acc ++ [r.getD (oth i) []]) ∧ (vo'.ownBlock = vo.ownBlock ∨ ∃ g, vo'.ownBlock = some g ∧ w.heap.size ≤ g) ∧ Touch (fun b => b = p ∨ b = p + 1 ∨ vo.ownBlock = some b) w w' := by
  have hx := xor_oth i (by omega)
  obtain ⟨ar, capr, rfl, hcr1, hcr2, hcr0⟩ := hv.shape
  obtain ⟨b, k0, cap', hve, _, _, _, hcs0⟩ := hv.block (by omega)
  simp only [Value.slice.injEq] at hve
  obtain ⟨rfl, _, rfl⟩ := hve
  have c0 := hcs0 (oth i) hoth
  have l0 : (r.getD (oth i) []).length = 32 := hv.2 _ (by rw [List.getD_eq_getElem?_getD, List.getElem?_eq_getElem hoth]; exact List.getElem_mem _)
  have cp := hp.cell
  have cq := hq.cell
  have kq := kept_cell cq
  generalize r.getD (oth i) [] = x at *
  have L0 := hide l0
  obtain ⟨j, hj⟩ : ∃ j, j = oth i := ⟨_, rfl⟩
  rw [← hj] at hx c0 hoth
  clear hcs0 l0 hj
  go_enter Try.func60, Try.ntmps60
  go_wp2_with fail
  refine region_plan (fun x => Below (w).heap.size (w) x) (.one [0, 1, 2, 3, 4] 5 (.bar [] 6 (.bar [] 7 (.stop [])))) (by kernel_rfl) (by kernel_rfl) (by kernel_rfl) (by decide) (lasts_below (Nat.le_refl _)) (Below.refl _ _) ?_
  intro wpl0 _ _ _
  refine plan_one ?_
  simp only [pickOps, opAt, List.getElem?_cons_succ, List.getElem?_cons_zero, List.nil_append, List.cons_append]
  repeat (first | go_big_quiet_skip | (go_big_quiet_want; first | (refine plan_load_hash _ rfl rfl (by assumption) ?_; simp only [Act.put, List.setIfInBounds_toArray, List.set_cons_succ, List.set_cons_zero]; go_big_quiet_on) | ((refine plan_load_elem _ rfl rfl c0 L0.out ?_); simp only [Act.put, List.setIfInBounds_toArray, List.set_cons_succ, List.set_cons_zero]; go_big_quiet_on) | (go_big_quiet_op; go_big_quiet_on)))
  refine wpQuiet_nil ?_
  intro w13 hw13 hk13
  refine wpl_hashes rfl 1 _ rfl [x] rfl (by simp only [List.map_toArray, List.map_cons, List.map_nil]; rfl) (by intro h hh; simp at hh; subst hh; exact L0.out) (by decide) (by decide) ?_
  intro w14 hs14 hb14 hz14
  have hk14 := later hk13 hb14
  refine goQ_since (lasts_below (Nat.le_refl _)) hk14 (plan_bar ?_)
  simp only [pickOps, opAt, List.getElem?_cons_succ, List.getElem?_cons_zero, List.nil_append, List.cons_append]
  refine wpQuiet_nil ?_
  intro w15 hw15 hk15
  have hk := later hk14 hk15
  have ho15 := ho.later hk
  have hs15 := hs14.later hk15
  have hp15 := hp.later hk
  have hq15 := hq.later hk
  have ht15 : Touch (fun b => b = p ∨ b = p + 1 ∨ vo.ownBlock = some b) w w15 := touch_below hk
  have sz15 : w.heap.size ≤ w15.heap.size := hk.size
  have hlp := hp.lt
  have hlq := hq.lt
  clear hw13 hk13 hs14 hb14 hz14 hk14 hw15 hk15 c0
  generalize w13.heap.size = g at *
  refine wpl_append_hash rfl _ _ rfl rfl ho15 rfl hs15 acc.length rfl (by omega) (by omega) ?_
  intro a' c' w16 ho16 ht16 hb16
  have hnp : ¬ vo.ownBlock = some p := fun h => by have := (World.ownsRow.lt ho p h).1; omega
  have hnq : ¬ vo.ownBlock = some (p + 1) := fun h => by have := (World.ownsRow.lt ho (p + 1) h).1; omega
  have hp16 := hp15.touch ht16 hnp
  have hq16 := hq15.touch ht16 hnq
  have ht' := ht15.add ht16 (fun x hx => .inr (.inr hx))
  have hfr : (Value.slice a' (acc.length + 1) c').ownBlock = vo.ownBlock ∨ ∃ g, (Value.slice a' (acc.length + 1) c').ownBlock = some g ∧ w.heap.size ≤ g := hb16.imp id (fun h => ⟨_, h, sz15⟩)
  clear hk ho15 hs15 hp15 hq15 ht15 ht16 hb16
  refine goB_since (plan_bar ?_)
  simp only [pickOps, opAt, List.getElem?_cons_succ, List.getElem?_cons_zero, List.nil_append, List.cons_append]
  simp only [Act.put, List.setIfInBounds_toArray, List.set_cons_succ, List.set_cons_zero]
  refine wpQuiet_nil ?_
  intro w17 hw17 hk17
  replace ho16 := ho16.later hk17
  replace hp16 := hp16.later hk17
  replace hq16 := hq16.later hk17
  replace ht' := ht'.behind hk17
  clear hk17 hw17
  have cq17 := hq16.cell
  have tq17 := hq16.thaw
  go_wp2_with fail
  have hob : ∀ b, (Value.slice a' (acc.length + 1) c').ownBlock = some b → p + 2 ≤ b := fun b h => (World.ownsRow.lt ho16 b h).1
  have t18 := touch_set w17 ⟨p + 1, 0, none⟩ (.slice a' (acc.length + 1) c')
  have hq18 := hq16.set (.slice a' (acc.length + 1) c')
  have hp18 := hp16.touch t18 (by show ¬ p = p + 1; omega)
  have ho18 : OwnHs _ (p + 2) (.slice a' (acc.length + 1) c') (acc ++ [x]) := owns_touch ho16 t18 (fun b h h' => by have := hob b h; have h' : b = p + 1 := h'; omega)
  have ht18 := ht'.add t18 (fun x hx => .inr (.inl hx))
  clear hq16 hp16 ho16 ht' cq17 tq17 t18 kq cp cq
  generalize w17.setCell ⟨p + 1, 0, none⟩ (.slice a' (acc.length + 1) c') = w18 at *
  refine goB_since (plan_stop ?_)
  simp only [pickOps, opAt, List.getElem?_cons_succ, List.getElem?_cons_zero, List.nil_append, List.cons_append]
  refine wpQuiet_nil ?_
  intro w19 hw19 hk19
  replace hq18 := hq18.later hk19
  replace hp18 := hp18.later hk19
  replace ho18 := ho18.later hk19
  replace ht18 := ht18.behind hk19
  clear hk19 hw19
  have cp19 := hp18.cell
  have tp19 := hp18.thaw
  go_wp2_with fail
  have t20 := touch_set w19 ⟨p, 0, none⟩ (.int .i64 ((i : Int) / 2))
  have hp20 := hp18.set (.int .i64 ((i : Int) / 2))
  have hq20 := hq18.touch t20 (by show ¬ p + 1 = p; omega)
  have ho20 : OwnHs _ (p + 2) (.slice a' (acc.length + 1) c') (acc ++ [x]) := owns_touch ho18 t20 (fun b h h' => by have := hob b h; have h' : b = p := h'; omega)
  have ht20 := ht18.add t20 (fun x hx => .inl hx)
  have ei : ((i : Int) / 2) = ((i / 2 : Nat) : Int) := by omega
  rw [← ei]
  clear hq18 hp18 ho18 ht18 cp19 tp19
  generalize w19.setCell ⟨p, 0, none⟩ (.int .i64 ((i : Int) / 2)) = w20 at *
  go_end0
  exact ⟨rfl, _, hp20, hq20, ho20, hfr, ht20⟩
set_option maxRecDepth 100000 in
set_option maxHeartbeats 1600000 in
theorem prove1_no (p : Nat) (r : List H32) (v : Value) (w : World) (i : Nat) (hp : One w p 3 (.int .i64 i)) (hi : i ≤ 1000000) (hv : Hs w v r) (hoth : ¬ oth i < r.length) :
    Calls Try.prog 60 #[v, .pointer (some ⟨p, 0, none⟩), .pointer (some ⟨p + 1, 0, none⟩)] w fun e w' => e = .returned (.tuple #[]) ∧ One w' p 3 (.int .i64 ((i / 2 : Nat) : Int)) ∧ Touch (fun b => b = p) w w' := by
  have hx := xor_oth i (by omega)
  obtain ⟨ar, capr, rfl, hcr1, hcr2, hcr0⟩ := hv.shape
  have cp := hp.cell
  have tp := hp.thaw
  obtain ⟨j, hj⟩ : ∃ j, j = oth i := ⟨_, rfl⟩
  rw [← hj] at hx hoth
  clear hj
  go_enter Try.func60, Try.ntmps60
  go_wp2_with fail
  have t20 := touch_set w ⟨p, 0, none⟩ (.int .i64 ((i : Int) / 2))
  have hp20 := hp.set (.int .i64 ((i : Int) / 2))
  have ei : ((i : Int) / 2) = ((i / 2 : Nat) : Int) := by omega
  rw [← ei]
  generalize w.setCell ⟨p, 0, none⟩ (.int .i64 ((i : Int) / 2)) = w20 at *
  go_end0
  exact ⟨rfl, hp20, t20⟩

theorem prove_does (p : Nat) (P : List H32) : Does 60 #[.pointer (some ⟨p, 0, none⟩), .pointer (some ⟨p + 1, 0, none⟩)] p (ProveI p P) where
  keep := by
    intro f r S T w w' ⟨i, vo, acc, hp, hq, ho, ha, HP, hi, hfa, hsz, hS⟩ ht hT
    have np : ¬ T p := hT _ ((hS _).2 (.inl rfl))
    have nq : ¬ T (p + 1) := hT _ ((hS _).2 (.inr (.inl rfl)))
    exact ⟨i, vo, acc, hp.touch ht np, hq.touch ht nq, owns_touch ho ht (fun b h => hT _ ((hS _).2 (.inr (.inr h)))), ha, HP, hi, hfa, Nat.le_trans hsz ht.size, hS⟩
  low := by
    intro f r S w ⟨i, vo, acc, hp, hq, ho, ha, HP, hi, hfa, hsz, hS⟩ b hb
    rcases (hS b).1 hb with rfl | rfl | h
    · exact ⟨Nat.le_refl _, by omega⟩
    · exact ⟨by omega, by omega⟩
    · have := World.ownsRow.lt ho b h; exact ⟨by omega, this.2⟩
  does := by
    intro f r v S w h1 hf hm ⟨i, vo, acc, hp, hq, ho, ha, HP, hi, hfa, hsz, hS⟩ hv hoff
    have hSS : S = fun b => b = p ∨ b = p + 1 ∨ vo.ownBlock = some b := funext fun b => propext (hS b)
    have hup := proofF_up f r i h1 hf
    simp only [Array.empty_append]
    show Calls Try.prog _ #[v, .pointer (some ⟨p, 0, none⟩), .pointer (some ⟨p + 1, 0, none⟩)] w _
    by_cases hoth : oth i < r.length
    · rw [if_pos hoth] at hup
      refine (prove1_yes p f r v w h1 hf hm i vo acc hp hq ho hi hfa hv (hSS ▸ hoff) hoth).mono ?_
      rintro e w' ⟨rfl, vo', hp', hq', ho', hfr, ht⟩
      have h32 : (r.getD (oth i) []).length = 32 := hv.2 _ (by rw [List.getD_eq_getElem?_getD, List.getElem?_eq_getElem hoth]; exact List.getElem_mem _)
      refine ⟨rfl, fun b => b = p ∨ b = p + 1 ∨ vo'.ownBlock = some b, ⟨i / 2, vo', acc ++ [r.getD (oth i) []], hp', hq', ho', ?_, ?_, by omega, ?_, Nat.le_trans hsz ht.size, fun _ => Iff.rfl⟩, ?_, hSS ▸ ht⟩
      · intro h hh
        rcases List.mem_append.1 hh with h0 | h0
        · exact ha h h0
        · simp at h0; subst h0; exact h32
      · unfold Hid; rw [← HP.out, hup, List.append_assoc]
      · rw [List.length_append]; simp; omega
      · rintro b (rfl | rfl | hb)
        · exact .inl ((hS _).2 (.inl rfl))
        · exact .inl ((hS _).2 (.inr (.inl rfl)))
        · rcases hfr with h | ⟨g, h, hg⟩
          · exact .inl ((hS _).2 (.inr (.inr (h ▸ hb))))
          · rw [h] at hb; have := Option.some.inj hb; exact .inr (by omega)
    · rw [if_neg hoth, List.nil_append] at hup
      refine (prove1_no p r v w i hp hi hv hoth).mono ?_
      rintro e w' ⟨rfl, hp', ht⟩
      have hnq : ¬ (p + 1 = p) := by omega
      refine ⟨rfl, S, ⟨i / 2, vo, acc, hp', hq.touch ht hnq, owns_touch ho ht (fun b h => by have := (World.ownsRow.lt ho b h).1; show ¬ b = p; omega), ha, ?_, by omega, by omega, Nat.le_trans hsz ht.size, hS⟩, fun b hb => .inl hb, (Touch.refl S w).add ht (fun x hx => (hS _).2 (.inl hx))⟩
      unfold Hid; rw [← HP.out, hup]
end Go.Proofs.Ytikphhhkikdhaaa
