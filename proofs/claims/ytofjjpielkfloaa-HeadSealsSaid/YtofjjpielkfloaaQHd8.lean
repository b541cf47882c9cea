/- The small things that the laws of layer 14 ask first: a sealed head. -/
import Derived.Test.YtofjjpielkfloaaQHd5
import Derived.Test.YtofjjpielkfloaaQHdLaw
import Derived.Test.YtofjjpielkfloaaQHdEq
import Derived.Test.YtofjjpielkfloaaQEvoLaw
import Derived.Test.YtofjjpielkfloaaQEvoMakeL
import Derived.Test.YtofjjpielkfloaaQEvoKeysL
import Derived.Test.YtofjjpielkfloaaQEvoMk
import Derived.Test.YtofjjpielkfloaaQMOnce
namespace Go.Proofs.Ytofjjpielkfloaa
open Go.RowKit Go.Lib
set_option linter.unusedVariables false
set_option linter.unusedSimpArgs false

set_option maxRecDepth 100000 in
set_option maxHeartbeats 1600000 in
theorem key14_any (w : World) : Calls Try.prog 83 #[] w fun e w' => ∃ v, e = .returned v ∧ EvoIs w' v (keyE 3 0 one32) ∧ Below w.heap.size w w' := by
  have l1 : one32.length = 32 := rfl
  have HMK : Hid (∀ w, Calls Try.prog 17 #[hv one32, .int .i64 3] w (EvoRO w (keyE 3 0 one32) 0)) := fun w => by
    rw [keyE_first]; exact make_inO 3 one32 (by decide) l1 w
  have B1 := hide built_one
  have b := Below.refl w.heap.size w
  clear l1
  generalize keyE 3 0 one32 = K at *
  generalize one32 = o1 at *
  have mF1 := True.intro
  have mF2 := True.intro
  go_enter Try.func83, Try.ntmps83
  go_wp2_with (first | (with_reducible show wpList _ _ _ (⟨_, Op.alloc _, _, _, _, _⟩ :: _) _ _; clear mF1; refine wpl_mk_evo rfl rfl ?_; intro _ g0 hg0 F1 hb; (try have := F1.lt); (try have := F2.lt); (try have := F3.lt); (try have := F4.lt); (try have := F5.lt); (try have := F6.lt); (try have := F7.lt); (try have := F8.lt); (try have := F9.lt); (try have := z.lt); (try have := G1.lt); (try have := G2.lt); (try have := G3.lt); (try have := b.size); (try replace F1 := F1.later hb); (try replace F2 := F2.later hb); (try replace F3 := F3.later hb); (try replace F4 := F4.later hb); (try replace F5 := F5.later hb); (try replace F6 := F6.later hb); (try replace F7 := F7.later hb); (try replace F8 := F8.later hb); (try replace F9 := F9.later hb); (try replace G1 := G1.later hb); (try replace G2 := G2.later hb); (try replace G3 := G3.later hb); (try replace z := z.later hb); (try replace b := later b hb); (try replace bB := mixed hB bB hb); clear hb) | ((with_reducible show wpList _ _ _ (⟨_, Op.build _ _, _, _, _, _⟩ :: _) _ _); refine wpl_built1 rfl 23 _ rfl rfl B1.out ?_) | (go_at_call 17; (with_reducible show Calls _ _ #[_, Value.int IntKind.i64 3] _ _); have glt := F1.lt; refine (HMK.out _).mono ?_; rintro _ _ ⟨_, rfl, ⟨_, _, rfl, F3, F4, hl⟩, hc⟩; (try replace F1 := F1.later hc); (try replace F2 := F2.later hc); (try replace F3 := F3.later hc); (try replace F4 := F4.later hc); (try replace F5 := F5.later hc); (try replace F6 := F6.later hc); (try replace F7 := F7.later hc); (try replace F8 := F8.later hc); (try replace F9 := F9.later hc); (try replace G1 := G1.later hc); (try replace G2 := G2.later hc); (try replace G3 := G3.later hc); (try replace z := z.later hc); (try replace b := later b hc); (try replace bB := mixed hB bB hc); clear hc; have h1 := F3.shape; have h2 := F4.shape; obtain ⟨_, _, rfl⟩ := h1; obtain ⟨_, _, rfl⟩ := h2; replace F3 := own_st F3 glt; replace F4 := own_st F4 glt; clear glt; have HL := hide hl; clear hl) | (with_reducible show wpList _ _ _ (⟨_, Op.alloc _, _, _, _, _⟩ :: _) _ _; clear mF2; refine wpl_mk_evo rfl rfl ?_; intro _ g1 hg1 F2 hb; (try have := F1.lt); (try have := F2.lt); (try have := F3.lt); (try have := F4.lt); (try have := F5.lt); (try have := F6.lt); (try have := F7.lt); (try have := F8.lt); (try have := F9.lt); (try have := z.lt); (try have := G1.lt); (try have := G2.lt); (try have := G3.lt); (try have := b.size); (try replace F1 := F1.later hb); (try replace F2 := F2.later hb); (try replace F3 := F3.later hb); (try replace F4 := F4.later hb); (try replace F5 := F5.later hb); (try replace F6 := F6.later hb); (try replace F7 := F7.later hb); (try replace F8 := F8.later hb); (try replace F9 := F9.later hb); (try replace G1 := G1.later hb); (try replace G2 := G2.later hb); (try replace G3 := G3.later hb); (try replace z := z.later hb); (try replace b := later b hb); (try replace bB := mixed hB bB hb); clear hb) | (with_reducible show wpList _ _ _ (⟨_, Op.store _ _ _, _, _, _, _⟩ :: _) _ _; refine wpl_set_evo rfl _ _ rfl rfl rfl HL.out rfl rfl F2 ?_; intro _ t1 ht; (try replace F1 := F1.tt ht); (try replace F2 := F2.tt ht); (try replace F3 := F3.tt ht); (try replace F4 := F4.tt ht); (try replace F5 := F5.tt ht); (try replace F6 := F6.tt ht); (try replace F7 := F7.tt ht); (try replace F8 := F8.tt ht); (try replace F9 := F9.tt ht); (try replace G1 := G1.tt ht); (try replace G2 := G2.tt ht); (try replace G3 := G3.tt ht); (try replace z := z.tt ht); (try replace b := below_touch b ht (by omega) (by omega)); (try replace bB := below_touch bB ht (by omega) hB); replace F2 := t1; clear ht) | (with_reducible show wpList _ _ _ (⟨_, Op.load _ _, _, _, _, _⟩ :: _) _ _; first | (refine wpl_load_hash rfl _ rfl rfl (by assumption) ?_) | (refine wpl_load_one rfl 3 _ rfl rfl (EvoAt.cd (by assumption)) (by kernel_rfl) ?_) | (refine wpl_load_one rfl 3 _ rfl rfl (EvoAt.cp (by assumption)) (by kernel_rfl) ?_) | (refine wpl_load_one rfl 24 _ rfl rfl (EvoAt.cr (by assumption)) (by kernel_rfl) ?_) | (refine wpl_load_one rfl 24 _ rfl rfl (EvoAt.cs (by assumption)) (by kernel_rfl) ?_) | (refine wpl_load_leaf rfl _ rfl rfl (by assumption) ?_) | (refine wpl_load_evo rfl _ rfl rfl (by assumption) ?_)) | (with_reducible show wpList _ _ _ (⟨_, Op.store _ _ _, _, _, _, _⟩ :: _) _ _; refine wpl_set_evo rfl _ _ rfl rfl rfl HL.out rfl rfl F1 ?_; intro _ t1 ht; (try replace F1 := F1.tt ht); (try replace F2 := F2.tt ht); (try replace F3 := F3.tt ht); (try replace F4 := F4.tt ht); (try replace F5 := F5.tt ht); (try replace F6 := F6.tt ht); (try replace F7 := F7.tt ht); (try replace F8 := F8.tt ht); (try replace F9 := F9.tt ht); (try replace G1 := G1.tt ht); (try replace G2 := G2.tt ht); (try replace G3 := G3.tt ht); (try replace z := z.tt ht); (try replace b := below_touch b ht (by omega) (by omega)); (try replace bB := below_touch bB ht (by omega) hB); replace F1 := t1; clear ht))
  exact bodyPost_ret (ret_evo rfl _ _ rfl F1) rfl ⟨_, rfl, ⟨_, _, rfl, F3.now, F4.now, HL.out⟩, b⟩
/-- The sealed head of the law, and what it is made of. -/
def p14 : List UInt8 := pubE 3 one32
def r14 : Rt := grantR two32 p14 0 3
def h14 : Hd := ⟨5, 0, zero32, zero32, zero32, 0, 0, r14, ByteArray.empty⟩
def s14 : Hd := (sealH h14 (keyE 3 0 one32)).1
set_option maxRecDepth 100000 in
theorem hdBuilt2 (c s : Nat) (g : ByteArray) {l : List UInt8} (h : l.length = 32) : Try.prog.built 50 [(0, .int .u64 5), (7, rtV ⟨l, c, s, g⟩)] = some (hdCs ⟨5, 0, zero32, zero32, zero32, 0, 0, ⟨l, c, s, g⟩, ByteArray.empty⟩).toArray := by
  obtain ⟨x0, x1, x2, x3, x4, x5, x6, x7, x8, x9, x10, x11, x12, x13, x14, x15, x16, x17, x18, x19, x20, x21, x22, x23, x24, x25, x26, x27, x28, x29, x30, x31, rfl⟩ := hash_cons h
  clear h
  kernel_rfl
theorem hdBuilt2R (r : Rt) (h : r.Ok) : Try.prog.built 50 [(0, .int .u64 5), (7, rtV r)] = some (hdCs ⟨5, 0, zero32, zero32, zero32, 0, 0, r, ByteArray.empty⟩).toArray := hdBuilt2 r.counter r.start r.sig h.hot
theorem p14_length : p14.length = 32 := pubE_length _ _
theorem r14_ok : r14.Ok := ⟨p14_length, by decide, by decide⟩
theorem h14_ok : h14.Ok := ⟨by decide, by decide, rfl, rfl, rfl, by decide, by decide, r14_ok⟩
end Go.Proofs.Ytofjjpielkfloaa
