/- block.told: the iterator, against a round whatever it does. -/
import Derived.Test.YtbbfnpfkbbpjgaaGreatQDBlkV
import Derived.LoopIn
import Derived.OwnWalkIn
import Derived.Test.YtbbfnpfkbbpjgaaGreatQDBuilderS
import Derived.Test.YtbbfnpfkbbpjgaaGreatQDBkR1
import Derived.Test.YtbbfnpfkbbpjgaaGreatQDDeed9
import Derived.Test.YtbbfnpfkbbpjgaaGreatQDHd7
import Derived.RangeFuncSeq
import Derived.Test.YtbbfnpfkbbpjgaaGreatQDHd3
import Derived.Test.YtbbfnpfkbbpjgaaGreatQDBlkE
import Derived.Test.YtbbfnpfkbbpjgaaGreatQDDeedR
import Derived.Test.YtbbfnpfkbbpjgaaGreatQDRowE
import Derived.Test.YtbbfnpfkbbpjgaaGreatQDDeed3
import Derived.Test.YtbbfnpfkbbpjgaaGreatQDElCert
import Derived.Deep.CutBlock
import Derived.Deep.DeepCutAuto
namespace Go.Proofs.YtbbfnpfkbbpjgaaGreat
open Go.RowKit Go.Lib
set_option linter.unusedVariables false
set_option linter.unusedSimpArgs false
set_option maxRecDepth 100000
set_option maxHeartbeats 4000000
def leftS : Option (List UInt8) → ByteArray
 | some r => ⟨r.toArray⟩
 | none => ⟨#[63]⟩
/-- The iterator's own variables and the caller's left are as they were. -/
def Kc (g1 g2 g3 gL : Nat) (W W' : World) : Prop := ∀ b, (b = g1 ∨ b = g2 ∨ b = g3 ∨ b = gL) → W'.heap[b]? = W.heap[b]?
theorem One.kc {g1 g2 g3 gL g : Nat} {W W' : World} {t : TypeId} {v : Value} (h : One W g t v) (hk : Kc g1 g2 g3 gL W W') (hg : g = g1 ∨ g = g2 ∨ g = g3 ∨ g = gL) : One W' g t v := (hk g hg).trans h
theorem x8z {m k : Nat} {s t : List UInt8} (h : takeT 32768 s = some (t, k)) : txP (m + 1) s = (t :: (txP m (s.drop k)).1, (txP m (s.drop k)).2) := by
 conv => lhs; unfold txP
 rw [h]
theorem z0a {m : Nat} {s : List UInt8} (h : takeT 32768 s = none) : txP (m + 1) s = ([], none) := by unfold txP; rw [h]
theorem x1j {a b : Nat} {w w' : World} (h : Touch (fun x => x = a) w w') : Touch (fun x => x = a ∨ x = b) w w' := ⟨h.os, h.tape, h.output, h.size, fun k hk hn => h.block k hk (fun q => hn (.inl q))⟩
theorem z0s {a b : Nat} {w w' : World} (h : Touch (fun x => x = b) w w') : Touch (fun x => x = a ∨ x = b) w w' := ⟨h.os, h.tape, h.output, h.size, fun k hk hn => h.block k hk (fun q => hn (.inr q))⟩
theorem z0q (lp g1 g2 g3 gL n N : Nat) (L : List UInt8) (J : List (List UInt8) → World → Prop) (Jx : World → Prop)
  (h13 : g1 ≠ g3) (h1L : g1 ≠ gL) (h23 : g2 ≠ g3) (h2L : g2 ≠ gL) (h3L : g3 ≠ gL)
  (hJ : ∀ pre W W', J pre W → Touch (fun b => b = gL ∨ b = g3) W W' → J pre W')
  (hY : ∀ pre x post W, (txP N L).1 = pre ++ x :: post → J pre W → YieldAt Fence.wide (n - 1) Tryz.prog lp #[.string ⟨x.toArray⟩] W fun e W' => (e = .returned (.bool true) ∧ J (pre ++ [x]) W' ∧ Kc g1 g2 g3 gL W W') ∨ (e = .returned (.bool false) ∧ Jx W'))
  (W : World) (F1 : One W g1 108 (.pointer (some ⟨gL, 0, none⟩))) (F2 : One W g2 24 (.int .u64 (N : Int))) (F3 : One W g3 9 (.string ⟨L.toArray⟩)) (s0 : ByteArray) (F4 : One W gL 9 (.string s0)) (hL : L.length ≤ 1048576) (hN : N ≤ 16) (h0 : J [] W) :
  CallsIn Fence.wide n Tryz.prog 141 #[.func (.yield lp) #[] #[], .pointer (some ⟨g1, 0, none⟩), .pointer (some ⟨g2, 0, none⟩), .pointer (some ⟨g3, 0, none⟩)] W fun e W' => (∃ v, e = .returned v) ∧ ((J (txP N L).1 W' ∧ One W' gL 9 (.string (leftS (txP N L).2))) ∨ Jx W') := by
 refine callsIn_of_wp Tryz.func141 rfl trivial ?_ rfl
 simp only [Tryz.ntmps141, List.size_toArray, List.length_cons, List.length_nil, Nat.reduceAdd, Nat.reduceSub, Array.replicate_succ, Array.replicate_zero, List.push_toArray, List.append_toArray, List.nil_append, List.cons_append]
 refine wpIn_seq ?_
 refine j1x ?_
 go_wp2_with (first | (with_reducible refine w0g ?_; refine q0a rfl 108 _ rfl rfl F1.cell (by kernel_rfl) ?_) | ((with_reducible refine w4g ?_); refine q0v rfl 9 _ _ rfl rfl rfl F4 Nat.zero_lt_one strSize rfl rfl ?_; intro _ t1 ht1; clear F4; have h1 := hJ _ _ _ h0 (x1j ht1); clear h0; have h0 := h1; clear h1; replace F1 := F1.tt ht1 h1L; replace F2 := F2.tt ht1 h2L; replace F3 := F3.tt ht1 h3L; have F4 := t1; clear t1 ht1))
 refine wpIn_seq ?_
 refine wpIn_seq ?_
 refine j1x ?_
 go_wp2_with (with_reducible refine w0g ?_; refine q0a rfl 24 _ rfl rfl F2.cell (by kernel_rfl) ?_)
 refine wpIn_block ?_
 gi_loopw [11] (fun i wr => ∃ (k : Nat) (s : List UInt8) (pre : List (List UInt8)), i = .int .u64 k ∧ k ≤ N ∧ s.length ≤ 1048576 ∧ Hid ((txP N L).1 = pre ++ (txP (N - k) s).1) ∧ Hid ((txP N L).2 = (txP (N - k) s).2) ∧ One wr g1 108 (.pointer (some ⟨gL, 0, none⟩)) ∧ One wr g3 9 (.string ⟨s.toArray⟩) ∧ One wr gL 9 (.string ⟨#[63]⟩) ∧ J pre wr) (fun i _ => N - (RowKit.intOf i).toNat)
 case atStart => exact ⟨0, L, [], rfl, by omega, hL, hide (by simp), hide rfl, F1, F3, F4, h0⟩
 case round =>
  clear F1 F2 F3 F4 h0
  obtain ⟨k, s, pre, rfl, hk, hsz, H1, H2, F1, F3, F4, h0⟩ := hrel
  have c1 := F1.cell
  have c3 := F3.cell
  have cL := F4.cell
  have f3 := F3.thaw
  have fL := F4.thaw
  by_cases hlt : k < N
  ·obtain ⟨m, hm⟩ : ∃ m, N - k = m + 1 := ⟨N - k - 1, by omega⟩
   have hmj : N - (k + 1) = m := by omega
   have HMJ := hide hmj
   rw [hm] at H1 H2
   have HTT := hide (fun w => j9o ⟨s.toArray⟩ w (by show s.toArray.size ≤ _; rw [List.size_toArray]; exact hsz))
   have e0 : (⟨s.toArray⟩ : ByteArray).data.toList = s := rfl
   rw [e0] at HTT
   unfold tkV at HTT
   clear e0 hm hmj
   cases hq : takeT 32768 s with
   | none =>
    rw [z0a hq] at H1 H2
    rw [hq] at HTT
    clear hq
    gi_wp2
    refine ⟨trivial, fun hd => (by cases hd), ?_⟩
    (with_reducible show CallsIn _ _ _ 142 _ _ _)
    refine (callsIn_wide.2 (HTT.out _)).mono ?_
    rintro _ _ ⟨⟨c, rfl, hc0⟩, hb⟩
    have hcn : c ≠ 0 := (fun h => by have := hc0.1 h; cases this)
    have hcb : (c != 0) = true := bne_iff_ne.2 hcn
    replace F4 := F4.later hb
    have h1 := hJ _ _ _ h0 (q2o hb)
    clear h0 hb hc0 hcn
    gi_wp2
    refine ⟨fun _ h => (by cases h), ?_⟩
    gi_wp2
    refine bodyPost_ret (results_none rfl _ _ _) rfl ?_
    rw [H1.out, H2.out, List.append_nil]
    exact ⟨⟨_, rfl⟩, .inl ⟨h1, F4⟩⟩
   | some y =>
    obtain ⟨t, k3⟩ := y
    obtain ⟨-, -, ht3, hk3⟩ := x1k hq
    rw [x8z hq] at H1 H2
    rw [hq] at HTT
    have q1 : k3 ≤ (⟨s.toArray⟩ : ByteArray).size := by show k3 ≤ s.toArray.size; rw [List.size_toArray]; exact hk3
    have HEX : Hid ((⟨s.toArray⟩ : ByteArray).extract k3 (⟨s.toArray⟩ : ByteArray).size = ⟨(s.drop k3).toArray⟩) := by
     apply ByteArray.ext
     apply Array.toList_inj.1
     simp [ByteArray.size, List.take_of_length_le]
    have HN2 : Hid ((txP N L).1 = (pre ++ [t]) ++ (txP m (s.drop k3)).1) := by rw [H1.out]; exact hide (by simp)
    have hsz2 : (s.drop k3).length ≤ 1048576 := by rw [List.length_drop]; omega
    have HSZ2 := hide hsz2
    clear hq hk3 hsz2
    gi_wp2
    refine ⟨trivial, fun hd => (by cases hd), ?_⟩
    (with_reducible show CallsIn _ _ _ 142 _ _ _)
    refine (callsIn_wide.2 (HTT.out _)).mono ?_
    rintro _ w2 ⟨⟨c, rfl, hc0⟩, hb⟩
    have hcn : c = 0 := hc0.2 rfl
    clear hc0
    subst hcn
    replace F1 := F1.later hb
    replace F3 := F3.later hb
    replace F4 := F4.later hb
    have h1 := hJ _ _ _ h0 (q2o hb)
    clear h0 hb c1 c3 cL f3 fL
    obtain ⟨fn, tmps, assign, body, hy, hR⟩ := hY pre t _ w2 H1.out h1
    gi_wp2
    refine ⟨fun hd => (by cases hd), ?_⟩
    refine hR.mono ?_
    rintro _ W' (⟨rfl, hj, hkc⟩ | ⟨rfl, hx⟩)
    ·replace F1 := F1.kc hkc (.inl rfl)
     replace F3 := F3.kc hkc (.inr (.inr (.inl rfl)))
     replace F4 := F4.kc hkc (.inr (.inr (.inr rfl)))
     have c3 := F3.cell
     have f3 := F3.thaw
     gi_wp2
     go_roundw
     case rel => exact ⟨k + 1, s.drop k3, pre ++ [t], by simp, by omega, HSZ2.out, by rw [HMJ.out]; exact HN2, by rw [HMJ.out]; exact H2, F1.touch (q5e _ ⟨g3, 0, none⟩ _) h13, by rw [← HEX.out]; exact One.set F3 _, F4.touch (q5e _ ⟨g3, 0, none⟩ _) (fun h => h3L h.symm), hJ _ _ _ hj (z0s (q5e _ ⟨g3, 0, none⟩ _))⟩
     case measure => simp [RowKit.intOf]; omega
    ·gi_wp2
     refine bodyPost_ret (results_none rfl _ _ _) rfl ?_
     exact ⟨⟨_, rfl⟩, .inr hx⟩
  ·obtain rfl : N = k := by omega
   rw [Nat.sub_self] at H1 H2
   gi_wp2
   go_end0
   refine ⟨⟨_, rfl⟩, .inl ⟨?_, ?_⟩⟩
   ·rw [H1.out]
    show J (pre ++ []) _
    rw [List.append_nil]
    exact hJ _ _ _ h0 (x1j (q5e _ ⟨gL, 0, none⟩ _))
   ·rw [H2.out]
    exact One.set F4 _
theorem z0b (s : ByteArray) (m gL : Nat) (w : World) :
    Calls Tryz.prog 68 #[.string s, .int .u64 (m : Int), .pointer (some ⟨gL, 0, none⟩)] w fun e w' =>
      (∃ g1 g2 g3, e = .returned (.func (.func 141) #[] #[.pointer (some ⟨g1, 0, none⟩), .pointer (some ⟨g2, 0, none⟩), .pointer (some ⟨g3, 0, none⟩)]) ∧ w.heap.size ≤ g3 ∧ g3 < g2 ∧ g2 < g1 ∧ g1 < w'.heap.size ∧
        One w' g1 108 (.pointer (some ⟨gL, 0, none⟩)) ∧ One w' g2 24 (.int .u64 (m : Int)) ∧ One w' g3 9 (.string s)) ∧ Below w.heap.size w w' := by
  have b := Below.refl w.heap.size w
  have mF1 := True.intro
  have mF2 := True.intro
  have mF3 := True.intro
  go_enter Tryz.func68, Tryz.ntmps68
  go_wp2_with (first | ((with_reducible show wpList _ _ _ (⟨_, Op.box 9 _, _, _, _, _⟩ :: _) _ _); clear mF3; refine q4q rfl 9 _ rfl rfl (cs := [.string s]) rfl ?_; intro _ g3 hg3 F3 hb; have q3 := b.size; have F3 : One _ g3 9 (.string s) := F3; replace b := later b hb; clear hb) | ((with_reducible show wpList _ _ _ (⟨_, Op.box 24 _, _, _, _, _⟩ :: _) _ _); clear mF2; refine q4q rfl 24 _ rfl rfl (cs := [.int .u64 (m : Int)]) rfl ?_; intro _ g2 hg2 F2 hb; have q2 := F3.lt; have F2 : One _ g2 24 (.int .u64 (m : Int)) := F2; replace F3 := F3.later hb; replace b := later b hb; clear hb) | ((with_reducible show wpList _ _ _ (⟨_, Op.box 108 _, _, _, _, _⟩ :: _) _ _); clear mF1; refine q4q rfl 108 _ rfl rfl (cs := [.pointer (some ⟨gL, 0, none⟩)]) rfl ?_; intro _ g1 hg1 F1 hb; have q1 := F2.lt; have F1 : One _ g1 108 (.pointer (some ⟨gL, 0, none⟩)) := F1; replace F2 := F2.later hb; replace F3 := F3.later hb; replace b := later b hb; clear hb))
  go_ret
  exact ⟨⟨g1, g2, g3, rfl, by omega, by omega, by omega, F1.lt, F1, F2, F3⟩, b⟩
theorem ext_h (s : ByteArray) (n : Nat) : s.extract 0 n = ⟨(s.data.toList.take n).toArray⟩ := by
 apply ByteArray.ext
 apply Array.toList_inj.1
 simp
theorem x5s (s : ByteArray) (n : Nat) : (s.extract n s.size).size = s.size - n := by rw [ByteArray.size_extract]; omega
theorem q7n {S T : Nat → Prop} {w w' : World} (h : Touch S w w') (hs : ∀ x, S x → T x) : Touch T w w' := ⟨h.os, h.tape, h.output, h.size, fun k hk hn => h.block k hk (fun q => hn (hs k q))⟩
theorem q4a (w : World) (k : Nat) (o : Obj) : Touch (fun b => b = k) w (w.putObj k o) := ⟨rfl, rfl, rfl, by simp, fun j _ hn => World.putObj_heap_other (fun e => hn e)⟩
/-- How the body of a round may be left. -/
def RoundQ (J2 : World → Prop) (Jx : World → Prop) (V : World) (D : Nat) (gp gn gs gL : Nat) : Exit → Act → World → Prop
 | .normal, _, V' => J2 V' ∧ Kc gp gn gs gL V V' ∧ V'.heap[D + 1]? = V.heap[D + 1]? ∧ V'.heap[D]? = V.heap[D]?
 | .ret, _, V' => Jx V' ∧ V'.heap[D + 1]? = V.heap[D + 1]? ∧ V'.heap[D]? = V.heap[D]?
 | _, _, _ => False
theorem j3r {g : Operand} {ps : Array Tmp} {assign body : Code} {Q : Exit → Act → World → Prop} {a : Act} {W : World} {gp gn gs gL N : Nat} {L : List UInt8}
  (hg : a.eval g = .func (.func 141) #[] #[.pointer (some ⟨gp, 0, none⟩), .pointer (some ⟨gn, 0, none⟩), .pointer (some ⟨gs, 0, none⟩)]) (hps : ps.size = 1)
  (h1 : gp < W.heap.size) (h2 : gn < W.heap.size) (h3 : gs < W.heap.size) (hl : gL < W.heap.size) (h13 : gp ≠ gs) (h1L : gp ≠ gL) (h23 : gn ≠ gs) (h2L : gn ≠ gL) (h3L : gs ≠ gL)
  (P1 : One W gp 108 (.pointer (some ⟨gL, 0, none⟩))) (P2 : One W gn 24 (.int .u64 (N : Int))) (P3 : One W gs 9 (.string ⟨L.toArray⟩)) (s0 : ByteArray) (P4 : One W gL 9 (.string s0)) (hL : L.length ≤ 1048576) (hN : N ≤ 16)
  (J : List (List UInt8) → World → Prop) (Jx : World → Prop) (h0 : J [] W)
  (hJ : ∀ pre V V', J pre V → Touch (fun b => b = gL ∨ b = gs ∨ b = W.heap.size + 1) V V' → J pre V') (hJx : ∀ V V', Jx V → Touch (fun b => b = W.heap.size + 1) V V' → Jx V')
  (hJs : ∀ pre V, J pre V → W.heap.size + 2 ≤ V.heap.size → True) (a₁ : List UInt8 → Act)
  (hassign : ∀ (x : List UInt8) (V : World) (K : Act → World → Prop), K (a₁ x) V → assign.wpIn (Fence.wide.inRound (W.heap.size + 1)) 1 Tryz.prog (Exit.then K (fun _ _ _ => False)) { tmps := (ps.zip #[Value.string ⟨x.toArray⟩]).foldl (fun t (p, v) => t.setIfInBounds p v) a.tmps, defers := [] } V)
  (hbody : ∀ pre x post V, (txP N L).1 = pre ++ x :: post → J pre V → W.heap.size + 2 ≤ V.heap.size → body.wpIn (Fence.wide.inRound (W.heap.size + 1)) 1 Tryz.prog (RoundQ (J (pre ++ [x])) Jx V W.heap.size gp gn gs gL) (a₁ x) V)
  (hdone : ∀ V, J (txP N L).1 V → One V gL 9 (.string (leftS (txP N L).2)) → V.heap[W.heap.size]? = some (.deferred (some [])) → Q .normal { a with defers := { target := .collected W.heap.size, args := #[] } :: a.defers } V)
  (hstop : ∀ V, Jx V → V.heap[W.heap.size]? = some (.deferred (some [])) → Q .ret { a with defers := { target := .collected W.heap.size, args := #[] } :: a.defers } V) :
  (Code.rangeFunc g ps assign body).wpIn Fence.wide 3 Tryz.prog Q a W := by
 refine wpIn_rangeFunc ?_
 intro fn hfn
 obtain ⟨rec, hrec⟩ : ∃ rec : LoopState → Option Code → Loop, rec = fun st pe => { state := st, pending := pe, fn, tmps := a.tmps, params := ps, assign, body, defers := W.heap.size } := ⟨_, rfl⟩
 obtain ⟨W1, hW1⟩ : ∃ W1, (W.alloc (.deferred (some []))).alloc (.loop (rec .ready none)) = W1 := ⟨_, rfl⟩
 have hL1 : W1.heap[W.heap.size + 1]? = some (.loop (rec .ready none)) := by
  rw [← hW1]; have := World.alloc_heap_new (W.alloc (.deferred (some []))) (.loop (rec .ready none)); rwa [World.size_alloc] at this
 have hK1 : W1.heap[W.heap.size]? = some (.deferred (some [])) := by
  rw [← hW1]; exact (Below.heap_alloc _ _ _ (by simp)).trans (World.alloc_heap_new W _)
 have hb1 : Below W.heap.size W W1 := by
  rw [← hW1]; exact ((Below.refl _ W).alloc (Nat.le_refl _) _).alloc (by simp) _
 have hz1 : W1.heap.size = W.heap.size + 2 := by rw [← hW1]; simp
 have hI1 : J [] W1 := hJ _ _ _ h0 (q2o hb1)
 refine ⟨W.heap.size + 1, [{ target := .collected W.heap.size, args := #[] }], W1, { target := .fn (.func 141) #[.pointer (some ⟨gp, 0, none⟩), .pointer (some ⟨gn, 0, none⟩), .pointer (some ⟨gs, 0, none⟩)], args := #[.func (.yield (W.heap.size + 1)) #[] #[]] }, W1, 141,
  #[.func (.yield (W.heap.size + 1)) #[] #[], .pointer (some ⟨gp, 0, none⟩), .pointer (some ⟨gn, 0, none⟩), .pointer (some ⟨gs, 0, none⟩)], W1, ?_, ?_, ?_, ?_, fun _ => by omega, ?_⟩
 ·rw [← hW1, hrec]; exact run_enterLoop_outer _ _ _ _ _
 ·simp only [resolve, hg]
  simp [go_sem]
 ·intro f' _; exact trivial
 ·have eg := enters_of Tryz.func141 (by kernel_rfl) rfl
  simp [invoke, go_sem, eg]
 refine (z0q (W.heap.size + 1) gp gn gs gL (3 - 1) N L
  (fun pre V => J pre V ∧ V.heap[W.heap.size + 1]? = some (.loop (rec .ready none)) ∧ V.heap[W.heap.size]? = some (.deferred (some [])) ∧ W.heap.size + 2 ≤ V.heap.size)
  (fun V => Jx V ∧ V.heap[W.heap.size + 1]? = some (.loop (rec .done (some .ret))) ∧ V.heap[W.heap.size]? = some (.deferred (some [])))
  h13 h1L h23 h2L h3L ?_ ?_ W1 (P1.later hb1) (P2.later hb1) (P3.later hb1) s0 (P4.later hb1) hL hN ⟨hI1, hL1, hK1, by omega⟩).mono ?_
 ·rintro pre V V' ⟨hj, ha, hk, hz⟩ ht
  refine ⟨hJ _ _ _ hj (q7n ht (fun b hb => hb.elim .inl (fun q => .inr (.inl q)))), (ht.block _ (by omega) (by omega)).trans ha, (ht.block _ (by omega) (by omega)).trans hk, Nat.le_trans hz ht.size⟩
 ·rintro pre x post V hsp ⟨hj, ha, hk, hz⟩
  have hlt : W.heap.size + 1 < V.heap.size := by omega
  have hy := run_yield (P := Tryz.prog) (args := #[Value.string ⟨x.toArray⟩]) ha (by rw [hrec]; exact hps.symm)
  rw [hrec] at hy
  refine ⟨fn, _, assign, body, hy, roundIn_of_wpIn hfn (hassign x V _ ⟨_, run_beginRound ha (by rw [hrec]), ?_⟩)⟩
  have hl2 : (V.putObj (W.heap.size + 1) (.loop { rec .ready none with state := .busy })).heap[W.heap.size + 1]? = some (.loop { rec .ready none with state := .busy }) := World.putObj_heap_same hlt
  have hk2 : (V.putObj (W.heap.size + 1) (.loop { rec .ready none with state := .busy })).heap[W.heap.size]? = some (.deferred (some [])) := (World.putObj_heap_other (by omega)).trans hk
  have hkc : ∀ (V : World) (o : Obj), Kc gp gn gs gL V (V.putObj (W.heap.size + 1) o) := fun V o b hb => World.putObj_heap_other (by rcases hb with rfl | rfl | rfl | rfl <;> omega)
  refine wpIn_mono (hbody pre x post _ hsp (hJ _ _ _ hj (q7n (q4a _ _ _) (fun b hb => .inr (.inr hb)))) (by simpa using hz)) ?_
  rintro e a3 W3 hp
  cases e with
  | normal =>
   obtain ⟨hj3, hc3, ho3, hd3⟩ := hp
   have hl3 := ho3.trans hl2
   have hr := run_endRound (P := Tryz.prog) none hl3
   rw [hrec] at hr
   refine ⟨_, _, hr, .inl ⟨rfl, ⟨hJ _ _ _ hj3 (q7n (q4a _ _ _) (fun b hb => .inr (.inr hb))), ?_, ?_, ?_⟩, fun b hb => ?_⟩⟩
   ·rw [hrec]; exact World.putObj_heap_same (Array.getElem?_eq_some_iff.1 hl3).1
   ·exact (World.putObj_heap_other (by omega)).trans (hd3.trans hk2)
   ·have := (Array.getElem?_eq_some_iff.1 hl3).1
    simpa using (by omega : W.heap.size + 2 ≤ W3.heap.size)
   ·exact ((hkc _ _ b hb).trans (hc3 b hb)).trans (hkc _ _ b hb)
  | ret =>
   obtain ⟨hj3, ho3, hd3⟩ := hp
   have hl3 := ho3.trans hl2
   have hr := run_endRound (P := Tryz.prog) (some .ret) hl3
   rw [hrec] at hr
   refine ⟨_, _, hr, .inr ⟨rfl, hJx _ _ hj3 (q4a _ _ _), ?_, ?_⟩⟩
   ·rw [hrec]; exact World.putObj_heap_same (Array.getElem?_eq_some_iff.1 hl3).1
   ·exact (World.putObj_heap_other (by omega)).trans (hd3.trans hk2)
  | _ => exact hp.elim
 ·rintro e W2 ⟨⟨v, rfl⟩, (⟨⟨hj, ha, hk, hz⟩, hleft⟩ | ⟨hx, ha, hk⟩)⟩
  ·refine ⟨none, _, by have := run_endLoop (P := Tryz.prog) ha (by rw [hrec]; simp); rw [hrec] at this; exact this, ?_⟩
   exact hdone _ (hJ _ _ _ hj (q7n (q4a _ _ _) (fun b hb => .inr (.inr hb)))) (One.touch hleft (q4a _ _ _) (by show ¬ gL = W.heap.size + 1; omega)) ((World.putObj_heap_other (by omega)).trans hk)
  ·refine ⟨some .ret, _, by have := run_endLoop (P := Tryz.prog) ha (by rw [hrec]; simp); rw [hrec] at this; exact this, ?_⟩
   exact wpIn_ret (hstop _ (hJx _ _ hx (q4a _ _ _)) ((World.putObj_heap_other (by omega)).trans hk))
theorem j2k {g : Operand} {p q : Tmp} {assign body : Code} {Q : Exit → Act → World → Prop} {a : Act} {W : World} {gp gn gs gL N : Nat} {L : List UInt8}
  (hg : a.eval g = .func (.func 141) #[] #[.pointer (some ⟨gp, 0, none⟩), .pointer (some ⟨gn, 0, none⟩), .pointer (some ⟨gs, 0, none⟩)])
  (h1 : gp < W.heap.size) (h2 : gn < W.heap.size) (h3 : gs < W.heap.size) (hl : gL < W.heap.size) (h13 : gp ≠ gs) (h1L : gp ≠ gL) (h23 : gn ≠ gs) (h2L : gn ≠ gL) (h3L : gs ≠ gL)
  (P1 : One W gp 108 (.pointer (some ⟨gL, 0, none⟩))) (P2 : One W gn 24 (.int .u64 (N : Int))) (P3 : One W gs 9 (.string ⟨L.toArray⟩)) (s0 : ByteArray) (P4 : One W gL 9 (.string s0)) (hL : L.length ≤ 1048576) (hN : N ≤ 16)
  (J : List (List UInt8) → World → Prop) (Jx : World → Prop) (h0 : J [] W)
  (hJ : ∀ pre V V', J pre V → Touch (fun b => b = gL ∨ b = gs ∨ b = W.heap.size + 1) V V' → J pre V') (hJx : ∀ V V', Jx V → Touch (fun b => b = W.heap.size + 1) V V' → Jx V')
  (hassign : ∀ (x : List UInt8) (V : World) (K : Act → World → Prop), K { tmps := (a.tmps.setIfInBounds p (.string ⟨x.toArray⟩)).setIfInBounds q (.string ⟨x.toArray⟩), defers := [] } V → assign.wpIn (Fence.wide.inRound (W.heap.size + 1)) 1 Tryz.prog (Exit.then K (fun _ _ _ => False)) { tmps := a.tmps.setIfInBounds p (.string ⟨x.toArray⟩), defers := [] } V)
  (hbody : ∀ pre x post V, (txP N L).1 = pre ++ x :: post → J pre V → W.heap.size + 2 ≤ V.heap.size → body.wpIn (Fence.wide.inRound (W.heap.size + 1)) 1 Tryz.prog (RoundQ (J (pre ++ [x])) Jx V W.heap.size gp gn gs gL) { tmps := (a.tmps.setIfInBounds p (.string ⟨x.toArray⟩)).setIfInBounds q (.string ⟨x.toArray⟩), defers := [] } V)
  (hdone : ∀ V, J (txP N L).1 V → One V gL 9 (.string (leftS (txP N L).2)) → V.heap[W.heap.size]? = some (.deferred (some [])) → Q .normal { a with defers := { target := .collected W.heap.size, args := #[] } :: a.defers } V)
  (hstop : ∀ V, Jx V → V.heap[W.heap.size]? = some (.deferred (some [])) → Q .ret { a with defers := { target := .collected W.heap.size, args := #[] } :: a.defers } V) :
  (Code.rangeFunc g #[p] assign body).wpIn Fence.wide 3 Tryz.prog Q a W :=
 j3r hg rfl h1 h2 h3 hl h13 h1L h23 h2L h3L P1 P2 P3 s0 P4 hL hN J Jx h0 hJ hJx (fun _ _ _ _ => trivial) (fun x => { tmps := (a.tmps.setIfInBounds p (.string ⟨x.toArray⟩)).setIfInBounds q (.string ⟨x.toArray⟩), defers := [] }) (fun x V K hK => by simpa using hassign x V K hK) hbody hdone hstop
theorem x4l {J2 Jx : World → Prop} {V V' : World} {D gp gn gs gL : Nat} {a : Act} (h1 : J2 V') (h2 : Kc gp gn gs gL V V') (h3 : V'.heap[D + 1]? = V.heap[D + 1]?) (h4 : V'.heap[D]? = V.heap[D]?) : RoundQ J2 Jx V D gp gn gs gL .normal a V' := ⟨h1, h2, h3, h4⟩
theorem rq_ret {J2 Jx : World → Prop} {V V' : World} {D gp gn gs gL : Nat} {a : Act} (h1 : Jx V') (h3 : V'.heap[D + 1]? = V.heap[D + 1]?) (h4 : V'.heap[D]? = V.heap[D]?) : RoundQ J2 Jx V D gp gn gs gL .ret a V' := ⟨h1, h3, h4⟩
theorem z0z : ∀ (n : Nat) (s t : List UInt8), t ∈ (txP n s).1 → t.length ≤ 32768
 | 0, s, t, h => by simp [txP] at h
 | n + 1, s, t, h => by
  unfold txP at h
  cases hq : takeT 32768 s with
  | none => rw [hq] at h; simp at h
  | some y =>
   obtain ⟨u, k⟩ := y
   rw [hq] at h
   simp only [List.mem_cons] at h
   rcases h with rfl | h
   ·exact (x1k hq).2.2.1
   ·exact z0z n _ t h
theorem q9d : ∀ {p : List (List UInt8)} {l : List Deed}, decs p = some l → l.length = p.length
 | [], l, h => by unfold decs at h; cases h; rfl
 | x :: p, l, h => by
  rw [j2w] at h
  by_cases hx : (takeD x).2 = 0
  ·rw [if_pos hx] at h
   cases hp : decs p with
   | none => rw [hp] at h; cases h
   | some l' =>
    rw [hp] at h
    cases h
    simp [q9d hp]
  ·rw [if_neg hx] at h; cases h
end Go.Proofs.YtbbfnpfkbbpjgaaGreat
