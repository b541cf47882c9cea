/- A range over told: the statement, out of its body's walk. -/
import Derived.Test.YtbbfnpfkbbpjgaaGreatQHDgText
import Derived.RangeFuncSeq
namespace Go.Proofs.YtbbfnpfkbbpjgaaGreat
open Go.RowKit Go.Lib
set_option linter.unusedVariables false
set_option linter.unusedSimpArgs false
set_option maxRecDepth 100000
set_option maxHeartbeats 4000000
theorem q7l {S T : Nat → Prop} {w w' : World} (h : Touch S w w') (hs : ∀ x, S x → T x) : Touch T w w' := ⟨h.os, h.tape, h.output, h.size, fun k hk hn => h.block k hk (fun q => hn (hs k q))⟩
theorem q4b (w : World) (k : Nat) (o : Obj) : Touch (fun b => b = k) w (w.putObj k o) := ⟨rfl, rfl, rfl, by simp, fun j _ hn => World.putObj_heap_other (fun e => hn e)⟩
/-- How the body of a round may be left. -/
def RoundQ (J2 : World → Prop) (Jx : World → Prop) (V : World) (D : Nat) (gp gn gs gL : Nat) : Exit → Act → World → Prop
 | .normal, _, V' => J2 V' ∧ Kc gp gn gs gL V V' ∧ V'.heap[D + 1]? = V.heap[D + 1]? ∧ V'.heap[D]? = V.heap[D]?
 | .ret, _, V' => Jx V' ∧ V'.heap[D + 1]? = V.heap[D + 1]? ∧ V'.heap[D]? = V.heap[D]?
 | _, _, _ => False
theorem j4t {g : Operand} {ps : Array Tmp} {assign body : Code} {Q : Exit → Act → World → Prop} {a : Act} {W : World} {gp gn gs gL N : Nat} {L : List UInt8}
  (hg : a.eval g = .func (.func 141) #[] #[.pointer (some ⟨gp, 0, none⟩), .pointer (some ⟨gn, 0, none⟩), .pointer (some ⟨gs, 0, none⟩)]) (hps : ps.size = 1)
  (h1 : gp < W.heap.size) (h2 : gn < W.heap.size) (h3 : gs < W.heap.size) (hl : gL < W.heap.size) (h13 : gp ≠ gs) (h1L : gp ≠ gL) (h23 : gn ≠ gs) (h2L : gn ≠ gL) (h3L : gs ≠ gL)
  (P1 : One W gp 108 (.pointer (some ⟨gL, 0, none⟩))) (P2 : One W gn 24 (.int .u64 (N : Int))) (P3 : One W gs 9 (.string ⟨L.toArray⟩)) (s0 : ByteArray) (P4 : One W gL 9 (.string s0)) (hL : L.length ≤ 1048576) (hN : N ≤ 16)
  (J : List (List UInt8) → World → Prop) (Jx : World → Prop) (h0 : J [] W)
  (hJ : ∀ pre V V', J pre V → Touch (fun b => b = gL ∨ b = gs ∨ b = W.heap.size + 1) V V' → J pre V') (hJx : ∀ V V', Jx V → Touch (fun b => b = W.heap.size + 1) V V' → Jx V')
  (hJs : ∀ pre V, J pre V → W.heap.size + 2 ≤ V.heap.size → True) (a₁ : List UInt8 → Act)
  (hassign : ∀ (x : List UInt8) (V : World) (K : Act → World → Prop), K (a₁ x) V → assign.wpIn (Fence.wide.inRound (W.heap.size + 1)) 1 Tryz.prog (Exit.then K (fun _ _ _ => False)) { tmps := (ps.zip #[Value.string ⟨x.toArray⟩]).foldl (fun t (p, v) => t.setIfInBounds p v) a.tmps, defers := [] } V)
  (hbody : ∀ pre x post V, (txP N L).1 = pre ++ x :: post → J pre V → W.heap.size + 2 ≤ V.heap.size → body.wpIn (Fence.wide.inRound (W.heap.size + 1)) 1 Tryz.prog (RoundQ (J (pre ++ [x])) Jx V W.heap.size gp gn gs gL) (a₁ x) V)
  (hdone : ∀ V, J (txP N L).1 V → One V gL 9 (.string (leftS (txP N L).2)) → V.heap[W.heap.size]? = some (.deferred (some [])) → Q .normal { a with defers := { target := .collected W.heap.size, args := #[] } :: a.defers } V)
  (hstop : ∀ V, Jx V → V.heap[W.heap.size]? = some (.deferred (some [])) → Q .ret { a with defers := { target := .collected W.heap.size, args := #[] } :: a.defers } V) :
  (Code.rangeFunc g ps assign body).wpIn Fence.wide 3 Tryz.prog Q a W := by
 refine wpIn_rangeFunc ?_
 intro fn hfn
 obtain ⟨rec, hrec⟩ : ∃ rec : LoopState → Option Code → Loop, rec = fun st pe => { state := st, pending := pe, fn, tmps := a.tmps, params := ps, assign, body, defers := W.heap.size } := ⟨_, rfl⟩
 obtain ⟨W1, hW1⟩ : ∃ W1, (W.alloc (.deferred (some []))).alloc (.loop (rec .ready none)) = W1 := ⟨_, rfl⟩
 have hL1 : W1.heap[W.heap.size + 1]? = some (.loop (rec .ready none)) := by
  rw [← hW1]; have := World.alloc_heap_new (W.alloc (.deferred (some []))) (.loop (rec .ready none)); rwa [World.size_alloc] at this
 have hK1 : W1.heap[W.heap.size]? = some (.deferred (some [])) := by
  rw [← hW1]; exact (Below.heap_alloc _ _ _ (by simp)).trans (World.alloc_heap_new W _)
 have hb1 : Below W.heap.size W W1 := by
  rw [← hW1]; exact ((Below.refl _ W).alloc (Nat.le_refl _) _).alloc (by simp) _
 have hz1 : W1.heap.size = W.heap.size + 2 := by rw [← hW1]; simp
 have hI1 : J [] W1 := hJ _ _ _ h0 (q2s hb1)
 refine ⟨W.heap.size + 1, [{ target := .collected W.heap.size, args := #[] }], W1, { target := .fn (.func 141) #[.pointer (some ⟨gp, 0, none⟩), .pointer (some ⟨gn, 0, none⟩), .pointer (some ⟨gs, 0, none⟩)], args := #[.func (.yield (W.heap.size + 1)) #[] #[]] }, W1, 141,
  #[.func (.yield (W.heap.size + 1)) #[] #[], .pointer (some ⟨gp, 0, none⟩), .pointer (some ⟨gn, 0, none⟩), .pointer (some ⟨gs, 0, none⟩)], W1, ?_, ?_, ?_, ?_, fun _ => by omega, ?_⟩
 ·rw [← hW1, hrec]; exact run_enterLoop_outer _ _ _ _ _
 ·simp only [resolve, hg]
  simp [go_sem]
 ·intro f' _; exact trivial
 ·have eg := enters_of Tryz.func141 (by kernel_rfl) rfl
  simp [invoke, go_sem, eg]
 refine (x8x (W.heap.size + 1) gp gn gs gL (3 - 1) N L
  (fun pre V => J pre V ∧ V.heap[W.heap.size + 1]? = some (.loop (rec .ready none)) ∧ V.heap[W.heap.size]? = some (.deferred (some [])) ∧ W.heap.size + 2 ≤ V.heap.size)
  (fun V => Jx V ∧ V.heap[W.heap.size + 1]? = some (.loop (rec .done (some .ret))) ∧ V.heap[W.heap.size]? = some (.deferred (some [])))
  h13 h1L h23 h2L h3L ?_ ?_ W1 (P1.later hb1) (P2.later hb1) (P3.later hb1) s0 (P4.later hb1) hL hN ⟨hI1, hL1, hK1, by omega⟩).mono ?_
 ·rintro pre V V' ⟨hj, ha, hk, hz⟩ ht
  refine ⟨hJ _ _ _ hj (q7l ht (fun b hb => hb.elim .inl (fun q => .inr (.inl q)))), (ht.block _ (by omega) (by omega)).trans ha, (ht.block _ (by omega) (by omega)).trans hk, Nat.le_trans hz ht.size⟩
 ·rintro pre x post V hsp ⟨hj, ha, hk, hz⟩
  have hlt : W.heap.size + 1 < V.heap.size := by omega
  have hy := run_yield (P := Tryz.prog) (args := #[Value.string ⟨x.toArray⟩]) ha (by rw [hrec]; exact hps.symm)
  rw [hrec] at hy
  refine ⟨fn, _, assign, body, hy, roundIn_of_wpIn hfn (hassign x V _ ⟨_, run_beginRound ha (by rw [hrec]), ?_⟩)⟩
  have hl2 : (V.putObj (W.heap.size + 1) (.loop { rec .ready none with state := .busy })).heap[W.heap.size + 1]? = some (.loop { rec .ready none with state := .busy }) := World.putObj_heap_same hlt
  have hk2 : (V.putObj (W.heap.size + 1) (.loop { rec .ready none with state := .busy })).heap[W.heap.size]? = some (.deferred (some [])) := (World.putObj_heap_other (by omega)).trans hk
  have hkc : ∀ (V : World) (o : Obj), Kc gp gn gs gL V (V.putObj (W.heap.size + 1) o) := fun V o b hb => World.putObj_heap_other (by rcases hb with rfl | rfl | rfl | rfl <;> omega)
  refine wpIn_mono (hbody pre x post _ hsp (hJ _ _ _ hj (q7l (q4b _ _ _) (fun b hb => .inr (.inr hb)))) (by simpa using hz)) ?_
  rintro e a3 W3 hp
  cases e with
  | normal =>
   obtain ⟨hj3, hc3, ho3, hd3⟩ := hp
   have hl3 := ho3.trans hl2
   have hr := run_endRound (P := Tryz.prog) none hl3
   rw [hrec] at hr
   refine ⟨_, _, hr, .inl ⟨rfl, ⟨hJ _ _ _ hj3 (q7l (q4b _ _ _) (fun b hb => .inr (.inr hb))), ?_, ?_, ?_⟩, fun b hb => ?_⟩⟩
   ·rw [hrec]; exact World.putObj_heap_same (Array.getElem?_eq_some_iff.1 hl3).1
   ·exact (World.putObj_heap_other (by omega)).trans (hd3.trans hk2)
   ·have := (Array.getElem?_eq_some_iff.1 hl3).1
    simpa using (by omega : W.heap.size + 2 ≤ W3.heap.size)
   ·exact ((hkc _ _ b hb).trans (hc3 b hb)).trans (hkc _ _ b hb)
  | ret =>
   obtain ⟨hj3, ho3, hd3⟩ := hp
   have hl3 := ho3.trans hl2
   have hr := run_endRound (P := Tryz.prog) (some .ret) hl3
   rw [hrec] at hr
   refine ⟨_, _, hr, .inr ⟨rfl, hJx _ _ hj3 (q4b _ _ _), ?_, ?_⟩⟩
   ·rw [hrec]; exact World.putObj_heap_same (Array.getElem?_eq_some_iff.1 hl3).1
   ·exact (World.putObj_heap_other (by omega)).trans (hd3.trans hk2)
  | _ => exact hp.elim
 ·rintro e W2 ⟨⟨v, rfl⟩, (⟨⟨hj, ha, hk, hz⟩, hleft⟩ | ⟨hx, ha, hk⟩)⟩
  ·refine ⟨none, _, by have := run_endLoop (P := Tryz.prog) ha (by rw [hrec]; simp); rw [hrec] at this; exact this, ?_⟩
   exact hdone _ (hJ _ _ _ hj (q7l (q4b _ _ _) (fun b hb => .inr (.inr hb)))) (One.touch hleft (q4b _ _ _) (by show ¬ gL = W.heap.size + 1; omega)) ((World.putObj_heap_other (by omega)).trans hk)
  ·refine ⟨some .ret, _, by have := run_endLoop (P := Tryz.prog) ha (by rw [hrec]; simp); rw [hrec] at this; exact this, ?_⟩
   exact wpIn_ret (hstop _ (hJx _ _ hx (q4b _ _ _)) ((World.putObj_heap_other (by omega)).trans hk))
theorem j4k {g : Operand} {p q : Tmp} {assign body : Code} {Q : Exit → Act → World → Prop} {a : Act} {W : World} {gp gn gs gL N : Nat} {L : List UInt8}
  (hg : a.eval g = .func (.func 141) #[] #[.pointer (some ⟨gp, 0, none⟩), .pointer (some ⟨gn, 0, none⟩), .pointer (some ⟨gs, 0, none⟩)])
  (h1 : gp < W.heap.size) (h2 : gn < W.heap.size) (h3 : gs < W.heap.size) (hl : gL < W.heap.size) (h13 : gp ≠ gs) (h1L : gp ≠ gL) (h23 : gn ≠ gs) (h2L : gn ≠ gL) (h3L : gs ≠ gL)
  (P1 : One W gp 108 (.pointer (some ⟨gL, 0, none⟩))) (P2 : One W gn 24 (.int .u64 (N : Int))) (P3 : One W gs 9 (.string ⟨L.toArray⟩)) (s0 : ByteArray) (P4 : One W gL 9 (.string s0)) (hL : L.length ≤ 1048576) (hN : N ≤ 16)
  (J : List (List UInt8) → World → Prop) (Jx : World → Prop) (h0 : J [] W)
  (hJ : ∀ pre V V', J pre V → Touch (fun b => b = gL ∨ b = gs ∨ b = W.heap.size + 1) V V' → J pre V') (hJx : ∀ V V', Jx V → Touch (fun b => b = W.heap.size + 1) V V' → Jx V')
  (hassign : ∀ (x : List UInt8) (V : World) (K : Act → World → Prop), K { tmps := (a.tmps.setIfInBounds p (.string ⟨x.toArray⟩)).setIfInBounds q (.string ⟨x.toArray⟩), defers := [] } V → assign.wpIn (Fence.wide.inRound (W.heap.size + 1)) 1 Tryz.prog (Exit.then K (fun _ _ _ => False)) { tmps := a.tmps.setIfInBounds p (.string ⟨x.toArray⟩), defers := [] } V)
  (hbody : ∀ pre x post V, (txP N L).1 = pre ++ x :: post → J pre V → W.heap.size + 2 ≤ V.heap.size → body.wpIn (Fence.wide.inRound (W.heap.size + 1)) 1 Tryz.prog (RoundQ (J (pre ++ [x])) Jx V W.heap.size gp gn gs gL) { tmps := (a.tmps.setIfInBounds p (.string ⟨x.toArray⟩)).setIfInBounds q (.string ⟨x.toArray⟩), defers := [] } V)
  (hdone : ∀ V, J (txP N L).1 V → One V gL 9 (.string (leftS (txP N L).2)) → V.heap[W.heap.size]? = some (.deferred (some [])) → Q .normal { a with defers := { target := .collected W.heap.size, args := #[] } :: a.defers } V)
  (hstop : ∀ V, Jx V → V.heap[W.heap.size]? = some (.deferred (some [])) → Q .ret { a with defers := { target := .collected W.heap.size, args := #[] } :: a.defers } V) :
  (Code.rangeFunc g #[p] assign body).wpIn Fence.wide 3 Tryz.prog Q a W :=
 j4t hg rfl h1 h2 h3 hl h13 h1L h23 h2L h3L P1 P2 P3 s0 P4 hL hN J Jx h0 hJ hJx (fun _ _ _ _ => trivial) (fun x => { tmps := (a.tmps.setIfInBounds p (.string ⟨x.toArray⟩)).setIfInBounds q (.string ⟨x.toArray⟩), defers := [] }) (fun x V K hK => by simpa using hassign x V K hK) hbody hdone hstop
theorem x7w {J2 Jx : World → Prop} {V V' : World} {D gp gn gs gL : Nat} {a : Act} (h1 : J2 V') (h2 : Kc gp gn gs gL V V') (h3 : V'.heap[D + 1]? = V.heap[D + 1]?) (h4 : V'.heap[D]? = V.heap[D]?) : RoundQ J2 Jx V D gp gn gs gL .normal a V' := ⟨h1, h2, h3, h4⟩
theorem rq_ret {J2 Jx : World → Prop} {V V' : World} {D gp gn gs gL : Nat} {a : Act} (h1 : Jx V') (h3 : V'.heap[D + 1]? = V.heap[D + 1]?) (h4 : V'.heap[D]? = V.heap[D]?) : RoundQ J2 Jx V D gp gn gs gL .ret a V' := ⟨h1, h3, h4⟩
theorem z1e : ∀ (n : Nat) (s t : List UInt8), t ∈ (txP n s).1 → t.length ≤ 32768
 | 0, s, t, h => by simp [txP] at h
 | n + 1, s, t, h => by
  unfold txP at h
  cases hq : takeT 32768 s with
  | none => rw [hq] at h; simp at h
  | some y =>
   obtain ⟨u, k⟩ := y
   rw [hq] at h
   simp only [List.mem_cons] at h
   rcases h with rfl | h
   ·exact (j5z hq).2.2.1
   ·exact z1e n _ t h
theorem q9b : ∀ {p : List (List UInt8)} {l : List Deed}, decs p = some l → l.length = p.length
 | [], l, h => by unfold decs at h; cases h; rfl
 | x :: p, l, h => by
  rw [j3n] at h
  by_cases hx : (takeD x).2 = 0
  ·rw [if_pos hx] at h
   cases hp : decs p with
   | none => rw [hp] at h; cases h
   | some l' =>
    rw [hp] at h
    cases h
    simp [q9b hp]
  ·rw [if_neg hx] at h; cases h
end Go.Proofs.YtbbfnpfkbbpjgaaGreat
