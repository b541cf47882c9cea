/- Several texts of this proof in one: Region, Law, Words, ShaSpec, Wide, Cmp, Arr, ShaWords, ShaGoes, Byts, ShaSmall, ShaSum, OpenHash, HashEq, Builder, Hex, Read, Ref02. -/
import Derived.WalkKit
import Derived.Deep.Quiet
import Derived.Deep.QuietTactic
import Derived.BigQuiet
import Derived.StillTail
import Derived.Test.YtbbfnpfkbbpjgaaGreatRows
import Derived.ProofKit
import Derived.OpenShut
import Derived.Laws.BitsAllLaws
import Derived.WalkSpells
import Derived.WalkLawsBesides
import Derived.Lib.Mul64
import Derived.Shelf.Bits.Mul64
import Derived.Deep.RegionHeld3
import Derived.Laws.Rows
import Derived.Laws.IdiomStrings
import Derived.Test.YtbbfnpfkbbpjgaaGreatQHShelf
import Derived.ChangeKeysEq
import Derived.Shelf.Strings.Builder1
import Derived.Lib.Bytealg
/- A region that draws its order: one walk in the order of the text serves every order, where each operation but the last few leaves one value in every world that lies behind the region's first one (below a block number nothing has changed): loads of old cells, arithmetic, calls that only make new memory. The last few operations, whose order is forced, may do anything. -/
namespace Go.Proofs.YtbbfnpfkbbpjgaaGreat
open Go.RowKit
set_option linter.unusedVariables false
set_option linter.unusedSimpArgs false
set_option maxRecDepth 100000
set_option maxHeartbeats 4000000
theorem pS : (∀ (t : Array Value) (ds) (d : Tmp) (v : Value), Act.put ⟨t, ds⟩ (some d) v = ⟨t.setIfInBounds d v, ds⟩) ∧ (∀ (a : Act) (v : Value), Act.put a none v = a) ∧ (∀ (l : List Value) (i : Nat) (x : Value), l.toArray.setIfInBounds i x = (l.set i x).toArray) ∧ (∀ (a b : Value) (l : List Value) (i : Nat), (a :: l).set (i + 1) b = a :: l.set i b) ∧ (∀ (a b : Value) (l : List Value), (a :: l).set 0 b = b :: l) :=
 ⟨fun _ _ _ _ => rfl, fun _ _ => rfl, fun _ _ _ => by simp, fun _ _ _ _ => rfl, fun _ _ _ => rfl⟩
theorem w0g {P ops Q d x0 x1 ty p af g rest a w} (h : wpList P ops Q (⟨d, Op.load x0 x1, ty, p, af, g⟩ :: rest) a w) : wpList P ops Q (⟨d, Op.load x0 x1, ty, p, af, g⟩ :: rest) a w := h
theorem w1g {P ops Q d x0 ty p af g rest a w} (h : wpList P ops Q (⟨d, Op.load 9 x0, ty, p, af, g⟩ :: rest) a w) : wpList P ops Q (⟨d, Op.load 9 x0, ty, p, af, g⟩ :: rest) a w := h
theorem w2g {P ops Q d x0 x1 ty p af g rest a w} (h : wpList P ops Q (⟨d, Op.box x0 x1, ty, p, af, g⟩ :: rest) a w) : wpList P ops Q (⟨d, Op.box x0 x1, ty, p, af, g⟩ :: rest) a w := h
theorem w3g {P ops Q d x0 ty p af g rest a w} (h : wpList P ops Q (⟨d, Op.alloc x0, ty, p, af, g⟩ :: rest) a w) : wpList P ops Q (⟨d, Op.alloc x0, ty, p, af, g⟩ :: rest) a w := h
theorem w4g {P ops Q d x0 x1 x2 ty p af g rest a w} (h : wpList P ops Q (⟨d, Op.store x0 x1 x2, ty, p, af, g⟩ :: rest) a w) : wpList P ops Q (⟨d, Op.store x0 x1 x2, ty, p, af, g⟩ :: rest) a w := h
theorem w5g {P ops Q d x0 x1 ty p af g rest a w} (h : wpList P ops Q (⟨d, Op.build x0 x1, ty, p, af, g⟩ :: rest) a w) : wpList P ops Q (⟨d, Op.build x0 x1, ty, p, af, g⟩ :: rest) a w := h
theorem w6g {P ops Q d x0 ty p af g rest a w} (h : wpList P ops Q (⟨d, Op.load 24 x0, ty, p, af, g⟩ :: rest) a w) : wpList P ops Q (⟨d, Op.load 24 x0, ty, p, af, g⟩ :: rest) a w := h
theorem w7g {P ops Q d x0 x1 x2 ty p af g rest a w} (h : wpList P ops Q (⟨d, Op.buildSlice x0 x1 x2, ty, p, af, g⟩ :: rest) a w) : wpList P ops Q (⟨d, Op.buildSlice x0 x1 x2, ty, p, af, g⟩ :: rest) a w := h
theorem w8g {P ops Q d x0 x1 x2 x3 x4 ty p af g rest a w} (h : wpList P ops Q (⟨d, Op.binOp x0 x1 x2 x3 x4, ty, p, af, g⟩ :: rest) a w) : wpList P ops Q (⟨d, Op.binOp x0 x1 x2 x3 x4, ty, p, af, g⟩ :: rest) a w := h
theorem w9g {P ops Q d x0 ty p af g rest a w} (h : wpList P ops Q (⟨d, Op.load 49 x0, ty, p, af, g⟩ :: rest) a w) : wpList P ops Q (⟨d, Op.load 49 x0, ty, p, af, g⟩ :: rest) a w := h
theorem w10g {P ops Q d x0 ty p af g rest a w} (h : wpList P ops Q (⟨d, Op.load 42 x0, ty, p, af, g⟩ :: rest) a w) : wpList P ops Q (⟨d, Op.load 42 x0, ty, p, af, g⟩ :: rest) a w := h
theorem w11g {P ops Q d x0 ty p af g rest a w} (h : wpList P ops Q (⟨d, Op.load 29 x0, ty, p, af, g⟩ :: rest) a w) : wpList P ops Q (⟨d, Op.load 29 x0, ty, p, af, g⟩ :: rest) a w := h
theorem w12g {P ops Q d ty p af g rest a w} (h : wpList P ops Q (⟨d, Op.alloc 29, ty, p, af, g⟩ :: rest) a w) : wpList P ops Q (⟨d, Op.alloc 29, ty, p, af, g⟩ :: rest) a w := h
theorem w13g {P ops Q d x0 x1 ty p af g rest a w} (h : wpList P ops Q (⟨d, Op.store 29 x0 x1, ty, p, af, g⟩ :: rest) a w) : wpList P ops Q (⟨d, Op.store 29 x0 x1, ty, p, af, g⟩ :: rest) a w := h
theorem w14g {P ops Q d x0 x1 ty p af g rest a w} (h : wpList P ops Q (⟨d, Op.store 34 x0 x1, ty, p, af, g⟩ :: rest) a w) : wpList P ops Q (⟨d, Op.store 34 x0 x1, ty, p, af, g⟩ :: rest) a w := h
theorem w15g {P ops Q d x0 ty p af g rest a w} (h : wpList P ops Q (⟨d, Op.call x0, ty, p, af, g⟩ :: rest) a w) : wpList P ops Q (⟨d, Op.call x0, ty, p, af, g⟩ :: rest) a w := h
theorem w16g {P ops Q d x0 ty p af g rest a w} (h : wpList P ops Q (⟨d, Op.load 51 x0, ty, p, af, g⟩ :: rest) a w) : wpList P ops Q (⟨d, Op.load 51 x0, ty, p, af, g⟩ :: rest) a w := h
theorem w17g {P ops Q d x0 x1 x2 x3 ty p af g rest a w} (h : wpList P ops Q (⟨d, Op.binOp BinOp.gtr x0 x1 x2 x3, ty, p, af, g⟩ :: rest) a w) : wpList P ops Q (⟨d, Op.binOp BinOp.gtr x0 x1 x2 x3, ty, p, af, g⟩ :: rest) a w := h
theorem w18g {P ops Q d x0 ty p af g rest a w} (h : wpList P ops Q (⟨d, Op.build 29 x0, ty, p, af, g⟩ :: rest) a w) : wpList P ops Q (⟨d, Op.build 29 x0, ty, p, af, g⟩ :: rest) a w := h
theorem w19g {P ops Q d x0 ty p af g rest a w} (h : wpList P ops Q (⟨d, Op.build 51 x0, ty, p, af, g⟩ :: rest) a w) : wpList P ops Q (⟨d, Op.build 51 x0, ty, p, af, g⟩ :: rest) a w := h
theorem w20g {P ops Q d x0 x1 ty p af g rest a w} (h : wpList P ops Q (⟨d, Op.store 24 x0 x1, ty, p, af, g⟩ :: rest) a w) : wpList P ops Q (⟨d, Op.store 24 x0 x1, ty, p, af, g⟩ :: rest) a w := h
theorem w21g {P ops Q d x0 x1 ty p af g rest a w} (h : wpList P ops Q (⟨d, Op.store 9 x0 x1, ty, p, af, g⟩ :: rest) a w) : wpList P ops Q (⟨d, Op.store 9 x0 x1, ty, p, af, g⟩ :: rest) a w := h
theorem w22g {P ops Q d ty p af g rest a w} (h : wpList P ops Q (⟨d, Op.alloc 51, ty, p, af, g⟩ :: rest) a w) : wpList P ops Q (⟨d, Op.alloc 51, ty, p, af, g⟩ :: rest) a w := h
theorem w23g {P ops Q d x0 x1 ty p af g rest a w} (h : wpList P ops Q (⟨d, Op.store 51 x0 x1, ty, p, af, g⟩ :: rest) a w) : wpList P ops Q (⟨d, Op.store 51 x0 x1, ty, p, af, g⟩ :: rest) a w := h
theorem w24g {P ops Q d ty p af g rest a w} (h : wpList P ops Q (⟨d, Op.alloc 49, ty, p, af, g⟩ :: rest) a w) : wpList P ops Q (⟨d, Op.alloc 49, ty, p, af, g⟩ :: rest) a w := h
theorem w25g {P ops Q d x0 x1 ty p af g rest a w} (h : wpList P ops Q (⟨d, Op.store 49 x0 x1, ty, p, af, g⟩ :: rest) a w) : wpList P ops Q (⟨d, Op.store 49 x0 x1, ty, p, af, g⟩ :: rest) a w := h
theorem w26g {P ops Q d ty p af g rest a w} (h : wpList P ops Q (⟨d, Op.alloc 32, ty, p, af, g⟩ :: rest) a w) : wpList P ops Q (⟨d, Op.alloc 32, ty, p, af, g⟩ :: rest) a w := h
theorem w27g {P ops Q d x0 x1 ty p af g rest a w} (h : wpList P ops Q (⟨d, Op.store 32 x0 x1, ty, p, af, g⟩ :: rest) a w) : wpList P ops Q (⟨d, Op.store 32 x0 x1, ty, p, af, g⟩ :: rest) a w := h
theorem w28g {P d x0 x1 ty p af g a C K} (h : Oper.quiet P ⟨d, Op.load x0 x1, ty, p, af, g⟩ a C K) : Oper.quiet P ⟨d, Op.load x0 x1, ty, p, af, g⟩ a C K := h
theorem w29g {P d x0 ty p af g a C K} (h : Oper.quiet P ⟨d, Op.load 24 x0, ty, p, af, g⟩ a C K) : Oper.quiet P ⟨d, Op.load 24 x0, ty, p, af, g⟩ a C K := h
theorem w30g {P d x0 ty p af g a C K} (h : Oper.quiet P ⟨d, Op.load 34 x0, ty, p, af, g⟩ a C K) : Oper.quiet P ⟨d, Op.load 34 x0, ty, p, af, g⟩ a C K := h
theorem w31g {P d x0 x1 x2 x3 x4 ty p af g a C K} (h : Oper.quiet P ⟨d, Op.binOp x0 x1 x2 x3 x4, ty, p, af, g⟩ a C K) : Oper.quiet P ⟨d, Op.binOp x0 x1 x2 x3 x4, ty, p, af, g⟩ a C K := h
theorem w32g {P d x0 x1 ty p af g a C K} (h : Oper.quiet P ⟨d, Op.build x0 x1, ty, p, af, g⟩ a C K) : Oper.quiet P ⟨d, Op.build x0 x1, ty, p, af, g⟩ a C K := h
/-- A world behind w0: all that lay in w0 is as it was. -/
structure Since (w0 : World) where
 w : World
 ok : Below w0.heap.size w0 w
instance since_nonempty (w : World) : Nonempty (Since w) := ⟨⟨w, Below.refl _ _⟩⟩
section
variable {P : Program} {ops : Array Oper} {md : Region.Mode} {C : World → Prop}
/-- Whatever order is picked from here on: for f steps operations below n come up, each quiet; then L. -/
def wpHead (P : Program) (md : Region.Mode) (ops : Array Oper) (C : World → Prop) (n : Nat) (L : Array Bool → Act → Prop) : Nat → Array Bool → Act → Prop
 | 0, listed, a => L listed a
 | f + 1, listed, a => Region.ready md ops listed ≠ [] ∧ ∀ i ∈ Region.ready md ops listed, i < n ∧ qOp P ops C i (wpHead P md ops C n L f (listed.setIfInBounds i true)) a
theorem q8e {n g : Nat} {L : Array Bool → Act → Prop} {Q' : Exit → Act → World → Prop} (hL : ∀ listed a w, C w → L listed a → wpAny P md ops Q' g listed a w) :
  ∀ (f : Nat) (listed : Array Bool) (a : Act) (w : World), C w → wpHead P md ops C n L f listed a → wpAny P md ops Q' (f + g) listed a w
 | 0, listed, a, w, hw, h => by rw [Nat.zero_add]; exact hL _ _ _ hw h
 | f + 1, listed, a, w, hw, h => by
  rw [show f + 1 + g = (f + g) + 1 by omega]
  exact ⟨fun h0 => absurd h0 h.1, fun i hi => wpOp_of_qOp hw (fun a' w' hw' h' => q8e hL f _ a' w' hw' h') (h.2 i hi).2⟩
theorem j7u {n i : Nat} {oi : Oper} {v : Value} {L : Array Bool → Act → Prop} (hi : ops[i]? = some oi) (hsel : ∀ (j : Nat) (o : Oper) cs b, ops[j]? = some o → o.op ≠ .select cs b)
  (hs : Region.sinkB md ops n = true) (hc : Region.chainB md ops n = true) (hn : n < ops.size) (hin : i < n) (hdone : ∀ listed a, L listed a → ∀ j ∈ Region.ready md ops listed, n ≤ j) :
  ∀ (f : Nat) (listed : Array Bool) (a : Act), HeadInv md ops n listed →
   (∀ j oj, ops[j]? = some oj → j ≠ i → listed.getD j true = false → (∀ e ∈ oj.after, Region.binds md e = true → e.on ≠ i) → oi.apart ops oj = true) →
   i ∈ Region.ready md ops listed → YieldsIn P ops C oi v a →
   wpHead P md ops C n L f (listed.setIfInBounds i true) (a.put oi.dst v) → wpHead P md ops C n L (f + 1) listed a := by
 intro f
 induction f with
 | zero =>
  intro listed a inv _ hr hy H
  refine ⟨fun h => (by rw [h] at hr; cases hr), fun j hj => ?_⟩
  have hjn : j < n := by
   by_cases h : j < n
   ·exact h
   ·exact absurd hj (tail_waits hs hc hn inv _ i rfl hin (mem_ready.1 hr).1 j (by omega))
  refine ⟨hjn, ?_⟩
  by_cases hji : j = i
  ·subst hji; exact hy.qOp hi H
  ·exact absurd (hdone _ _ H j (ready_mono hj hji)) (by omega)
 | succ f ih =>
  intro listed a inv hfree hr hy H
  have hun := (mem_ready.1 hr).1
  refine ⟨fun h => (by rw [h] at hr; cases hr), fun j hj => ?_⟩
  have hjn : j < n := by
   by_cases h : j < n
   ·exact h
   ·exact absurd hj (tail_waits hs hc hn inv _ i rfl hin hun j (by omega))
  refine ⟨hjn, ?_⟩
  by_cases hji : j = i
  ·subst hji; exact hy.qOp hi H
  ·obtain ⟨hjun, oj, hoj, hall⟩ := mem_ready.1 hj
   have hnot : ∀ e ∈ oj.after, Region.binds md e = true → e.on ≠ i := fun e he hb heq => by
    have h1 := hall e he hb
    rw [heq, getD_both hun] at h1
    cases h1
   refine qOp_mono (fun a' h3 => ih _ a' (inv.set hj hjn) (fun k ok hk hki hu hno => ?_) (ready_mono hr (Ne.symm hji)) h3.1 ?_)
    (qOp_put hoj (hfree j oj hoj hji hjun hnot) (fun cs b => hsel i oi cs b hi) (fun cs b => hsel j oj cs b hoj) hy (H.2 j (ready_mono hj hji)).2)
   ·refine hfree k ok hk hki ?_ hno
    by_cases hjk : j = k
    ·subst hjk; exact hjun
    ·rw [getD_set_ne true hjk] at hu; exact hu
   ·rw [Array.setIfInBounds_comm _ _ hji]
    exact h3.2
theorem j5g {n g : Nat} {Lq : Act → Prop} (hsel : Region.noSelect ops = true) (hs : Region.sinkB md ops n = true) (hc : Region.chainB md ops n = true) (hn : n < ops.size) :
  ∀ (l : List Oper) (k : Nat) (listed : Array Bool) (a : Act), (∀ j, j < l.length → l[j]? = ops[k + j]?) → k + l.length = n → HeadInv md ops n listed →
  Region.lexHead md ops g l.length k listed = true → wpQuiet P ops C Lq l a →
  wpHead P md ops C n (fun listed' a' => Region.seqB md ops g n listed' = true ∧ Lq a') l.length listed a
 | [], k, listed, a, _, hk, _, hB, h => by
  obtain rfl : k = n := by simpa using hk
  exact ⟨by simpa [Region.lexHead] using hB, h⟩
 | o :: l, k, listed, a, hl, hk, inv, hB, h => by
  have h0 : ops[k]? = some o := by simpa using (hl 0 (by simp)).symm
  simp only [List.length_cons, Region.lexHead, Bool.and_eq_true] at hB
  simp only [List.length_cons] at hk
  have hr : k ∈ Region.ready md ops listed := by simpa using hB.1.1
  have hq : qOp P ops C k (wpQuiet P ops C Lq l) a := by unfold qOp; simp only [h0]; exact h
  obtain ⟨v, hy, hK⟩ := yieldsIn_of_qOp h0 hq
  exact j7u h0 (Region.noSelect_spec hsel) hs hc hn (by omega) (fun listed' a' hL => seqB_ready hL.1) l.length listed a inv (Region.free_spec h0 hB.1.2) hr hy
   (j5g hsel hs hc hn l (k + 1) _ _ (fun j hj => by have := hl (j + 1) (by simp; omega); simpa [Nat.add_assoc, Nat.add_comm 1 j] using this) (by omega) (inv.set hr (by omega)) hB.2 hK)
theorem q8r {id : Nat} {Q : Exit → Act → World → Prop} {a : Act} {w : World} {l : List Oper} (n : Nat) (hm : P.follows .mixedOrders = true) (hB : Region.lexTailB .any l.toArray n = true) (hC : C { w with drawn := w.drawn + 1 })
  (h : wpQuiet P l.toArray C (fun a' => ∀ w', C w' → wpList P l.toArray Q (l.drop n) a' w') (l.take n) a) : (Code.region id l.toArray true).wp P Q a w := by
 simp only [Region.lexTailB, Bool.and_eq_true, decide_eq_true_eq] at hB
 obtain ⟨⟨⟨⟨hsel, hn⟩, hs⟩, hc⟩, hlex⟩ := hB
 have hn' : n < l.length := by simpa using hn
 have htl : (l.take n).length = n := by simp; omega
 have hdl : (l.drop n).length = l.toArray.size - n := by simp
 have H := j5g (md := .any) (g := l.toArray.size - n) hsel hs hc hn (l.take n) 0 (Array.replicate l.toArray.size false) a
  (fun j hj => by rw [htl] at hj; simp [hj]) (by simpa using htl)
  ⟨by simp, fun j oj _ hl => (by rw [getD_replicate_false] at hl; cases hl), fun t _ ht => getD_in (by simpa using ht) (getD_replicate_false _ _)⟩ (by rw [htl]; exact hlex) h
 refine wp_region_any hm ?_
 have := q8e (Q' := Q) (g := l.toArray.size - n) (fun listed a' w' hw' hL => by
  have := wpAny_of_seq (md := .any) (Q' := Q) (l.drop n) n listed a' w' (fun j => by simp [List.getElem?_drop]) (by rw [hdl]; exact hL.1) (hL.2 w' hw')
  rwa [hdl] at this) _ _ _ _ hC H
 rw [htl, show n + (l.toArray.size - n) = l.toArray.size by omega] at this
 exact this
end
/-- The class of worlds in which the region's operations are walked: behind w, below B as w was. -/
theorem q0e {P : Program} {id : Nat} {Q : Exit → Act → World → Prop} {a : Act} {w : World} {l : List Oper} (hm : P.follows .mixedOrders = true) (hB : Region.lexB .any l.toArray = true)
    (h : wpQuiet P l.toArray (fun w' => ∃ s : Since w, w' = s.w) (fun a' => ∀ w', Below w.heap.size w w' → Q .normal a' w') l a) : (Code.region id l.toArray true).wp P Q a w := by
  refine wp_region_quiet (C := fun w' => ∃ s : Since w, w' = s.w) hm hB ⟨⟨_, (Below.refl _ w).drew⟩, rfl⟩ ?_
  have : ∀ (ls : List Oper) (a : Act), wpQuiet P l.toArray (fun w' => ∃ s : Since w, w' = s.w) (fun a' => ∀ w', Below w.heap.size w w' → Q .normal a' w') ls a →
      wpQuiet P l.toArray (fun w' => ∃ s : Since w, w' = s.w) (fun a' => ∀ w', (∃ s : Since w, w' = s.w) → Q .normal a' w') ls a := by
    intro ls
    induction ls with
    | nil => intro a h w' ⟨s, hs⟩; subst hs; exact h _ s.ok
    | cons o ls ih =>
      intro a h
      unfold wpQuiet at h ⊢
      split
      · rename_i hw; rw [if_pos hw] at h; exact Oper.quiet_mono ih h
      · rename_i hw; rw [if_neg hw] at h; exact ih _ h
  simpa using this l a h
theorem q0n {P : Program} {id : Nat} {Q : Exit → Act → World → Prop} {a : Act} {w : World} {l : List Oper} (n : Nat) (hm : P.follows .mixedOrders = true) (hB : Region.lexTailB .any l.toArray n = true)
    (h : wpQuiet P l.toArray (fun w' => ∃ s : Since w, w' = s.w) (fun a' => ∀ w', Below w.heap.size w w' → wpList P l.toArray Q (l.drop n) a' w') (l.take n) a) : (Code.region id l.toArray true).wp P Q a w := by
  refine q8r (C := fun w' => ∃ s : Since w, w' = s.w) n hm hB ⟨⟨_, (Below.refl _ w).drew⟩, rfl⟩ ?_
  have : ∀ (ls : List Oper) (a : Act), wpQuiet P l.toArray (fun w' => ∃ s : Since w, w' = s.w) (fun a' => ∀ w', Below w.heap.size w w' → wpList P l.toArray Q (l.drop n) a' w') ls a →
      wpQuiet P l.toArray (fun w' => ∃ s : Since w, w' = s.w) (fun a' => ∀ w', (∃ s : Since w, w' = s.w) → wpList P l.toArray Q (l.drop n) a' w') ls a := by
    intro ls
    induction ls with
    | nil => intro a h w' ⟨s, hs⟩; subst hs; exact h _ s.ok
    | cons o ls ih =>
      intro a h
      unfold wpQuiet at h ⊢
      split
      · rename_i hw; rw [if_pos hw] at h; exact Oper.quiet_mono ih h
      · rename_i hw; rw [if_neg hw] at h; exact ih _ h
  exact this _ a h
/-- A cell of w0, in every world behind it. -/
theorem Since.cell {w0 : World} {a : Addr} {v : Value} (h : w0.cell? a = some v) (s : Since w0) : s.w.cell? a = some v := (s.ok.cell (World.block_lt_of_cell? w0 a h)).trans h
/-- A callee's contract, met in a world behind: it makes new memory alone. -/
theorem q0f {P : Program} {f : FuncId} {args : Array Value} {w0 : World} {s : Since w0} {v : Value}
  (h : Calls P f args s.w fun e w' => e = .returned v ∧ Below s.w.heap.size s.w w') : Calls P f args s.w fun e w'' => e = .returned v ∧ ∃ s' : Since w0, w'' = s'.w :=
 h.mono fun _ w' ⟨he, hb⟩ => ⟨he, ⟨w', s.ok.trans (hb.mono s.ok.size)⟩, rfl⟩
theorem q5g {P : Program} {f : FuncId} {args : Array Value} {w0 : World} {s : Since w0} {v : Value}
  (h : Calls P f args s.w fun e w' => e = .returned v ∧ s.w = w') : Calls P f args s.w fun e w'' => e = .returned v ∧ ∃ s' : Since w0, w'' = s'.w :=
 h.mono fun _ _ ⟨he, hb⟩ => ⟨he, s, hb.symm⟩
end Go.Proofs.YtbbfnpfkbbpjgaaGreat
namespace Go.Proofs.YtbbfnpfkbbpjgaaGreat
open Go.ChangeShapes Go.WideShapes Go.ChangeAt Go.RowKit
set_option linter.unusedVariables false
set_option linter.unusedSimpArgs false
set_option maxRecDepth 100000
set_option maxHeartbeats 4000000
theorem ownsKnob : ownKnob Tryz.prog.godebug = none := by kernel_rfl
theorem isLaidOut : laidOutB Tryz.prog = true := by kernel_rfl
theorem q9z {H : Type} {enc : TypeId × Value → H} {P : Program} (hl : laidOutB P = true) {W W' : World} (hb : Below W.heap.size W W') :
  ∀ (ts : List TypeId) (vs : List Value) (ds : List (DataW H)) (ps : List MemPlace), (ts.all fun t => P.readableRec t && decide (t < P.types.size)) = true →
   DataW.TrodAll enc P W 0 (fun _ => true) true ts vs ds ps → (∀ x ∈ ps, x.block < W.heap.size) → DataW.TrodAll enc P W' 0 (fun b => decide (b < W.heap.size)) true ts vs ds ps
 | [], vs, ds, ps, _, h, _ => by
  cases vs <;> cases ds <;> simp_all [DataW.TrodAll]
 | t :: ts, vs, ds, ps, hr, h, hlt => by
  obtain ⟨v, vs', d, ds', p, q, rfl, rfl, rfl, h0, h1⟩ := trodAll_cons h
  simp only [List.all_cons, Bool.and_eq_true, decide_eq_true_eq] at hr
  exact ⟨p, q, Below.trod hl hr.1.1 hr.1.2 h0 hb (fun x hx => hlt x (List.mem_append.2 (.inl hx))), q9z hl hb ts vs' ds' q (by simpa using hr.2) h1 (fun x hx => hlt x (List.mem_append.2 (.inr hx))), rfl⟩
/-- What a law's row asks behind the call. -/
theorem z0d {H : Type} {enc : TypeId × Value → H} {P : Program} {f : Func} {s : ChangeSpec} (hl : laidOutB P = true) (hr : (f.params.toList.all fun t => P.readableRec t && decide (t < P.types.size)) = true) {tb : TypeId} (hres : f.resultTypes = #[tb]) (hub : P.underlying tb = some .bool)
  (hsv : s.vars = []) {W W' : World} {args : Array Value} {ds gs : List (DataW H)} {before : List MemPlace} (hW : DataW.Whole enc P f.params.toList s.vars false W args.toList ds gs before) (hb : Below W.heap.size W W')
  (hfn : (s.fn H (ds ++ gs)).results = [.lit (.bool true)] ∧ (s.fn H (ds ++ gs)).args = ds ∧ (s.fn H (ds ++ gs)).vars = []) : s.post enc P f false true false false W args (.bool true) W' := by
 have hW' := hW
 obtain ⟨p, q, hA, hV, rfl, hfz, hnd⟩ := hW
 have hlt := hW'.lt
 rw [hsv] at hV
 obtain ⟨rfl, rfl⟩ := trodVars_none hV
 refine ⟨ds, [], p ++ [], [], p, [], hW', ?_, ?_, ?_, Below.frame hb _, fun h => by cases h⟩
 ·rw [hfn.1, hres]
  exact trodAll_cons_mk (shut_bool hub _) trodAll_mk0
 ·rw [hfn.2.1]
  exact q9z hl hb _ _ _ _ hr hA (fun x hx => hlt x (by simpa using hx))
 ·rw [hfn.2.2, hsv]
  exact rfl
end Go.Proofs.YtbbfnpfkbbpjgaaGreat
namespace Go.Proofs.YtbbfnpfkbbpjgaaGreat
open Go.RowKit Go.Lib
set_option linter.unusedVariables false
set_option linter.unusedSimpArgs false
set_option maxRecDepth 100000
set_option maxHeartbeats 4000000
abbrev W32 := BitVec 32
/-- The number of a word. -/
def wv (x : W32) : Int := (x.toNat : Int)
theorem x6b (x : W32) : 0 ≤ wv x := by unfold wv; omega
theorem wv_lt (x : W32) : wv x < 4294967296 := by unfold wv; have := x.isLt; omega
theorem x9d (n : Nat) (h : n < 4294967296) : wv (BitVec.ofNat 32 n) = n := by unfold wv; rw [BitVec.toNat_ofNat, Nat.mod_eq_of_lt h]
/-- A rotation to the right. -/
def rotr (x : W32) (n : Nat) : W32 := (x >>> n) ||| (x <<< (32 - n))
theorem w_and (a b : W32) : bits .and .u32 (wv a) (wv b) = wv (a &&& b) := by
 unfold wv; rw [u32_and_nat _ _ a.isLt b.isLt, BitVec.toNat_and]
theorem w_or (a b : W32) : bits .or .u32 (wv a) (wv b) = wv (a ||| b) := by
 unfold wv; rw [u32_or_nat _ _ a.isLt b.isLt, BitVec.toNat_or]
theorem j6s (a b : W32) : bits .xor .u32 (wv a) (wv b) = wv (a ^^^ b) := by
 unfold wv; rw [u32_xor_nat _ _ a.isLt b.isLt, BitVec.toNat_xor]
theorem j9t (a b : W32) : IntKind.u32.wrap (wv a + wv b) = wv (a + b) := by
 unfold wv; rw [IntKind.wrap_u32', BitVec.toNat_add]; omega
theorem w_com (a : W32) : bits .xor .u32 (if IntKind.u32.signed = true then -1 else IntKind.u32.max) (wv a) = wv (~~~ a) := by
 have e : (if IntKind.u32.signed = true then (-1 : Int) else IntKind.u32.max) = wv (BitVec.allOnes 32) := by decide
 rw [e, j6s, BitVec.xor_comm, BitVec.xor_allOnes]
theorem x7k (a : W32) (n : Nat) : wv a / 2 ^ n = wv (a >>> n) := by
 unfold wv; rw [BitVec.toNat_ushiftRight, Nat.shiftRight_eq_div_pow]; simp
theorem x5y (a : W32) (n : Nat) : IntKind.u32.wrap (wv a * 2 ^ n) = wv (a <<< n) := by
 unfold wv; rw [IntKind.wrap_u32', BitVec.toNat_shiftLeft, Nat.shiftLeft_eq]; simp
theorem z1c (a : W32) : wv a * 256 % 4294967296 = wv (a <<< 8) := by
 have := x5y a 8
 rwa [IntKind.wrap_u32'] at this
theorem z1o (a : W32) : wv a * 65536 % 4294967296 = wv (a <<< 16) := by
 have := x5y a 16
 rwa [IntKind.wrap_u32'] at this
theorem z2p (a : W32) : wv a * 16777216 % 4294967296 = wv (a <<< 24) := by
 have := x5y a 24
 rwa [IntKind.wrap_u32'] at this
theorem z1f (a : W32) : wv a / 8 = wv (a >>> 3) := x7k a 3
theorem x4p (a : W32) : wv a / 1024 = wv (a >>> 10) := x7k a 10
theorem w_mod (a : W32) : wv a % 4294967296 = wv a := by have := x6b a; have := wv_lt a; omega
theorem z0a (n : Nat) (h1 : 1 ≤ n) (h2 : n < 32) : bits .and .u64 (IntKind.u64.wrap (-(n : Int))) 31 = ((32 - n : Nat) : Int) := by
 have e : IntKind.u64.wrap (-(n : Int)) = ((18446744073709551616 - n : Nat) : Int) := by rw [IntKind.wrap_u64]; omega
 rw [e, show (31 : Int) = ((31 : Nat) : Int) by rfl, u64_and_nat _ 31 (by omega) (by omega)]
 have : (18446744073709551616 - n) &&& 31 = 32 - n := by
  rw [show (31 : Nat) = 2 ^ 5 - 1 by rfl, Nat.and_two_pow_sub_one_eq_mod]; omega
 simp [this]
theorem z0e (x : W32) (n : Nat) (w : World) (h1 : 1 ≤ n) (h2 : n < 32) :
  Calls Tryz.prog 195 #[.int .u32 (wv x), .int .i64 (-(n : Int))] w fun e w' => e = .returned (.int .u32 (wv (rotr x n))) ∧ w = w' := by
 have hc := z0a n h1 h2
 have f1 : (0 : Int) ≤ ((32 - n : Nat) : Int) := by omega
 have f2 : ((32 - n : Nat) : Int) ≤ 32 := by omega
 have f3 : IntKind.u64.wrap (32 - ((32 - n : Nat) : Int)) = (n : Int) := by rw [IntKind.wrap_u64]; omega
 have f4 : (n : Int) ≤ 32 := by omega
 have f5 : (0 : Int) ≤ (n : Int) := by omega
 have e1 := x5y x (32 - n)
 have e2 := x7k x n
 have e3 := w_or (x <<< (32 - n)) (x >>> n)
 generalize hm : ((32 - n : Nat)) = m at *
 go_enter Tryz.func195, Tryz.ntmps195
 go_wp2_with fail
 go_ret
 refine ⟨?_, rfl⟩
 subst hm
 unfold rotr
 rw [BitVec.or_comm]
 rfl
theorem z0h (x : W32) (n : Nat) (w : World) (h1 : 1 ≤ n) (h2 : n < 32) :
  Calls Tryz.prog 189 #[.int .u32 (wv x), .int .i64 n] w fun e w' => e = .returned (.int .u32 (wv (rotr x n))) ∧ w = w' := by
 go_enter Tryz.func189, Tryz.ntmps189
 go_wp2_with fail
 refine (z0e x n w h1 h2).mono ?_
 rintro e w1 ⟨rfl, rfl⟩
 go_wp2_with fail
 go_ret
 exact ⟨rfl, rfl⟩
theorem x0k (x : W32) (n : Nat) (w : World) (h1 : 1 ≤ n) (h2 : n < 32) :
  Calls Tryz.prog 183 #[.int .u32 (wv x), .int .i64 n] w fun e w' => e = .returned (.int .u32 (wv (rotr x n))) ∧ Below w.heap.size w w' := by
 have f1 : (0 : Int) ≤ ((32 - n : Nat) : Int) := by omega
 have f2 : ((32 - n : Nat) : Int) ≤ 32 := by omega
 have f3 : 32 - (n : Int) = ((32 - n : Nat) : Int) := by omega
 have f4 : (n : Int) ≤ 32 := by omega
 have f5 : (0 : Int) ≤ (n : Int) := by omega
 have e1 := x5y x (32 - n)
 have e2 := x7k x n
 have e3 := w_or (x >>> n) (x <<< (32 - n))
 generalize hm : ((32 - n : Nat)) = m at *
 have hr : rotr x n = x >>> n ||| x <<< m := by subst hm; rfl
 rw [hr]
 clear hr hm
 go_enter Tryz.func183, Tryz.ntmps183
 go_wp2_with fail
 refine q0e (by kernel_rfl) (by kernel_rfl) ?_
 repeat ((go_big_quiet_want; go_big_quiet_op; go_big_quiet_on))
 refine wpQuiet_nil ?_
 intro w' hw'
 go_wp2_with fail
 go_ret
 exact ⟨rfl, hw'⟩
theorem q5l (x : W32) (m : Int) (n : Nat) (w : World) (hm : m = n) (h1 : 1 ≤ n) (h2 : n < 32) :
  Calls Tryz.prog 189 #[.int .u32 (wv x), .int .i64 m] w fun e w' => e = .returned (.int .u32 (wv (rotr x n))) ∧ w = w' := hm ▸ z0h x n w h1 h2
theorem q3e (x : W32) (m : Int) (n : Nat) (w : World) (hm : m = n) (h1 : 1 ≤ n) (h2 : n < 32) :
  Calls Tryz.prog 183 #[.int .u32 (wv x), .int .i64 m] w fun e w' => e = .returned (.int .u32 (wv (rotr x n))) ∧ Below w.heap.size w w' := hm ▸ x0k x n w h1 h2
theorem turn7 (x : W32) (w : World) : Calls Tryz.prog 189 #[.int .u32 (wv x), .int .i64 7] w fun e w' => e = .returned (.int .u32 (wv (rotr x 7))) ∧ w = w' := q5l x 7 7 w rfl (by decide) (by decide)
theorem refTurn7 (x : W32) (w : World) : Calls Tryz.prog 183 #[.int .u32 (wv x), .int .i64 7] w fun e w' => e = .returned (.int .u32 (wv (rotr x 7))) ∧ Below w.heap.size w w' := q3e x 7 7 w rfl (by decide) (by decide)
theorem turn18 (x : W32) (w : World) : Calls Tryz.prog 189 #[.int .u32 (wv x), .int .i64 18] w fun e w' => e = .returned (.int .u32 (wv (rotr x 18))) ∧ w = w' := q5l x 18 18 w rfl (by decide) (by decide)
theorem refTurn18 (x : W32) (w : World) : Calls Tryz.prog 183 #[.int .u32 (wv x), .int .i64 18] w fun e w' => e = .returned (.int .u32 (wv (rotr x 18))) ∧ Below w.heap.size w w' := q3e x 18 18 w rfl (by decide) (by decide)
theorem turn17 (x : W32) (w : World) : Calls Tryz.prog 189 #[.int .u32 (wv x), .int .i64 17] w fun e w' => e = .returned (.int .u32 (wv (rotr x 17))) ∧ w = w' := q5l x 17 17 w rfl (by decide) (by decide)
theorem refTurn17 (x : W32) (w : World) : Calls Tryz.prog 183 #[.int .u32 (wv x), .int .i64 17] w fun e w' => e = .returned (.int .u32 (wv (rotr x 17))) ∧ Below w.heap.size w w' := q3e x 17 17 w rfl (by decide) (by decide)
theorem turn19 (x : W32) (w : World) : Calls Tryz.prog 189 #[.int .u32 (wv x), .int .i64 19] w fun e w' => e = .returned (.int .u32 (wv (rotr x 19))) ∧ w = w' := q5l x 19 19 w rfl (by decide) (by decide)
theorem refTurn19 (x : W32) (w : World) : Calls Tryz.prog 183 #[.int .u32 (wv x), .int .i64 19] w fun e w' => e = .returned (.int .u32 (wv (rotr x 19))) ∧ Below w.heap.size w w' := q3e x 19 19 w rfl (by decide) (by decide)
theorem turn6 (x : W32) (w : World) : Calls Tryz.prog 189 #[.int .u32 (wv x), .int .i64 6] w fun e w' => e = .returned (.int .u32 (wv (rotr x 6))) ∧ w = w' := q5l x 6 6 w rfl (by decide) (by decide)
theorem refTurn6 (x : W32) (w : World) : Calls Tryz.prog 183 #[.int .u32 (wv x), .int .i64 6] w fun e w' => e = .returned (.int .u32 (wv (rotr x 6))) ∧ Below w.heap.size w w' := q3e x 6 6 w rfl (by decide) (by decide)
theorem turn11 (x : W32) (w : World) : Calls Tryz.prog 189 #[.int .u32 (wv x), .int .i64 11] w fun e w' => e = .returned (.int .u32 (wv (rotr x 11))) ∧ w = w' := q5l x 11 11 w rfl (by decide) (by decide)
theorem refTurn11 (x : W32) (w : World) : Calls Tryz.prog 183 #[.int .u32 (wv x), .int .i64 11] w fun e w' => e = .returned (.int .u32 (wv (rotr x 11))) ∧ Below w.heap.size w w' := q3e x 11 11 w rfl (by decide) (by decide)
theorem turn25 (x : W32) (w : World) : Calls Tryz.prog 189 #[.int .u32 (wv x), .int .i64 25] w fun e w' => e = .returned (.int .u32 (wv (rotr x 25))) ∧ w = w' := q5l x 25 25 w rfl (by decide) (by decide)
theorem refTurn25 (x : W32) (w : World) : Calls Tryz.prog 183 #[.int .u32 (wv x), .int .i64 25] w fun e w' => e = .returned (.int .u32 (wv (rotr x 25))) ∧ Below w.heap.size w w' := q3e x 25 25 w rfl (by decide) (by decide)
theorem turn2 (x : W32) (w : World) : Calls Tryz.prog 189 #[.int .u32 (wv x), .int .i64 2] w fun e w' => e = .returned (.int .u32 (wv (rotr x 2))) ∧ w = w' := q5l x 2 2 w rfl (by decide) (by decide)
theorem refTurn2 (x : W32) (w : World) : Calls Tryz.prog 183 #[.int .u32 (wv x), .int .i64 2] w fun e w' => e = .returned (.int .u32 (wv (rotr x 2))) ∧ Below w.heap.size w w' := q3e x 2 2 w rfl (by decide) (by decide)
theorem turn13 (x : W32) (w : World) : Calls Tryz.prog 189 #[.int .u32 (wv x), .int .i64 13] w fun e w' => e = .returned (.int .u32 (wv (rotr x 13))) ∧ w = w' := q5l x 13 13 w rfl (by decide) (by decide)
theorem refTurn13 (x : W32) (w : World) : Calls Tryz.prog 183 #[.int .u32 (wv x), .int .i64 13] w fun e w' => e = .returned (.int .u32 (wv (rotr x 13))) ∧ Below w.heap.size w w' := q3e x 13 13 w rfl (by decide) (by decide)
theorem turn22 (x : W32) (w : World) : Calls Tryz.prog 189 #[.int .u32 (wv x), .int .i64 22] w fun e w' => e = .returned (.int .u32 (wv (rotr x 22))) ∧ w = w' := q5l x 22 22 w rfl (by decide) (by decide)
theorem refTurn22 (x : W32) (w : World) : Calls Tryz.prog 183 #[.int .u32 (wv x), .int .i64 22] w fun e w' => e = .returned (.int .u32 (wv (rotr x 22))) ∧ Below w.heap.size w w' := q3e x 22 22 w rfl (by decide) (by decide)
/-! ### The schedule. f p is byte p of the block as a word. -/
def part (f : Nat → W32) (k : Nat) : Nat → W32
 | 0 => 0
 | j + 1 => (part f k j) <<< 8 ||| f (4 * k + j)
def fw (f : Nat → W32) (k : Nat) : List W32 := (List.range k).map fun t => part f t 4
theorem q3b (f : Nat → W32) (k : Nat) : (fw f k).length = k := by simp [fw]
theorem z2e (f : Nat → W32) (k : Nat) : fw f (k + 1) = fw f k ++ [part f k 4] := by simp [fw, List.range_succ]
def sg0 (x : W32) : W32 := rotr x 7 ^^^ rotr x 18 ^^^ x >>> 3
def sg1 (x : W32) : W32 := rotr x 17 ^^^ rotr x 19 ^^^ x >>> 10
/-- The word behind t words. -/
def nextW (ws : List W32) (t : Nat) : W32 := ws.getD (t - 16) 0 + ws.getD (t - 7) 0 + sg0 (ws.getD (t - 15) 0) + sg1 (ws.getD (t - 2) 0)
def grow (ws : List W32) : Nat → List W32
 | 0 => ws
 | n + 1 => grow ws n ++ [nextW (grow ws n) (ws.length + n)]
theorem q6a (ws : List W32) (n : Nat) : (grow ws n).length = ws.length + n := by
 induction n with
 | zero => rfl
 | succ n ih => simp [grow, ih]; omega
def sched (f : Nat → W32) : List W32 := grow (fw f 16) 48
theorem q8a (f : Nat → W32) : (sched f).length = 64 := by simp [sched, q6a, q3b]
/-- A row that is filled from the left. -/
def fill (l : List W32) (n : Nat) : List W32 := l ++ List.replicate (n - l.length) 0
theorem q8z (l : List W32) (n : Nat) (h : l.length ≤ n) : (fill l n).length = n := by simp [fill]; omega
theorem j7d (l : List W32) (n i : Nat) (h : i < l.length) : (fill l n).getD i 0 = l.getD i 0 := by
 simp only [fill, List.getD_eq_getElem?_getD]
 rw [List.getElem?_append_left h]
theorem q9r (l : List W32) (n : Nat) (h : l.length < n) (x : W32) : (fill l n).set l.length x = fill (l ++ [x]) n := by
 unfold fill
 rw [List.set_append_right _ _ (Nat.le_refl _), Nat.sub_self]
 obtain ⟨m, hm⟩ : ∃ m, n - l.length = m + 1 := ⟨n - l.length - 1, by omega⟩
 rw [hm, List.replicate_succ, List.set_cons_zero, List.append_assoc]
 simp only [List.length_append, List.length_cons, List.length_nil, List.singleton_append]
 congr 3
 omega
theorem x7c (l : List W32) : fill l l.length = l := by simp [fill]
theorem x4t (l : List W32) (x : W32) (n : Nat) : (fill (l ++ [x]) n).getD l.length 0 = x := by
 rw [j7d _ _ _ (by simp)]; simp
theorem x5g (l : List W32) (n : Nat) (h : l.length < n) : fill (l ++ [0]) n = fill l n := by
 rw [← q9r l n h]
 unfold fill
 rw [List.set_append_right _ _ (Nat.le_refl _), Nat.sub_self]
 obtain ⟨m, hm⟩ : ∃ m, n - l.length = m + 1 := ⟨n - l.length - 1, by omega⟩
 rw [hm, List.replicate_succ, List.set_cons_zero]
theorem x5v (l : List W32) (x y : W32) (n : Nat) (h : l.length < n) : (fill (l ++ [x]) n).set l.length y = fill (l ++ [y]) n := by
 rw [← q9r l n h x, List.set_set, q9r l n h]
/-! ### The rounds -/
structure V8 where (a b c d e f g h : W32)
def V8.list (v : V8) : List W32 := [v.a, v.b, v.c, v.d, v.e, v.f, v.g, v.h]
def bs0 (a : W32) : W32 := rotr a 2 ^^^ rotr a 13 ^^^ rotr a 22
def bs1 (e : W32) : W32 := rotr e 6 ^^^ rotr e 11 ^^^ rotr e 25
def ch (e f g : W32) : W32 := (e &&& f) ^^^ (~~~ e &&& g)
def maj (a b c : W32) : W32 := ((a &&& b) ^^^ (a &&& c)) ^^^ (b &&& c)
def rx (v : V8) (k w : W32) : W32 := v.h + bs1 v.e + ch v.e v.f v.g + k + w
def ry (v : V8) : W32 := bs0 v.a + maj v.a v.b v.c
def round1 (v : V8) (k w : W32) : V8 := ⟨rx v k w + ry v, v.a, v.b, v.c, v.d + rx v k w, v.e, v.f, v.g⟩
def rounds (v : V8) (ks ws : List W32) : Nat → V8
 | 0 => v
 | n + 1 => round1 (rounds v ks ws n) (ks.getD n 0) (ws.getD n 0)
def V8.plus (v u : V8) : V8 := ⟨v.a + u.a, v.b + u.b, v.c + u.c, v.d + u.d, v.e + u.e, v.f + u.f, v.g + u.g, v.h + u.h⟩
def rootsL : List W32 := [
 0x428a2f98, 0x71374491, 0xb5c0fbcf, 0xe9b5dba5, 0x3956c25b, 0x59f111f1, 0x923f82a4, 0xab1c5ed5,
 0xd807aa98, 0x12835b01, 0x243185be, 0x550c7dc3, 0x72be5d74, 0x80deb1fe, 0x9bdc06a7, 0xc19bf174,
 0xe49b69c1, 0xefbe4786, 0x0fc19dc6, 0x240ca1cc, 0x2de92c6f, 0x4a7484aa, 0x5cb0a9dc, 0x76f988da,
 0x983e5152, 0xa831c66d, 0xb00327c8, 0xbf597fc7, 0xc6e00bf3, 0xd5a79147, 0x06ca6351, 0x14292967,
 0x27b70a85, 0x2e1b2138, 0x4d2c6dfc, 0x53380d13, 0x650a7354, 0x766a0abb, 0x81c2c92e, 0x92722c85,
 0xa2bfe8a1, 0xa81a664b, 0xc24b8b70, 0xc76c51a3, 0xd192e819, 0xd6990624, 0xf40e3585, 0x106aa070,
 0x19a4c116, 0x1e376c08, 0x2748774c, 0x34b0bcb5, 0x391c0cb3, 0x4ed8aa4a, 0x5b9cca4f, 0x682e6ff3,
 0x748f82ee, 0x78a5636f, 0x84c87814, 0x8cc70208, 0x90befffa, 0xa4506ceb, 0xbef9a3f7, 0xc67178f2]
def startV : V8 := ⟨0x6a09e667, 0xbb67ae85, 0x3c6ef372, 0xa54ff53a, 0x510e527f, 0x9b05688c, 0x1f83d9ab, 0x5be0cd19⟩
def goesV (v : V8) (ws : List W32) : V8 := v.plus (rounds v rootsL ws 64)
/-! ### The sum -/
def noughts (n : Nat) : Nat := (119 - n % 64) % 64
def eightL (n : Nat) : List UInt8 := (List.range 8).map fun i => UInt8.ofNat (n / 2 ^ (56 - 8 * i) % 256)
def padL (s : List UInt8) : List UInt8 := s ++ 128 :: (List.replicate (noughts s.length) 0 ++ eightL (s.length * 8))
def byteW (l : List UInt8) (at_ p : Nat) : W32 := BitVec.ofNat 32 (l.getD (at_ + p) 0).toNat
def states (l : List UInt8) : Nat → V8
 | 0 => startV
 | n + 1 => goesV (states l n) (sched (byteW l (64 * n)))
def outB (v : V8) (i : Nat) : UInt8 := UInt8.ofNat (((v.list.getD (i / 4) 0) >>> (24 - i % 4 * 8)).toNat % 256)
def outL (v : V8) : List UInt8 := (List.range 32).map (outB v)
/-- The sum of a text. -/
def sha (s : List UInt8) : List UInt8 := outL (states (padL s) ((padL s).length / 64))
theorem j0p (s : List UInt8) : (sha s).length = 32 := by simp [sha, outL]
theorem q9c (s : List UInt8) : (padL s).length = s.length + 9 + noughts s.length := by simp [padL, eightL]; omega
theorem j9z (s : List UInt8) : (padL s).length % 64 = 0 := by rw [q9c, noughts]; omega
/-! ### The same by other words -/
theorem ch_or (e f g : W32) : (e &&& f) ||| ((e ^^^ 0xffffffff) &&& g) = ch e f g := by
 unfold ch
 apply BitVec.eq_of_getLsbD_eq
 intro i hi
 have : (0xffffffff : W32) = BitVec.allOnes 32 := by decide
 rw [this]
 simp only [BitVec.getLsbD_or, BitVec.getLsbD_and, BitVec.getLsbD_xor, BitVec.getLsbD_not, BitVec.getLsbD_allOnes, hi, decide_true, Bool.true_and]
 cases e.getLsbD i <;> cases f.getLsbD i <;> cases g.getLsbD i <;> rfl
theorem maj_or (a b c : W32) : (a &&& b) ||| (a &&& c) ||| (b &&& c) = maj a b c := by
 unfold maj
 apply BitVec.eq_of_getLsbD_eq
 intro i hi
 simp only [BitVec.getLsbD_or, BitVec.getLsbD_and, BitVec.getLsbD_xor]
 cases a.getLsbD i <;> cases b.getLsbD i <;> cases c.getLsbD i <;> rfl
theorem z1y (f : Nat → W32) (k : Nat) : f (4 * k) <<< 24 ||| f (4 * k + 1) <<< 16 ||| f (4 * k + 2) <<< 8 ||| f (4 * k + 3) = part f k 4 := by
 simp only [part, BitVec.shiftLeft_or_distrib, Nat.add_zero]
 simp only [← BitVec.shiftLeft_add]
 simp
theorem x4k (ws : List W32) (t : Nat) : sg1 (ws.getD (t - 2) 0) + ws.getD (t - 7) 0 + sg0 (ws.getD (t - 15) 0) + ws.getD (t - 16) 0 = nextW ws t := by
 unfold nextW
 ac_rfl
/-! ### Known sums -/
theorem hide {p : Prop} (h : p) : Hid p := h
theorem later {a b c : World} (h : Below a.heap.size a b) (k : Below b.heap.size b c) : Below a.heap.size a c := h.trans (k.mono h.size)
theorem below2 (w : World) (o1 o2 : Obj) : Below w.heap.size w ((w.alloc o1).alloc o2) := ((Below.refl _ _).alloc (Nat.le_refl _) _).alloc (by simp) _
/-- Block b of w holds the values cs, of type t. -/
def Arr (w : World) (b : Nat) (t : TypeId) (cs : List Value) : Prop := w.heap[b]? = some (.cells cs.toArray t (0, 0))
section
variable {w w' : World} {b : Nat} {t : TypeId} {cs : List Value}
theorem Arr.cell (h : Arr w b t cs) {i : Nat} (hi : i < cs.length) : w.cell? ⟨b, i, none⟩ = some (cs.getD i undef) := by
 rw [cell_of_row w b i cs.toArray t (0, 0) h]
 simp [hi]
theorem Arr.thaw (h : Arr w b t cs) (i : Nat) : w.frozen? ⟨b, i, none⟩ = false := frozen_of_row w b i cs.toArray t h
theorem Arr.set (h : Arr w b t cs) (i : Nat) (v : Value) : Arr (w.setCell ⟨b, i, none⟩ v) b t (cs.set i v) := by
 unfold Arr
 rw [heap_setCell_same w b i cs.toArray t v h]
 simp
theorem Arr.other (h : Arr w b t cs) (a : Addr) (v : Value) (hne : b ≠ a.block) : Arr (w.setCell a v) b t cs := by
 unfold Arr
 rw [heap_setCell_other w a b v hne]
 exact h
theorem Arr.lt (h : Arr w b t cs) : b < w.heap.size := by
 unfold Arr at h
 exact (Array.getElem?_eq_some_iff.1 h).1
theorem Arr.later (h : Arr w b t cs) (hb : Below w.heap.size w w') : Arr w' b t cs := by
 unfold Arr
 rw [hb.block b h.lt]
 exact h
theorem Arr.below (h : Arr w b t cs) {B : Nat} (hb : Below B w w') (hB : b < B) : Arr w' b t cs := by
 unfold Arr
 rw [hb.block b hB]
 exact h
theorem Arr.new (w : World) (cs : List Value) (t : TypeId) : Arr (w.alloc (.cells cs.toArray t)) w.heap.size t cs := by
 unfold Arr
 show (w.heap.push _)[w.heap.size]? = _
 simp
theorem Arr.alloc (h : Arr w b t cs) (o : Obj) : Arr (w.alloc o) b t cs := h.later ((Below.refl _ _).alloc (Nat.le_refl _) _)
theorem Arr.load {P : Program} (h : Arr w b t cs) (ty : TypeId) (d : TypeDesc) (hu : P.underlying ty = some d) (hd : (match d with | .struct _ | .array _ _ => true | _ => false) = true) (hi : (P.info? ty).map (·.size) = some cs.length) :
  (loadVar ty ⟨b, 0, none⟩).run P w = .ok (.agg cs.toArray) w :=
 run_loadVar_row w b t ty cs.toArray (0, 0) d h hu hd (by simpa using hi)
theorem Arr.row (h : Arr w b t cs) (cs' : List Value) : Arr (w.setRow b cs'.toArray) b t cs' := setRow_heap w b cs.toArray cs'.toArray t (0, 0) h
theorem Arr.row_other (h : Arr w b t cs) (g : Nat) (a : Array Value) (hne : b ≠ g) : Arr (w.setRow g a) b t cs := by
 unfold Arr; rw [setRow_other w g b a hne]; exact h
end
theorem q0p {B : Nat} {a w : World} (h : Below B a w) {b : Nat} (hB : B ≤ b) (c : Array Value) : Below B a (w.setRow b c) :=
 h.trans ⟨rfl, rfl, rfl, by simp, fun k hk => setRow_other w b k c (by omega)⟩
theorem Arr.new2 (w : World) (o : Obj) (cs : List Value) (t : TypeId) : Arr ((w.alloc o).alloc (.cells cs.toArray t)) (w.heap.size + 1) t cs := by
 have := Arr.new (w.alloc o) cs t
 have e : (w.alloc o).heap.size = w.heap.size + 1 := by simp
 rwa [e] at this
/-- Words as values. -/
def wvs (l : List W32) : List Value := l.map fun x => .int .u32 (wv x)
theorem q8c (l : List W32) : (wvs l).all (·.oneCell') = true := by simp only [wvs, List.all_map, List.all_eq_true]; intros; rfl
theorem q8o (l : List W32) : (wvs l).length = l.length := by simp [wvs]
theorem x1d (l : List W32) (i : Nat) (h : i < l.length) : (wvs l).getD i undef = .int .u32 (wv (l.getD i 0)) := by simp [wvs, h]
theorem z2u (l : List W32) (i : Nat) (x : W32) : (wvs l).set i (.int .u32 (wv x)) = wvs (l.set i x) := by simp [wvs, List.map_set]
def Words (w : World) (b : Nat) (t : TypeId) (l : List W32) : Prop := Arr w b t (wvs l)
theorem Words.cell {w : World} {b : Nat} {t : TypeId} {l : List W32} (h : Words w b t l) {i : Nat} (hi : i < l.length) : w.cell? ⟨b, i, none⟩ = some (.int .u32 (wv (l.getD i 0))) := by
 rw [Arr.cell h (by rw [q8o]; exact hi), x1d l i hi]
theorem Words.set {w : World} {b : Nat} {t : TypeId} {l : List W32} (h : Words w b t l) (i : Nat) (x : W32) : Words (w.setCell ⟨b, i, none⟩ (.int .u32 (wv x))) b t (l.set i x) := by
 unfold Words; rw [← z2u]; exact Arr.set h i _
def sByte (s : ByteArray) (p : Nat) : W32 := BitVec.ofNat 32 (s.data.toList.getD p 0).toNat
theorem z0f (s : ByteArray) (p : Nat) (h : p < s.size) : ((s[p]'h).toNat : Int) = wv (sByte s p) := by
 have hl : p < s.data.toList.length := by simpa using h
 unfold sByte
 rw [List.getD_eq_getElem?_getD, List.getElem?_eq_getElem hl, Option.getD_some]
 have e : s.data.toList[p] = s[p] := by simp; rfl
 rw [e, x9d _ (by have := (s[p]).toNat_lt; omega)]
abbrev zero64 : Obj := .cells (wvs (fill [] 64)).toArray 192
theorem x5p (s : ByteArray) (w : World) (hs : s.size = 64) :
    Calls Tryz.prog 171 #[.string s] w fun e w' => e = .returned (.agg (wvs (sched (sByte s))).toArray) ∧ Below w.heap.size w w' := by
  go_enter Tryz.func171, Tryz.ntmps171
  go_wp2_with fail
  show Code.wp _ _ _ _ ((w.alloc zero64).alloc zero64)
  have r0 : Words ((w.alloc zero64).alloc zero64) w.heap.size 192 (fill [] 64) := (Arr.new w _ 192).alloc _
  have r1 : Words ((w.alloc zero64).alloc zero64) (w.heap.size + 1) 192 (fill [] 64) := Arr.new2 _ _ _ _
  have hb := below2 w zero64 zero64
  generalize (w.alloc zero64).alloc zero64 = W at *
  go_loopw [9] (fun i wr => ∃ k : Nat, k ≤ 16 ∧ i = .int .i64 k ∧ Words wr w.heap.size 192 (fill [] 64) ∧ Words wr (w.heap.size + 1) 192 (fill (fw (sByte s) k) 64) ∧ Below w.heap.size w wr) (fun i _ => 16 - (RowKit.intOf i).toNat)
  case atStart => exact ⟨0, by omega, rfl, r0, r1, hb⟩
  case round =>
    obtain ⟨k, hk, rfl, q0, q1, hbr⟩ := hrel
    by_cases hlt : k < 16
    · go_wp2_with fail
      have q1' : Words wr (w.heap.size + 1) 192 (fill (fw (sByte s) k ++ [part (sByte s) k 0]) 64) := by
        have := x5g (fw (sByte s) k) 64 (by rw [q3b]; omega)
        rw [show part (sByte s) k 0 = 0 from rfl, this]; exact q1
      go_loopw [12] (fun i wr => ∃ j : Nat, j ≤ 4 ∧ i = .int .i64 j ∧ Words wr w.heap.size 192 (fill [] 64) ∧ Words wr (w.heap.size + 1) 192 (fill (fw (sByte s) k ++ [part (sByte s) k j]) 64) ∧ Below w.heap.size w wr) (fun i _ => 4 - (RowKit.intOf i).toNat)
      case atStart => exact ⟨0, by omega, rfl, q0, q1', hbr⟩
      case round =>
        obtain ⟨j, hj, rfl, p0, p1, hbr2⟩ := hrel
        by_cases hlt2 : j < 4
        · have c1 : wr.cell? ⟨w.heap.size + 1, k, none⟩ = some (.int .u32 (wv (part (sByte s) k j))) := by
            have := p1.cell (i := k) (by rw [q8z _ _ (by simp [q3b]; omega)]; omega)
            rw [this]
            have := x4t (fw (sByte s) k) (part (sByte s) k j) 64
            rw [q3b] at this
            rw [this]
          have f1 := Since.cell c1
          have i1 : (k : Int) < 64 := by omega
          have i2 : 4 * (k : Int) + (j : Int) < 64 := by omega
          have i3 : 0 ≤ 4 * (k : Int) + (j : Int) := by omega
          have e1 : ∀ h : 4 * k + j < s.size, ((s[4 * k + j]'h).toNat : Int) = wv (sByte s (4 * k + j)) := fun h => z0f s _ h
          have e2 : wv (part (sByte s) k j) * (256 : Int) % (4294967296 : Int) = wv (part (sByte s) k j <<< 8) := z1c _
          have e4 : wv (sByte s (4 * k + j)) % 4294967296 = wv (sByte s (4 * k + j)) := w_mod _
          have e3 := w_or (part (sByte s) k j <<< 8) (sByte s (4 * k + j))
          go_wp2_with fail
          refine q0n 14 (by kernel_rfl) (by kernel_rfl) ?_
          simp only [List.take_succ_cons, List.take_zero]
          repeat ((go_big_quiet_want; go_big_quiet_op; go_big_quiet_on))
          refine wpQuiet_nil ?_
          intro w' hw'
          simp only [List.drop_succ_cons, List.drop_zero]
          have p0' := Arr.later p0 hw'
          have p1' : Words w' (w.heap.size + 1) 192 _ := Arr.later p1 hw'
          have c2 := cell_later hw' c1
          have t2 := Arr.thaw p1' k
          clear f1 c1
          go_wp2_with fail
          go_roundw
          case rel =>
            refine ⟨j + 1, by omega, by simp, Arr.other p0' _ _ (by simp), ?_, (hbr2.trans (hw'.mono hbr2.size)).setCell (by simp) _⟩
            have := Words.set p1' k (part (sByte s) k j <<< 8 ||| sByte s (4 * k + j))
            have e := x5v (fw (sByte s) k) (part (sByte s) k j) (part (sByte s) k j <<< 8 ||| sByte s (4 * k + j)) 64 (by rw [q3b]; omega)
            rw [q3b] at e
            rw [e] at this
            exact this
          case measure => simp [RowKit.intOf]; omega
        · go_wp2_with fail
          have hj4 : j = 4 := by omega
          subst hj4
          go_roundw
          case rel =>
            refine ⟨k + 1, by omega, by simp, p0, ?_, hbr2⟩
            rw [z2e]; exact p1
          case measure => simp [RowKit.intOf]; omega
    · have hk16 : k = 16 := by omega
      subst hk16
      have q1' : Words wr (w.heap.size + 1) 192 (fill (grow (fw (sByte s) 16) 0) 64) := q1
      go_wp2_with fail
      clear q1
      go_loopw [6] (fun i wr => ∃ t : Nat, 16 ≤ t ∧ t ≤ 64 ∧ i = .int .i64 t ∧ Words wr w.heap.size 192 (fill [] 64) ∧ Words wr (w.heap.size + 1) 192 (fill (grow (fw (sByte s) 16) (t - 16)) 64) ∧ Below w.heap.size w wr) (fun i _ => 64 - (RowKit.intOf i).toNat)
      case atStart => exact ⟨16, by omega, by omega, rfl, q0, q1', hbr⟩
      case round =>
        obtain ⟨t, ht1, ht2, rfl, p0, p1, hbr2⟩ := hrel
        by_cases hlt3 : t < 64
        · have HL : (grow (fw (sByte s) 16) (t - 16)).length = t := by rw [q6a, q3b]; omega
          have HN : nextW (grow (fw (sByte s) 16) (t - 16)) t = nextW (grow (fw (sByte s) 16) (t - 16)) ((fw (sByte s) 16).length + (t - 16)) := by rw [q3b]; congr 1; omega
          have HG : grow (fw (sByte s) 16) (t + 1 - 16) = grow (fw (sByte s) 16) (t - 16) ++ [nextW (grow (fw (sByte s) 16) (t - 16)) t] := by
            rw [HN, show t + 1 - 16 = (t - 16) + 1 by omega]; rfl
          replace HN := hide HN
          replace HG := hide HG
          generalize grow (fw (sByte s) 16) (t - 16) = ws at *
          have hcell : ∀ i, i < t → wr.cell? ⟨w.heap.size + 1, i, none⟩ = some (.int .u32 (wv (ws.getD i 0))) := fun i hi => by
            rw [p1.cell (i := i) (by rw [q8z _ _ (by omega)]; omega), j7d _ _ _ (by omega)]
          have c1 := hcell (t - 15) (by omega)
          have c2 := hcell (t - 2) (by omega)
          have c3 := hcell (t - 16) (by omega)
          have c4 := hcell (t - 7) (by omega)
          have HX : Hid (ws.getD (t - 16) 0 + ws.getD (t - 7) 0 + sg0 (ws.getD (t - 15) 0) + sg1 (ws.getD (t - 2) 0) = nextW ws t) := rfl
          replace HL := hide HL
          clear hcell
          generalize ws.getD (t - 15) 0 = x15 at *
          generalize ws.getD (t - 2) 0 = x2 at *
          generalize ws.getD (t - 16) 0 = x16 at *
          generalize ws.getD (t - 7) 0 = x7 at *
          have f1 := Since.cell c1
          have f2 := Since.cell c2
          have f3 := Since.cell c3
          have f4 := Since.cell c4
          have i0 : (t : Int) < 64 := by omega
          have i1 : 0 ≤ (t : Int) - 15 := by omega
          have i2 : 0 ≤ (t : Int) - 2 := by omega
          have i3 : 0 ≤ (t : Int) - 16 := by omega
          have i4 : 0 ≤ (t : Int) - 7 := by omega
          have j1 : (t : Int) - 15 < 64 := by omega
          have j2 : (t : Int) - 2 < 64 := by omega
          have j3 : (t : Int) - 16 < 64 := by omega
          have j4 : (t : Int) - 7 < 64 := by omega
          have n1 : ((t : Int) - 15).toNat = t - 15 := by omega
          have n2 : ((t : Int) - 2).toNat = t - 2 := by omega
          have n3 : ((t : Int) - 16).toNat = t - 16 := by omega
          have n4 : ((t : Int) - 7).toNat = t - 7 := by omega
          go_wp2_with fail
          refine q0e (by kernel_rfl) (by kernel_rfl) ?_
          repeat ((go_big_quiet_want; go_big_quiet_op; go_big_quiet_on))
          refine wpQuiet_nil ?_
          intro w1 hw1
          clear f1 f2 f3 f4
          replace c3 := cell_later hw1 c3
          replace c4 := cell_later hw1 c4
          have f3 := Since.cell c3
          have f4 := Since.cell c4
          have a1 := j9t x16 x7
          have a2 := j6s (rotr x15 7) (rotr x15 18)
          have a3 : wv x15 / (8 : Int) = _ := z1f x15
          have a4 := j6s (rotr x15 7 ^^^ rotr x15 18) (x15 >>> 3)
          have a5 := j9t (x16 + x7) (sg0 x15)
          have a6 := j6s (rotr x2 17) (rotr x2 19)
          have a7 : wv x2 / (1024 : Int) = _ := x4p x2
          have a8 := j6s (rotr x2 17 ^^^ rotr x2 19) (x2 >>> 10)
          have a9 := j9t (x16 + x7 + sg0 x15) (sg1 x2)
          rw [show sg0 x15 = rotr x15 7 ^^^ rotr x15 18 ^^^ x15 >>> 3 from rfl] at *
          rw [show sg1 x2 = rotr x2 17 ^^^ rotr x2 19 ^^^ x2 >>> 10 from rfl] at *
          go_wp2_with fail
          refine q0n 29 (by kernel_rfl) (by kernel_rfl) ?_
          simp only [List.take_succ_cons, List.take_zero]
          repeat ((go_big_quiet_want; go_big_quiet_op; go_big_quiet_on))
          go_big_quiet_want; go_big_quiet_op
          refine ⟨_, fun _ => q5g (turn7 _ _), ?_⟩
          go_big_quiet_on
          repeat ((go_big_quiet_want; go_big_quiet_op; go_big_quiet_on))
          go_big_quiet_want; go_big_quiet_op
          refine ⟨_, fun _ => q5g (turn18 _ _), ?_⟩
          go_big_quiet_on
          repeat ((go_big_quiet_want; go_big_quiet_op; go_big_quiet_on))
          go_big_quiet_want; go_big_quiet_op
          refine ⟨_, fun _ => q5g (turn17 _ _), ?_⟩
          go_big_quiet_on
          repeat ((go_big_quiet_want; go_big_quiet_op; go_big_quiet_on))
          go_big_quiet_want; go_big_quiet_op
          refine ⟨_, fun _ => q5g (turn19 _ _), ?_⟩
          go_big_quiet_on
          repeat ((go_big_quiet_want; go_big_quiet_op; go_big_quiet_on))
          refine wpQuiet_nil ?_
          intro w2 hw2
          simp only [List.drop_succ_cons, List.drop_zero]
          have hw := later hw1 hw2
          have p0' := Arr.later p0 hw
          have p1' : Words w2 (w.heap.size + 1) 192 _ := Arr.later p1 hw
          have HL' := HL.out
          have c5 := p1'.cell (i := t) (by rw [q8z _ _ (by omega)]; omega)
          have t2 := Arr.thaw p1' t
          replace HL' := hide HL'
          clear f3 f4 c1 c2 c3 c4
          go_wp2_with fail
          go_roundw
          case rel =>
            refine ⟨t + 1, by omega, by omega, by simp, Arr.other p0' _ _ (by simp), ?_, (hbr2.trans (hw.mono hbr2.size)).setCell (by simp) _⟩
            rw [HG.out, ← HX.out]
            have e := q9r ws 64 (by rw [HL.out]; omega) (x16 + x7 + (rotr x15 7 ^^^ rotr x15 18 ^^^ x15 >>> 3) + (rotr x2 17 ^^^ rotr x2 19 ^^^ x2 >>> 10))
            rw [HL.out] at e
            rw [← e]
            exact Words.set p1' t _
          case measure => simp [RowKit.intOf]; omega
        · have ht64 : t = 64 := by omega
          subst ht64
          have HS : Hid (fill (grow (fw (sByte s) 16) (64 - 16)) 64 = sched (sByte s)) := by
            unfold Hid sched
            have := x7c (grow (fw (sByte s) 16) 48)
            rw [show (grow (fw (sByte s) 16) 48).length = 64 from by rw [q6a, q3b]] at this
            exact this
          rw [HS.out] at p1
          clear HS q1'
          have HL := hide (q8a (sByte s))
          obtain ⟨ws, hws⟩ : ∃ ws, ws = sched (sByte s) := ⟨_, rfl⟩
          rw [← hws] at p1 HL
          have HWS := hide hws
          clear hws
          have hlv : (wvs ws).length = 64 := by rw [q8o]; exact HL.out
          have hbe := q0p hbr2 (Nat.le_refl _) (wvs ws).toArray
          have hone := q8c ws
          obtain ⟨vs, hvs⟩ : ∃ vs, vs = wvs ws := ⟨_, rfl⟩
          have P1 : Arr wr (w.heap.size + 1) 192 (wvs ws) := p1
          have hrow := Arr.row p0 (wvs ws)
          rw [← hvs] at P1 hbe hlv hrow hone
          have HVS := hide hvs
          clear hvs p1
          have hi : Hid ((Tryz.prog.info? 192).map (·.size) = some vs.toArray.size) := by rw [show vs.toArray.size = 64 by simp [hlv]]; unfold Hid; kernel_rfl
          have HONE := hide (show vs.toArray.all (·.oneCell') = true by simpa using hone)
          have HSZ := hide (show (wvs (fill [] 64)).toArray.size = vs.toArray.size by simp [hlv, wvs, fill])
          have HP1 := hide P1
          have HP0 := hide p0
          clear hlv hone P1 p0
          go_wp2_with (first | (refine wpList_load_row rfl 192 (.tmp 3) rfl (w.heap.size + 1) rfl 192 vs.toArray (0, 0) _ HP1.out Tryz.underlying192 rfl hi.out ?_) | (refine wpList_store_row rfl 192 (.tmp 2) (.tmp 72) rfl w.heap.size vs.toArray rfl rfl 192 _ HP0.out hi.out HSZ.out HONE.out ?_))
          refine bodyPost_ret (v := .agg vs.toArray) (results_cell_row rfl _ _ w.heap.size 192 _ (0, 0) _ rfl hrow Tryz.underlying192 rfl hi.out) rfl ⟨?_, hbe⟩
          rw [HVS.out, HWS.out]
def V8.val (v : V8) : Value := .agg #[.int .u32 (wv v.a), .int .u32 (wv v.b), .int .u32 (wv v.c), .int .u32 (wv v.d), .int .u32 (wv v.e), .int .u32 (wv v.f), .int .u32 (wv v.g), .int .u32 (wv v.h)]
/-- The first i words of u, then those of v. -/
def mixL (u v : V8) (i : Nat) : List W32 := u.list.take i ++ v.list.drop i
theorem x8h (v : V8) (rb wb : Nat) (ws : List W32) (w : World) (hl : ws.length = 64) (hr : Words w rb 192 rootsL) (hw : Words w wb 192 ws) :
  Calls Tryz.prog 172 #[v.val, .pointer (some ⟨rb, 0, none⟩), .pointer (some ⟨wb, 0, none⟩)] w fun e w' => e = .returned (goesV v ws).val ∧ Below w.heap.size w w' := by
 unfold V8.val
 obtain ⟨R, hR⟩ : ∃ R : V8, R = goesV v ws := ⟨_, rfl⟩
 rw [← hR]
 have HG : Hid (R = v.plus (rounds v rootsL ws 64)) := hR
 have HL := hide hl
 clear hR hl
 have L1 : ∀ a b, bits .xor .u32 (wv a) (wv b) = wv (a ^^^ b) := j6s
 have L2 : ∀ a b, bits .and .u32 (wv a) (wv b) = wv (a &&& b) := w_and
 have L3 : ∀ a b, IntKind.u32.wrap (wv a + wv b) = wv (a + b) := j9t
 have L4 : ∀ a, bits .xor .u32 (if IntKind.u32.signed = true then -1 else IntKind.u32.max) (wv a) = wv (~~~ a) := w_com
 go_enter Tryz.func172, Tryz.ntmps172
 go_wp2_with fail
 show Code.wp _ _ _ _ ((w.alloc (.cells (wvs v.list).toArray 190)).alloc (.cells (wvs (List.replicate 8 0)).toArray 190))
 have hv : Words ((w.alloc (.cells (wvs v.list).toArray 190)).alloc (.cells (wvs (List.replicate 8 0)).toArray 190)) w.heap.size 190 v.list := (Arr.new w _ _).alloc _
 have ho : Words ((w.alloc (.cells (wvs v.list).toArray 190)).alloc (.cells (wvs (List.replicate 8 0)).toArray 190)) (w.heap.size + 1) 190 (V8.list ⟨0, 0, 0, 0, 0, 0, 0, 0⟩) := Arr.new2 _ _ _ _
 have hb := below2 w (.cells (wvs v.list).toArray 190) (.cells (wvs (List.replicate 8 0)).toArray 190)
 replace hr : Words _ rb 192 rootsL := Arr.later hr hb
 replace hw : Words _ wb 192 ws := Arr.later hw hb
 generalize (w.alloc (.cells (wvs v.list).toArray 190)).alloc (.cells (wvs (List.replicate 8 0)).toArray 190) = W at *
 have c0 : W.cell? ⟨w.heap.size, 0, none⟩ = some (.int .u32 (wv v.a)) := Words.cell hv (i := 0) (by decide : 0 < 8)
 have k0 := Since.cell c0
 have c1 : W.cell? ⟨w.heap.size, 1, none⟩ = some (.int .u32 (wv v.b)) := Words.cell hv (i := 1) (by decide : 1 < 8)
 have k1 := Since.cell c1
 have c2 : W.cell? ⟨w.heap.size, 2, none⟩ = some (.int .u32 (wv v.c)) := Words.cell hv (i := 2) (by decide : 2 < 8)
 have k2 := Since.cell c2
 have c3 : W.cell? ⟨w.heap.size, 3, none⟩ = some (.int .u32 (wv v.d)) := Words.cell hv (i := 3) (by decide : 3 < 8)
 have k3 := Since.cell c3
 have c4 : W.cell? ⟨w.heap.size, 4, none⟩ = some (.int .u32 (wv v.e)) := Words.cell hv (i := 4) (by decide : 4 < 8)
 have k4 := Since.cell c4
 have c5 : W.cell? ⟨w.heap.size, 5, none⟩ = some (.int .u32 (wv v.f)) := Words.cell hv (i := 5) (by decide : 5 < 8)
 have k5 := Since.cell c5
 have c6 : W.cell? ⟨w.heap.size, 6, none⟩ = some (.int .u32 (wv v.g)) := Words.cell hv (i := 6) (by decide : 6 < 8)
 have k6 := Since.cell c6
 have c7 : W.cell? ⟨w.heap.size, 7, none⟩ = some (.int .u32 (wv v.h)) := Words.cell hv (i := 7) (by decide : 7 < 8)
 have k7 := Since.cell c7
 refine q0e (by kernel_rfl) (by kernel_rfl) ?_
 repeat ((go_big_quiet_want; go_big_quiet_op; go_big_quiet_on))
 refine wpQuiet_nil ?_
 intro w1 hw1
 clear c0 c1 c2 c3 c4 c5 c6 c7 k0 k1 k2 k3 k4 k5 k6 k7
 replace hv : Words w1 w.heap.size 190 v.list := Arr.later hv hw1
 replace ho : Words w1 (w.heap.size + 1) 190 _ := Arr.later ho hw1
 replace hr : Words w1 rb 192 rootsL := Arr.later hr hw1
 replace hw : Words w1 wb 192 ws := Arr.later hw hw1
 replace hb : Below w.heap.size w w1 := later hb hw1
 clear hw1
 go_wp2_with fail
 go_loopw [7, 8, 9, 10, 11, 12, 13, 14, 36] (fun a b c d e f g h i wr => ∃ n : Nat, n ≤ 64 ∧ i = .int .i64 n ∧ a = .int .u32 (wv (rounds v rootsL ws n).a) ∧ b = .int .u32 (wv (rounds v rootsL ws n).b) ∧ c = .int .u32 (wv (rounds v rootsL ws n).c) ∧ d = .int .u32 (wv (rounds v rootsL ws n).d) ∧ e = .int .u32 (wv (rounds v rootsL ws n).e) ∧ f = .int .u32 (wv (rounds v rootsL ws n).f) ∧ g = .int .u32 (wv (rounds v rootsL ws n).g) ∧ h = .int .u32 (wv (rounds v rootsL ws n).h) ∧ Below w1.heap.size w1 wr) (fun _ _ _ _ _ _ _ _ i _ => 64 - (RowKit.intOf i).toNat)
 case atStart => exact ⟨0, by omega, rfl, rfl, rfl, rfl, rfl, rfl, rfl, rfl, rfl, Below.refl _ _⟩
 case round =>
  obtain ⟨n, hn, rfl, rfl, rfl, rfl, rfl, rfl, rfl, rfl, rfl, hbr⟩ := hrel
  by_cases hlt : n < 64
  ·have HS : Hid (rounds v rootsL ws (n + 1) = round1 (rounds v rootsL ws n) (rootsL.getD n 0) (ws.getD n 0)) := rfl
   have cr : wr.cell? ⟨rb, n, none⟩ = some (.int .u32 (wv (rootsL.getD n 0))) := by
    rw [hbr.cell (p := ⟨rb, n, none⟩) (Arr.lt hr)]; exact Words.cell hr (i := n) (show n < 64 by omega)
   have cw : wr.cell? ⟨wb, n, none⟩ = some (.int .u32 (wv (ws.getD n 0))) := by
    rw [hbr.cell (p := ⟨wb, n, none⟩) (Arr.lt hw)]; exact Words.cell hw (i := n) (by rw [HL.out]; omega)
   have i1 : (n : Int) < 64 := by omega
   generalize rootsL.getD n 0 = kn at *
   generalize ws.getD n 0 = wn at *
   obtain ⟨r, hr0⟩ : ∃ r, r = rounds v rootsL ws n := ⟨_, rfl⟩
   rw [← hr0] at HS ⊢
   have HR := hide hr0
   clear hr0
   obtain ⟨a, b, c, d, e, f, g, h⟩ := r
   have f1 := Since.cell cr
   have f2 := Since.cell cw
   go_wp2_with fail
   refine q0e (by kernel_rfl) (by kernel_rfl) ?_
   repeat ((go_big_quiet_want; go_big_quiet_op; go_big_quiet_on))
   go_big_quiet_want; go_big_quiet_op
   refine ⟨_, fun _ => q5g (turn6 _ _), ?_⟩
   go_big_quiet_on
   repeat ((go_big_quiet_want; go_big_quiet_op; go_big_quiet_on))
   go_big_quiet_want; go_big_quiet_op
   refine ⟨_, fun _ => q5g (turn11 _ _), ?_⟩
   go_big_quiet_on
   repeat ((go_big_quiet_want; go_big_quiet_op; go_big_quiet_on))
   go_big_quiet_want; go_big_quiet_op
   refine ⟨_, fun _ => q5g (turn25 _ _), ?_⟩
   go_big_quiet_on
   repeat ((go_big_quiet_want; go_big_quiet_op; go_big_quiet_on))
   refine wpQuiet_nil ?_
   intro w2 hw2
   clear f1 f2 cr cw
   go_wp2_with fail
   refine (turn2 _ _).mono ?_
   rintro _ _ ⟨rfl, rfl⟩
   go_wp2_with fail
   refine (turn13 _ _).mono ?_
   rintro _ _ ⟨rfl, rfl⟩
   go_wp2_with fail
   refine (turn22 _ _).mono ?_
   rintro _ _ ⟨rfl, rfl⟩
   go_wp2_with fail
   go_roundw
   case rel =>
    refine ⟨n + 1, by omega, by simp, ?_⟩
    rw [HS.out]
    exact ⟨rfl, rfl, rfl, rfl, rfl, rfl, rfl, rfl, later hbr hw2⟩
   case measure => simp [RowKit.intOf]; omega
  ·have hn64 : n = 64 := by omega
   subst hn64
   replace hv : Words wr w.heap.size 190 v.list := Arr.later hv hbr
   replace ho : Words wr (w.heap.size + 1) 190 _ := Arr.later ho hbr
   replace hb : Below w.heap.size w wr := later hb hbr
   clear hr hw hbr
   obtain ⟨r, hr0⟩ : ∃ r, r = rounds v rootsL ws 64 := ⟨_, rfl⟩
   rw [← hr0] at HG ⊢
   clear hr0
   go_wp2_with fail
   go_loopw [112] (fun i wq => ∃ k : Nat, k ≤ 8 ∧ i = .int .i64 k ∧ Words wq w.heap.size 190 (mixL R v k) ∧ Words wq (w.heap.size + 1) 190 (V8.list ⟨0, 0, 0, 0, 0, 0, 0, 0⟩) ∧ Below w.heap.size w wq) (fun i _ => 8 - (RowKit.intOf i).toNat)
   case atStart => exact ⟨0, by omega, rfl, hv, ho, hb⟩
   case round =>
    obtain ⟨k, hk, rfl, gv, go, gb⟩ := hrel
    by_cases hk8 : k < 8
    ·have hcs : k = 0 ∨ k = 1 ∨ k = 2 ∨ k = 3 ∨ k = 4 ∨ k = 5 ∨ k = 6 ∨ k = 7 := by omega
     rcases hcs with rfl | rfl | rfl | rfl | rfl | rfl | rfl | rfl
     ·have c := Words.cell gv (i := 0) (by simp [mixL, V8.list])
      rw [show (mixL R v 0).getD 0 0 = v.a from rfl] at c
      have t := Arr.thaw gv 0
      have g2 := Words.set gv 0 (v.a + r.a)
      rw [show (mixL R v 0).set 0 (v.a + r.a) = mixL R v 1 by rw [HG.out]; rfl] at g2
      have g3 := Arr.other go ⟨w.heap.size, 0, none⟩ (.int .u32 (wv (v.a + r.a))) (by simp)
      have gb2 := gb.setCell (p := ⟨w.heap.size, 0, none⟩) (Nat.le_refl _) (.int .u32 (wv (v.a + r.a)))
      have ix : ∀ w, (Instr.index 190 (.agg #[.int .u32 (wv r.a), .int .u32 (wv r.b), .int .u32 (wv r.c), .int .u32 (wv r.d), .int .u32 (wv r.e), .int .u32 (wv r.f), .int .u32 (wv r.g), .int .u32 (wv r.h)]) (.int .i64 0)).run Tryz.prog w = .ok (.int .u32 (wv r.a)) w := fun _ => by kernel_rfl
      go_wp2_with fail
      go_roundw
      case rel => exact ⟨1, by omega, rfl, g2, g3, gb2⟩
      case measure => simp [RowKit.intOf]
     ·have c := Words.cell gv (i := 1) (by simp [mixL, V8.list])
      rw [show (mixL R v 1).getD 1 0 = v.b from rfl] at c
      have t := Arr.thaw gv 1
      have g2 := Words.set gv 1 (v.b + r.b)
      rw [show (mixL R v 1).set 1 (v.b + r.b) = mixL R v 2 by rw [HG.out]; rfl] at g2
      have g3 := Arr.other go ⟨w.heap.size, 1, none⟩ (.int .u32 (wv (v.b + r.b))) (by simp)
      have gb2 := gb.setCell (p := ⟨w.heap.size, 1, none⟩) (Nat.le_refl _) (.int .u32 (wv (v.b + r.b)))
      have ix : ∀ w, (Instr.index 190 (.agg #[.int .u32 (wv r.a), .int .u32 (wv r.b), .int .u32 (wv r.c), .int .u32 (wv r.d), .int .u32 (wv r.e), .int .u32 (wv r.f), .int .u32 (wv r.g), .int .u32 (wv r.h)]) (.int .i64 1)).run Tryz.prog w = .ok (.int .u32 (wv r.b)) w := fun _ => by kernel_rfl
      go_wp2_with fail
      go_roundw
      case rel => exact ⟨2, by omega, rfl, g2, g3, gb2⟩
      case measure => simp [RowKit.intOf]
     ·have c := Words.cell gv (i := 2) (by simp [mixL, V8.list])
      rw [show (mixL R v 2).getD 2 0 = v.c from rfl] at c
      have t := Arr.thaw gv 2
      have g2 := Words.set gv 2 (v.c + r.c)
      rw [show (mixL R v 2).set 2 (v.c + r.c) = mixL R v 3 by rw [HG.out]; rfl] at g2
      have g3 := Arr.other go ⟨w.heap.size, 2, none⟩ (.int .u32 (wv (v.c + r.c))) (by simp)
      have gb2 := gb.setCell (p := ⟨w.heap.size, 2, none⟩) (Nat.le_refl _) (.int .u32 (wv (v.c + r.c)))
      have ix : ∀ w, (Instr.index 190 (.agg #[.int .u32 (wv r.a), .int .u32 (wv r.b), .int .u32 (wv r.c), .int .u32 (wv r.d), .int .u32 (wv r.e), .int .u32 (wv r.f), .int .u32 (wv r.g), .int .u32 (wv r.h)]) (.int .i64 2)).run Tryz.prog w = .ok (.int .u32 (wv r.c)) w := fun _ => by kernel_rfl
      go_wp2_with fail
      go_roundw
      case rel => exact ⟨3, by omega, rfl, g2, g3, gb2⟩
      case measure => simp [RowKit.intOf]
     ·have c := Words.cell gv (i := 3) (by simp [mixL, V8.list])
      rw [show (mixL R v 3).getD 3 0 = v.d from rfl] at c
      have t := Arr.thaw gv 3
      have g2 := Words.set gv 3 (v.d + r.d)
      rw [show (mixL R v 3).set 3 (v.d + r.d) = mixL R v 4 by rw [HG.out]; rfl] at g2
      have g3 := Arr.other go ⟨w.heap.size, 3, none⟩ (.int .u32 (wv (v.d + r.d))) (by simp)
      have gb2 := gb.setCell (p := ⟨w.heap.size, 3, none⟩) (Nat.le_refl _) (.int .u32 (wv (v.d + r.d)))
      have ix : ∀ w, (Instr.index 190 (.agg #[.int .u32 (wv r.a), .int .u32 (wv r.b), .int .u32 (wv r.c), .int .u32 (wv r.d), .int .u32 (wv r.e), .int .u32 (wv r.f), .int .u32 (wv r.g), .int .u32 (wv r.h)]) (.int .i64 3)).run Tryz.prog w = .ok (.int .u32 (wv r.d)) w := fun _ => by kernel_rfl
      go_wp2_with fail
      go_roundw
      case rel => exact ⟨4, by omega, rfl, g2, g3, gb2⟩
      case measure => simp [RowKit.intOf]
     ·have c := Words.cell gv (i := 4) (by simp [mixL, V8.list])
      rw [show (mixL R v 4).getD 4 0 = v.e from rfl] at c
      have t := Arr.thaw gv 4
      have g2 := Words.set gv 4 (v.e + r.e)
      rw [show (mixL R v 4).set 4 (v.e + r.e) = mixL R v 5 by rw [HG.out]; rfl] at g2
      have g3 := Arr.other go ⟨w.heap.size, 4, none⟩ (.int .u32 (wv (v.e + r.e))) (by simp)
      have gb2 := gb.setCell (p := ⟨w.heap.size, 4, none⟩) (Nat.le_refl _) (.int .u32 (wv (v.e + r.e)))
      have ix : ∀ w, (Instr.index 190 (.agg #[.int .u32 (wv r.a), .int .u32 (wv r.b), .int .u32 (wv r.c), .int .u32 (wv r.d), .int .u32 (wv r.e), .int .u32 (wv r.f), .int .u32 (wv r.g), .int .u32 (wv r.h)]) (.int .i64 4)).run Tryz.prog w = .ok (.int .u32 (wv r.e)) w := fun _ => by kernel_rfl
      go_wp2_with fail
      go_roundw
      case rel => exact ⟨5, by omega, rfl, g2, g3, gb2⟩
      case measure => simp [RowKit.intOf]
     ·have c := Words.cell gv (i := 5) (by simp [mixL, V8.list])
      rw [show (mixL R v 5).getD 5 0 = v.f from rfl] at c
      have t := Arr.thaw gv 5
      have g2 := Words.set gv 5 (v.f + r.f)
      rw [show (mixL R v 5).set 5 (v.f + r.f) = mixL R v 6 by rw [HG.out]; rfl] at g2
      have g3 := Arr.other go ⟨w.heap.size, 5, none⟩ (.int .u32 (wv (v.f + r.f))) (by simp)
      have gb2 := gb.setCell (p := ⟨w.heap.size, 5, none⟩) (Nat.le_refl _) (.int .u32 (wv (v.f + r.f)))
      have ix : ∀ w, (Instr.index 190 (.agg #[.int .u32 (wv r.a), .int .u32 (wv r.b), .int .u32 (wv r.c), .int .u32 (wv r.d), .int .u32 (wv r.e), .int .u32 (wv r.f), .int .u32 (wv r.g), .int .u32 (wv r.h)]) (.int .i64 5)).run Tryz.prog w = .ok (.int .u32 (wv r.f)) w := fun _ => by kernel_rfl
      go_wp2_with fail
      go_roundw
      case rel => exact ⟨6, by omega, rfl, g2, g3, gb2⟩
      case measure => simp [RowKit.intOf]
     ·have c := Words.cell gv (i := 6) (by simp [mixL, V8.list])
      rw [show (mixL R v 6).getD 6 0 = v.g from rfl] at c
      have t := Arr.thaw gv 6
      have g2 := Words.set gv 6 (v.g + r.g)
      rw [show (mixL R v 6).set 6 (v.g + r.g) = mixL R v 7 by rw [HG.out]; rfl] at g2
      have g3 := Arr.other go ⟨w.heap.size, 6, none⟩ (.int .u32 (wv (v.g + r.g))) (by simp)
      have gb2 := gb.setCell (p := ⟨w.heap.size, 6, none⟩) (Nat.le_refl _) (.int .u32 (wv (v.g + r.g)))
      have ix : ∀ w, (Instr.index 190 (.agg #[.int .u32 (wv r.a), .int .u32 (wv r.b), .int .u32 (wv r.c), .int .u32 (wv r.d), .int .u32 (wv r.e), .int .u32 (wv r.f), .int .u32 (wv r.g), .int .u32 (wv r.h)]) (.int .i64 6)).run Tryz.prog w = .ok (.int .u32 (wv r.g)) w := fun _ => by kernel_rfl
      go_wp2_with fail
      go_roundw
      case rel => exact ⟨7, by omega, rfl, g2, g3, gb2⟩
      case measure => simp [RowKit.intOf]
     ·have c := Words.cell gv (i := 7) (by simp [mixL, V8.list])
      rw [show (mixL R v 7).getD 7 0 = v.h from rfl] at c
      have t := Arr.thaw gv 7
      have g2 := Words.set gv 7 (v.h + r.h)
      rw [show (mixL R v 7).set 7 (v.h + r.h) = mixL R v 8 by rw [HG.out]; rfl] at g2
      have g3 := Arr.other go ⟨w.heap.size, 7, none⟩ (.int .u32 (wv (v.h + r.h))) (by simp)
      have gb2 := gb.setCell (p := ⟨w.heap.size, 7, none⟩) (Nat.le_refl _) (.int .u32 (wv (v.h + r.h)))
      have ix : ∀ w, (Instr.index 190 (.agg #[.int .u32 (wv r.a), .int .u32 (wv r.b), .int .u32 (wv r.c), .int .u32 (wv r.d), .int .u32 (wv r.e), .int .u32 (wv r.f), .int .u32 (wv r.g), .int .u32 (wv r.h)]) (.int .i64 7)).run Tryz.prog w = .ok (.int .u32 (wv r.h)) w := fun _ => by kernel_rfl
      go_wp2_with fail
      go_roundw
      case rel => exact ⟨8, by omega, rfl, g2, g3, gb2⟩
      case measure => simp [RowKit.intOf]
    ·have hk8' : k = 8 := by omega
     subst hk8'
     have gv' : Words wr w.heap.size 190 R.list := gv
     have hrow := Arr.row go (wvs R.list)
     have hbe := q0p gb (by omega : w.heap.size ≤ w.heap.size + 1) (wvs R.list).toArray
     have HAG := hide (show R.val = .agg (wvs R.list).toArray from rfl)
     have hi : Hid ((Tryz.prog.info? 190).map (·.size) = some (wvs R.list).toArray.size) := by unfold Hid; kernel_rfl
     have HONE := hide (show (wvs R.list).toArray.all (·.oneCell') = true by simpa using q8c R.list)
     have HSZ := hide (show (wvs (V8.list ⟨0, 0, 0, 0, 0, 0, 0, 0⟩)).toArray.size = (wvs R.list).toArray.size from rfl)
     have HP1 := hide gv'
     have HP0 := hide go
     clear gv' gv go
     unfold Words at HP1
     generalize wvs R.list = vs at *
     go_wp2_with (first | (refine wpList_load_row rfl 190 (.tmp 3) rfl w.heap.size rfl 190 vs.toArray (0, 0) _ HP1.out Tryz.underlying190 rfl hi.out ?_) | (refine wpList_store_row rfl 190 (.tmp 6) (.tmp 123) rfl (w.heap.size + 1) vs.toArray rfl rfl 190 _ HP0.out hi.out HSZ.out HONE.out ?_))
     refine bodyPost_ret (v := .agg vs.toArray) (results_cell_row rfl _ _ (w.heap.size + 1) 190 _ (0, 0) _ rfl hrow Tryz.underlying190 rfl hi.out) rfl ⟨?_, hbe⟩
     rw [← HAG.out]; rfl
/-! ### Bytes -/
/-- Bytes as values. -/
def bvs (l : List UInt8) : List Value := l.map fun b => .int .u8 (b.toNat : Int)
theorem q0c (l : List UInt8) : (bvs l).length = l.length := by simp [bvs]
theorem x1k (l : List UInt8) (i : Nat) (h : i < l.length) : (bvs l).getD i undef = .int .u8 ((l.getD i 0).toNat : Int) := by simp [bvs, h]
theorem z2h (l : List UInt8) (i : Nat) (x : UInt8) : (bvs l).set i (.int .u8 (x.toNat : Int)) = bvs (l.set i x) := by simp [bvs, List.map_set]
theorem q1f (l : List UInt8) : (bvs l).all (·.oneCell') = true := by simp only [bvs, List.all_map, List.all_eq_true]; intros; rfl
def Byts (w : World) (b : Nat) (t : TypeId) (l : List UInt8) : Prop := Arr w b t (bvs l)
theorem Byts.cell {w : World} {b : Nat} {t : TypeId} {l : List UInt8} (h : Byts w b t l) {i : Nat} (hi : i < l.length) : w.cell? ⟨b, i, none⟩ = some (.int .u8 ((l.getD i 0).toNat : Int)) := by
 rw [Arr.cell h (by rw [q0c]; exact hi), x1k l i hi]
theorem Byts.set {w : World} {b : Nat} {t : TypeId} {l : List UInt8} (h : Byts w b t l) (i : Nat) (x : UInt8) : Byts (w.setCell ⟨b, i, none⟩ (.int .u8 (x.toNat : Int))) b t (l.set i x) := by
 unfold Byts; rw [← z2h]; exact Arr.set h i _
/-- The first k bytes of l, then noughts: as many as l has. -/
def bfill (l : List UInt8) (k : Nat) : List UInt8 := l.take k ++ List.replicate (l.length - k) 0
theorem q8f (l : List UInt8) (k : Nat) (h : k ≤ l.length) : (bfill l k).length = l.length := by simp [bfill]; omega
theorem j0n (l : List UInt8) : bfill l l.length = l := by simp [bfill]
theorem j0w (l : List UInt8) (k : Nat) (h : k < l.length) : (bfill l k).set k (l.getD k 0) = bfill l (k + 1) := by
 unfold bfill
 have hk : (l.take k).length = k := by simp; omega
 rw [List.set_append_right _ _ (by omega), hk, Nat.sub_self]
 obtain ⟨m, hm⟩ : ∃ m, l.length - k = m + 1 := ⟨l.length - k - 1, by omega⟩
 rw [hm, List.replicate_succ, List.set_cons_zero, show l.length - (k + 1) = m by omega, List.take_succ_eq_append_getElem h, List.append_assoc, show l.getD k 0 = l[k] by simp [h]]
 rfl
/-- The text of a row's bytes. -/
theorem Byts.text {P : Program} {w : World} {b : Nat} {t : TypeId} {l : List UInt8} (h : Byts w b t l) (src dst e : TypeId) (n cap : Nat) (hn : l.length = n) (hs : P.underlying src = some (.slice e)) (he : P.underlying e = some (.int .u8)) (hd : P.underlying dst = some .string) :
  (convert src dst (.slice (some ⟨b, 0, none⟩) n cap)).run P w = .ok (.string ⟨l.toArray⟩) w := by
 subst hn
 refine run_convert_bytes_back w src dst e ⟨b, 0, none⟩ cap l hs he hd (fun j hj => ?_)
 have hadd : (⟨b, 0, none⟩ : Addr).add j = ⟨b, j, none⟩ := by unfold Addr.add; split <;> simp_all
 rw [hadd, h.cell hj]
 simp [hj]
theorem j4h {P : Program} {ops : Array Oper} {rest : List Oper} {o : Oper} {a : Act} {w : World} {Q : Exit → Act → World → Prop} (hg : o.guard = none) (t : TypeId) (parts : Array (Nat × Operand)) (ho : o.op = .build t parts)
  (cs : Array Value) (hf : P.built t (parts.map fun (i, x) => (i, a.eval x)).toList = some cs)
  (h : wpList P ops Q rest (a.put o.dst (.agg cs)) w) : wpList P ops Q (o :: rest) a w := by
 refine wpList_build hg t parts ho (by rw [hf]; rfl) ?_
 rw [hf]
 exact h
theorem below1 (w : World) (o : Obj) : Below w.heap.size w (w.alloc o) := (Below.refl _ _).alloc (Nat.le_refl _) _
theorem x4s (w : World) : Calls Tryz.prog 169 #[] w fun e w' => e = .returned startV.val ∧ Below w.heap.size w w' := by
 go_enter Tryz.func169, Tryz.ntmps169
 go_wp2_with fail
 exact bodyPost_ret (v := startV.val) (results_cell_row rfl _ _ w.heap.size 190 _ (0, 0) _ rfl (by exact Arr.new w (wvs startV.list) 190) Tryz.underlying190 rfl (by kernel_rfl)) rfl ⟨rfl, below1 _ _⟩
def rootsP : Array (Nat × Operand) := #[
 (0, .const (.int .u32 1116352408)), (1, .const (.int .u32 1899447441)), (2, .const (.int .u32 3049323471)), (3, .const (.int .u32 3921009573)), (4, .const (.int .u32 961987163)), (5, .const (.int .u32 1508970993)), (6, .const (.int .u32 2453635748)), (7, .const (.int .u32 2870763221)),
 (8, .const (.int .u32 3624381080)), (9, .const (.int .u32 310598401)), (10, .const (.int .u32 607225278)), (11, .const (.int .u32 1426881987)), (12, .const (.int .u32 1925078388)), (13, .const (.int .u32 2162078206)), (14, .const (.int .u32 2614888103)), (15, .const (.int .u32 3248222580)),
 (16, .const (.int .u32 3835390401)), (17, .const (.int .u32 4022224774)), (18, .const (.int .u32 264347078)), (19, .const (.int .u32 604807628)), (20, .const (.int .u32 770255983)), (21, .const (.int .u32 1249150122)), (22, .const (.int .u32 1555081692)), (23, .const (.int .u32 1996064986)),
 (24, .const (.int .u32 2554220882)), (25, .const (.int .u32 2821834349)), (26, .const (.int .u32 2952996808)), (27, .const (.int .u32 3210313671)), (28, .const (.int .u32 3336571891)), (29, .const (.int .u32 3584528711)), (30, .const (.int .u32 113926993)), (31, .const (.int .u32 338241895)),
 (32, .const (.int .u32 666307205)), (33, .const (.int .u32 773529912)), (34, .const (.int .u32 1294757372)), (35, .const (.int .u32 1396182291)), (36, .const (.int .u32 1695183700)), (37, .const (.int .u32 1986661051)), (38, .const (.int .u32 2177026350)), (39, .const (.int .u32 2456956037)),
 (40, .const (.int .u32 2730485921)), (41, .const (.int .u32 2820302411)), (42, .const (.int .u32 3259730800)), (43, .const (.int .u32 3345764771)), (44, .const (.int .u32 3516065817)), (45, .const (.int .u32 3600352804)), (46, .const (.int .u32 4094571909)), (47, .const (.int .u32 275423344)),
 (48, .const (.int .u32 430227734)), (49, .const (.int .u32 506948616)), (50, .const (.int .u32 659060556)), (51, .const (.int .u32 883997877)), (52, .const (.int .u32 958139571)), (53, .const (.int .u32 1322822218)), (54, .const (.int .u32 1537002063)), (55, .const (.int .u32 1747873779)),
 (56, .const (.int .u32 1955562222)), (57, .const (.int .u32 2024104815)), (58, .const (.int .u32 2227730452)), (59, .const (.int .u32 2361852424)), (60, .const (.int .u32 2428436474)), (61, .const (.int .u32 2756734187)), (62, .const (.int .u32 3204031479)), (63, .const (.int .u32 3329325298))]
theorem j8s (a : Act) : Tryz.prog.built 192 (rootsP.map fun (i, x) => (i, a.eval x)).toList = some (wvs rootsL).toArray := by kernel_rfl
theorem x5f (w : World) : Calls Tryz.prog 170 #[] w fun e w' => e = .returned (.agg (wvs rootsL).toArray) ∧ Below w.heap.size w w' := by
 have hone := q8c rootsL
 have HI : Hid ((Tryz.prog.info? 192).map (·.size) = some (wvs rootsL).toArray.size) := by unfold Hid; kernel_rfl
 have HZ : Hid ((wvs (List.replicate 64 0)).toArray.size = (wvs rootsL).toArray.size) := rfl
 have HONE := hide (show (wvs rootsL).toArray.all (·.oneCell') = true by simpa using hone)
 have HB := hide j8s
 have HP := hide (Arr.new w (wvs (List.replicate 64 0)) 192)
 have hb := q0p (below1 w (.cells (wvs (List.replicate 64 0)).toArray 192)) (Nat.le_refl w.heap.size) (wvs rootsL).toArray
 have hrow := Arr.row HP.out (wvs rootsL)
 clear hone
 generalize wvs rootsL = vs at *
 go_enter Tryz.func170, Tryz.ntmps170
 go_wp2_with (first | (refine j4h rfl 192 rootsP rfl vs.toArray (HB.out _) ?_) | (refine wpList_store_row rfl 192 (.tmp 0) (.tmp 1) rfl w.heap.size vs.toArray rfl rfl 192 _ HP.out HI.out HZ.out HONE.out ?_))
 exact bodyPost_ret (v := .agg vs.toArray) (results_cell_row rfl _ _ w.heap.size 192 _ (0, 0) _ rfl hrow Tryz.underlying192 rfl HI.out) rfl ⟨rfl, hb⟩
/-! ### digit.Eight -/
theorem q0o (n : Nat) : (eightL n).length = 8 := by simp [eightL]
theorem x6e (n k : Nat) (h : k < 8) : ((((eightL n).getD k 0).toNat : Nat) : Int) = (n : Int) / 2 ^ (56 - 8 * k) % 256 := by
 have e : (eightL n).getD k 0 = UInt8.ofNat (n / 2 ^ (56 - 8 * k) % 256) := by simp [eightL, h]
 rw [e]
 have : (UInt8.ofNat (n / 2 ^ (56 - 8 * k) % 256)).toNat = n / 2 ^ (56 - 8 * k) % 256 := by
  rw [UInt8.toNat_ofNat']
  omega
 rw [this]
 simp
theorem j9f (n : Nat) (w : World) : Calls Tryz.prog 153 #[.int .u64 n] w fun e w' => e = .returned (.string ⟨(eightL n).toArray⟩) ∧ Below w.heap.size w w' := by
 have hl := hide (q0o n)
 have ha := hide (x6e n)
 generalize eightL n = el at *
 go_enter Tryz.func153, Tryz.ntmps153
 go_wp2_with fail
 have r0 : Byts (w.alloc (.cells (bvs (List.replicate 8 0)).toArray 204)) w.heap.size 204 (bfill el 0) := by
  rw [show bfill el 0 = List.replicate 8 0 by simp [bfill, hl.out]]; exact Arr.new w _ _
 have hb := below1 w (.cells (bvs (List.replicate 8 0)).toArray 204)
 show Code.wp _ _ _ _ (w.alloc (.cells (bvs (List.replicate 8 0)).toArray 204))
 generalize w.alloc (.cells (bvs (List.replicate 8 0)).toArray 204) = W at *
 go_loopw [5] (fun i wr => ∃ k : Nat, k ≤ 8 ∧ i = .int .i64 k ∧ Byts wr w.heap.size 204 (bfill el k) ∧ Below w.heap.size w wr) (fun i _ => 8 - (RowKit.intOf i).toNat)
 case atStart => exact ⟨0, by omega, rfl, r0, hb⟩
 case round =>
  obtain ⟨k, hk, rfl, q0, hbr⟩ := hrel
  by_cases hlt : k < 8
  ·have t0 := Arr.thaw q0 k
   have hc := q0.cell (i := k) (by rw [q8f _ _ (by rw [hl.out]; omega), hl.out]; omega)
   have q1 := Byts.set q0 k (el.getD k 0)
   rw [j0w _ _ (by rw [hl.out]; omega), ha.out k hlt] at q1
   have i1 : 0 ≤ 56 - 8 * (k : Int) := by omega
   have i2 : 56 - 8 * (k : Int) ≤ 64 := by omega
   have i3 : 56 - 8 * (k : Int) = ((56 - 8 * k : Nat) : Int) := by omega
   have i4 : (k : Int) < 8 := by omega
   go_wp2_with fail
   exact ⟨⟨k + 1, by omega, by simp, q1, hbr.setCell (Nat.le_refl _) _⟩, by simp [RowKit.intOf]; omega⟩
  ·have hk8 : k = 8 := by omega
   subst hk8
   have q1 := q0
   rw [show bfill el 8 = el by have := j0n el; rwa [hl.out] at this] at q1
   have ht := Byts.text (P := Tryz.prog) q1 93 9 5 8 8 hl.out Tryz.underlying93 Tryz.underlying5 Tryz.underlying9
   go_wp2_with fail
   go_ret
   exact ⟨rfl, hbr⟩
def zero32 : List UInt8 := List.replicate 32 0
/-- A hash as a value. -/
def hv (l : List UInt8) : Value := .agg (bvs l).toArray
def padB (s : ByteArray) : ByteArray := ⟨(padL s.data.toList).toArray⟩
theorem x0j (n : Nat) : Lib.repeatL [0] n = List.replicate n 0 := by
 induction n with
 | zero => rfl
 | succ n ih => simp [Lib.repeatL, ih, List.replicate_succ]
theorem x5r (m : Int) (n : Nat) (w : World) (h : m = (n : Nat)) : Calls Tryz.prog 153 #[.int .u64 m] w fun e w' => e = .returned (.string ⟨(eightL n).toArray⟩) ∧ Below w.heap.size w w' := h ▸ j9f n w
theorem x4b {f g : Nat → W32} {k : Nat} (j : Nat) (h : ∀ i, i < 4 * k + j → f i = g i) : part f k j = part g k j := by
 induction j with
 | zero => rfl
 | succ j ih => simp only [part]; rw [ih (fun i hi => h i (by omega)), h _ (by omega)]
theorem x0o {f g : Nat → W32} (h : ∀ i, i < 64 → f i = g i) : sched f = sched g := by
 unfold sched
 congr 1
 unfold fw
 apply List.map_congr_left
 intro k hk
 have := List.mem_range.1 hk
 exact x4b 4 (fun i hi => h i (by omega))
theorem x0t (p : List UInt8) (pb : ByteArray) (t : Nat) (h : pb = ⟨p.toArray⟩) (ht : t + 64 ≤ pb.size) : sched (sByte (pb.extract t (t + 64))) = sched (byteW p t) := by
 apply x0o
 intro i hi
 unfold sByte byteW
 subst h
 have hl : t + 64 ≤ p.length := by have : (⟨p.toArray⟩ : ByteArray).size = p.length := rfl; omega
 rw [ByteArray.data_extract]
 simp only [List.extract_toArray, List.extract_eq_take_drop]
 congr 2
 simp only [List.getD_eq_getElem?_getD, List.getElem?_take, List.getElem?_drop]
 rw [if_pos (by omega)]
theorem x6z (v : V8) (k : Nat) : ((outB v k).toNat : Int) = wv (v.list.getD (k / 4) 0) / 2 ^ (24 - k % 4 * 8) % 256 := by
 rw [x7k]
 unfold outB wv
 generalize v.list.getD (k / 4) 0 >>> (24 - k % 4 * 8) = y
 rw [UInt8.toNat_ofNat']
 omega
theorem z1q (s : ByteArray) (w : World) (hs : s.size ≤ 1099511627776) :
  Calls Tryz.prog 136 #[.string s] w fun e w' => e = .returned (hv (sha s.data.toList)) ∧ Below w.heap.size w w' := by
 have hm1 : (119 - (s.size : Int)) % 64 = ((noughts s.size : Nat) : Int) := by unfold noughts; omega
 have hm2 : (119 - (s.size : Int) % 64) % 64 = ((noughts s.size : Nat) : Int) := by unfold noughts; omega
 have hn : noughts s.size < 64 := by unfold noughts; omega
 have hu : (s.size : Int) * 8 < 18446744073709551616 := by omega
 have HP : Hid (s ++ ⟨#[128]⟩ ++ ⟨(Lib.repeatL [0] (noughts s.size)).toArray⟩ ++ ⟨(eightL (s.size * 8)).toArray⟩ = padB s) := by
  unfold Hid padB padL
  rw [x0j]
  apply ByteArray.ext
  simp
 have HR : Hid (hv (sha s.data.toList) = hv (outL (states (padL s.data.toList) ((padL s.data.toList).length / 64)))) := rfl
 have HN : Hid ((padL s.data.toList).length = (padB s).size) := by simp [padB]; rfl
 have HM : Hid ((padB s).size % 64 = 0) := by have := j9z s.data.toList; unfold Hid; rw [HN.out] at this; exact this
 have HZ : Hid ((padB s).size ≤ 1099511627776 + 80) := by
  have h1 := q9c s.data.toList
  have h2 : noughts s.data.toList.length < 64 := by unfold noughts; omega
  have h3 : s.data.toList.length = s.size := by simp
  have h4 := HN.out
  unfold Hid; omega
 generalize hv (sha s.data.toList) = R at *
 have HRep := hide (fun W : World => Tryz.strings_Repeat ⟨#[0]⟩ (noughts s.size) W (by omega) (by show 1 * _ ≤ _; omega))
 have HEig := hide (fun W : World => x5r ((s.size : Int) * 8) (s.size * 8) W (by push_cast; rfl))
 replace HRep : Hid (∀ W : World, Calls Tryz.prog 157 #[.string ⟨#[0]⟩, .int .i64 (noughts s.size)] W fun e w' => e = .returned (.string ⟨(Lib.repeatL [0] (noughts s.size)).toArray⟩) ∧ Below W.heap.size W w') := HRep
 generalize (⟨(Lib.repeatL [0] (noughts s.size)).toArray⟩ : ByteArray) = zs at *
 generalize (⟨(eightL (s.size * 8)).toArray⟩ : ByteArray) = es at *
 obtain ⟨pb, hpb⟩ : ∃ pb, pb = padB s := ⟨_, rfl⟩
 rw [← hpb] at HP HN HM HZ
 have HPB := hide hpb
 clear hpb
 generalize noughts s.size = ns at *
 go_enter Tryz.func136, Tryz.ntmps136
 go_wp2_with fail
 have r0 : Byts (w.alloc (.cells (bvs zero32).toArray 34)) w.heap.size 34 zero32 := Arr.new w _ _
 have hb := below1 w (.cells (bvs zero32).toArray 34)
 show Calls _ _ _ (w.alloc (.cells (bvs zero32).toArray 34)) _
 generalize w.alloc (.cells (bvs zero32).toArray 34) = W at *
 refine (HRep.out _).mono ?_
 rintro _ w1 ⟨rfl, hb1⟩
 clear hm1 hm2
 have c1 : ¬ 9223372036854775807 < (s ++ ⟨#[128]⟩).size + zs.size := by
  have e := congrArg ByteArray.size HP.out
  have := HZ.out
  simp only [ByteArray.size_append] at e ⊢
  omega
 have c2 : ¬ 9223372036854775807 < (s ++ ⟨#[128]⟩ ++ zs).size + es.size := by
  have e := congrArg ByteArray.size HP.out
  have := HZ.out
  simp only [ByteArray.size_append] at e ⊢
  omega
 generalize s ++ ⟨#[128]⟩ = s1 at *
 generalize (119 - (s.size : Int) % 64) % 64 = q3 at *
 generalize 119 - (s.size : Int) % 64 = q4 at *
 replace c2 := hide c2
 go_wp2_with fail
 have c2' := c2.out
 generalize s1 ++ zs = s2 at *
 refine (HEig.out _).mono ?_
 rintro _ w2 ⟨rfl, hb2⟩
 have hp := HP.out
 go_wp2_with fail
 refine (x4s _).mono ?_
 rintro _ w3 ⟨rfl, hb3⟩
 go_wp2_with fail
 refine (x5f _).mono ?_
 rintro _ w4 ⟨rfl, hb4⟩
 have hbw := later (later hb1 hb2) (later hb3 hb4)
 replace r0 : Byts w4 w.heap.size 34 zero32 := Arr.later r0 hbw
 replace hb := later hb hbw
 clear hb1 hb2 hb3 hb4 hbw
 clear c1 c2 c2' hn HRep HEig hs hu hp
 have HONE1 := hide (show (wvs rootsL).toArray.all (·.oneCell') = true by simpa using q8c rootsL)
 have HONE2 := hide (show (wvs startV.list).toArray.all (·.oneCell') = true by simpa using q8c startV.list)
 have HI1 : Hid ((Tryz.prog.info? 192).map (·.size) = some (wvs rootsL).toArray.size) := by unfold Hid; kernel_rfl
 have HI2 : Hid ((Tryz.prog.info? 190).map (·.size) = some (wvs startV.list).toArray.size) := by unfold Hid; kernel_rfl
 have HS1 : Hid ((wvs (List.replicate 64 0)).toArray.size = (wvs rootsL).toArray.size) := rfl
 have HS2 : Hid ((wvs (List.replicate 8 0)).toArray.size = (wvs startV.list).toArray.size) := rfl
 obtain ⟨o1, ho1⟩ : ∃ o : Obj, o = .cells (wvs (List.replicate 8 0)).toArray 190 := ⟨_, rfl⟩
 obtain ⟨o2, ho2⟩ : ∃ o : Obj, o = .cells (wvs (List.replicate 64 0)).toArray 192 := ⟨_, rfl⟩
 have QA : Hid (Arr ((w4.alloc o1).alloc o2) w4.heap.size 190 (wvs (List.replicate 8 0))) := by rw [ho1]; exact (Arr.new w4 _ _).alloc _
 have QB0 : Hid (Arr ((w4.alloc o1).alloc o2) (w4.heap.size + 1) 192 (wvs (List.replicate 64 0))) := by rw [ho2]; exact Arr.new2 _ _ _ _
 have QB := hide (Arr.row_other QB0.out w4.heap.size (wvs startV.list).toArray (by omega))
 have QK := hide (Arr.row QB.out (wvs rootsL))
 have QV := hide (Arr.row_other (Arr.row QA.out (wvs startV.list)) (w4.heap.size + 1) (wvs rootsL).toArray (by omega))
 have hbo := q0p (q0p (below2 w4 o1 o2) (Nat.le_refl _) (wvs startV.list).toArray) (by omega : w4.heap.size ≤ w4.heap.size + 1) (wvs rootsL).toArray
 have QO := hide (Arr.below r0 hbo (Arr.lt r0))
 replace hb := hide (later hb hbo)
 clear hbo
 have hg := Arr.lt r0
 clear r0
 subst ho1 ho2
 go_wp2_with (first | (refine wpList_store_row rfl 190 (.tmp 5) (.tmp 27) rfl w4.heap.size (wvs startV.list).toArray rfl rfl 190 _ QA.out HI2.out HS2.out HONE2.out ?_) | (refine wpList_store_row rfl 192 (.tmp 6) (.tmp 28) rfl (w4.heap.size + 1) (wvs rootsL).toArray rfl rfl 192 _ QB.out HI1.out HS1.out HONE1.out ?_))
 show Code.wp _ _ _ _ ((((w4.alloc (Obj.cells (wvs (List.replicate 8 0)).toArray 190)).alloc (Obj.cells (wvs (List.replicate 64 0)).toArray 192)).setRow w4.heap.size (wvs startV.list).toArray).setRow (w4.heap.size + 1) (wvs rootsL).toArray)
 clear QA QB0 QB HONE1 HI1 HS1 HS2 HI2 HONE2
 generalize (((w4.alloc (Obj.cells (wvs (List.replicate 8 0)).toArray 190)).alloc (Obj.cells (wvs (List.replicate 64 0)).toArray 192)).setRow w4.heap.size (wvs startV.list).toArray).setRow (w4.heap.size + 1) (wvs rootsL).toArray = W7 at *
 generalize w4.heap.size = g at *
 have HP2 := HR
 obtain ⟨p, hp⟩ : ∃ p, p = padL s.data.toList := ⟨_, rfl⟩
 rw [← hp] at HP2 HN
 clear HR HP
 have HPD : Hid (pb = ⟨p.toArray⟩) := by rw [hp]; exact HPB.out
 clear HPB hp
 have RV := QV.out
 have RK := QK.out
 have RO := QO.out
 have RB := hb.out
 clear QV QK QO hb
 go_loopw [7] (fun i wr => ∃ t : Nat, t ≤ pb.size ∧ t % 64 = 0 ∧ i = .int .i64 t ∧ Arr wr g 190 (wvs (states p (t / 64)).list) ∧ Arr wr (g + 1) 192 (wvs rootsL) ∧ Arr wr w.heap.size 34 (bvs zero32) ∧ Below w.heap.size w wr) (fun i _ => pb.size - (RowKit.intOf i).toNat)
 case atStart => exact ⟨0, by omega, rfl, rfl, RV, RK, RO, RB⟩
 case round =>
  obtain ⟨t, ht, ht64, rfl, qv, qk, qo, qb⟩ := hrel
  by_cases hlt : t < pb.size
  ·have hle : t + 64 ≤ pb.size := by have := HM.out; omega
   have hz := HZ.out
   have i1 : (t : Int) + 64 ≤ pb.size := by omega
   have i2 : (t : Int) + 64 < 9223372036854775808 := by omega
   have hsz : (pb.extract t (t + 64)).size = 64 := by rw [ByteArray.size_extract]; omega
   have HSC := hide (x0t p pb t HPD.out hle)
   have HWL := hide (q8a (byteW p t))
   have HNX : Hid (states p ((t + 64) / 64) = goesV (states p (t / 64)) (sched (byteW p t))) := by
    unfold Hid
    rw [show (t + 64) / 64 = t / 64 + 1 by omega, show t = 64 * (t / 64) by omega]
    simp only [states]
    rw [show 64 * (t / 64) / 64 = t / 64 by omega]
   replace hsz := hide hsz
   go_wp2_with fail
   refine (x5p _ _ hsz.out).mono ?_
   rintro _ w5 ⟨rfl, hb5⟩
   rw [HSC.out]
   generalize sched (byteW p t) = ws at *
   generalize states p (t / 64) = v at *
   have qv5 : Arr w5 g 190 (wvs v.list) := Arr.later qv hb5
   have qk5 := Arr.later qk hb5
   have qo5 := Arr.later qo hb5
   have qb5 := qb.trans (hb5.mono qb.size)
   have l1 := Arr.lt qv5
   have l2 := Arr.lt qk5
   have l3 := Arr.lt qo5
   have A0 := Arr.new w5 (wvs (List.replicate 64 0)) 192
   have A1 := Arr.row A0 (wvs ws)
   have A2 := Arr.row_other (Arr.alloc qv5 (.cells (wvs (List.replicate 64 0)).toArray 192)) w5.heap.size (wvs ws).toArray (by omega)
   have A3 := Arr.row_other (Arr.alloc qk5 (.cells (wvs (List.replicate 64 0)).toArray 192)) w5.heap.size (wvs ws).toArray (by omega)
   have A4 := Arr.row_other (Arr.alloc qo5 (.cells (wvs (List.replicate 64 0)).toArray 192)) w5.heap.size (wvs ws).toArray (by omega)
   have A5 := q0p (qb5.alloc qb5.size (.cells (wvs (List.replicate 64 0)).toArray 192)) qb5.size (wvs ws).toArray
   have HI3 : Hid ((Tryz.prog.info? 192).map (·.size) = some (wvs ws).toArray.size) := by rw [show (wvs ws).toArray.size = 64 by simp [q8o, HWL.out]]; unfold Hid; kernel_rfl
   have HS3 : Hid ((wvs (List.replicate 64 0)).toArray.size = (wvs ws).toArray.size) := by unfold Hid; simp [q8o, HWL.out]
   have HO3 := hide (show (wvs ws).toArray.all (·.oneCell') = true by simpa using q8c ws)
   have HI4 : Hid ((Tryz.prog.info? 190).map (·.size) = some (wvs v.list).toArray.size) := by rw [show (wvs v.list).toArray.size = 8 by simp [wvs, V8.list]]; unfold Hid; kernel_rfl
   replace A0 := hide A0
   replace A1 := hide A1
   replace A2 := hide A2
   replace A3 := hide A3
   replace A4 := hide A4
   replace A5 := hide A5
   clear qv5 qk5 qo5 qb5 hb5 l1 l2 l3 qv qk qo qb
   go_wp2_with (first | (refine wpList_store_row rfl 192 (.tmp 8) (.tmp 40) rfl w5.heap.size (wvs ws).toArray rfl rfl 192 _ A0.out HI3.out HS3.out HO3.out ?_) | (refine wpList_load_row rfl 190 (.tmp 5) rfl g rfl 190 (wvs v.list).toArray (0, 0) _ A2.out Tryz.underlying190 rfl HI4.out ?_))
   show Calls _ _ _ ((w5.alloc (.cells (wvs (List.replicate 64 0)).toArray 192)).setRow w5.heap.size (wvs ws).toArray) _
   clear A0 HI3 HS3 HO3
   generalize (w5.alloc (.cells (wvs (List.replicate 64 0)).toArray 192)).setRow w5.heap.size (wvs ws).toArray = W6 at *
   refine (x8h v (g + 1) w5.heap.size ws W6 HWL.out A3.out A1.out).mono ?_
   rintro _ w6 ⟨rfl, hb6⟩
   generalize goesV v ws = u at *
   have B0 := hide (Arr.later A2.out hb6)
   have B1 := hide (Arr.row B0.out (wvs u.list))
   have B2 := hide (Arr.row_other (Arr.later A3.out hb6) g (wvs u.list).toArray (by omega))
   have B3 := hide (Arr.row_other (Arr.later A4.out hb6) g (wvs u.list).toArray (by omega))
   have B4 := hide (q0p (A5.out.trans (hb6.mono A5.out.size)) (by omega : w.heap.size ≤ g) (wvs u.list).toArray)
   have HI5 : Hid ((Tryz.prog.info? 190).map (·.size) = some (wvs u.list).toArray.size) := by rw [show (wvs u.list).toArray.size = 8 by simp [wvs, V8.list]]; unfold Hid; kernel_rfl
   have HS5 : Hid ((wvs v.list).toArray.size = (wvs u.list).toArray.size) := by unfold Hid; simp [wvs, V8.list]
   have HO5 := hide (show (wvs u.list).toArray.all (·.oneCell') = true by simpa using q8c u.list)
   clear A1 A2 A3 A4 A5 hb6
   go_wp2_with (refine wpList_store_row rfl 190 (.tmp 5) (.tmp 42) rfl g (wvs u.list).toArray rfl rfl 190 _ B0.out HI5.out HS5.out HO5.out ?_)
   go_roundw
   case rel =>
    refine ⟨t + 64, hle, by omega, by simp, ?_⟩
    rw [HNX.out]
    exact ⟨B1.out, B2.out, B3.out, B4.out⟩
   case measure => simp [RowKit.intOf]; omega
  ·have hte : t = pb.size := by omega
   subst hte
   rw [HN.out] at HP2
   generalize states p (pb.size / 64) = v at *
   clear qk
   obtain ⟨bs, hh⟩ : ∃ bs, bs = outL v := ⟨_, rfl⟩
   rw [← hh] at HP2
   have HH := hide hh
   clear hh RV RK RO RB
   have HHL : Hid (bs.length = 32) := by rw [HH.out]; simp [outL, Hid]
   have hwg := Arr.lt qo
   have hgg := Arr.lt qv
   have C0 : Byts (wr.alloc (.cells (bvs zero32).toArray 34)) wr.heap.size 34 (bfill bs 0) := by
    rw [show bfill bs 0 = zero32 by simp [bfill, HHL.out, zero32]]; exact Arr.new wr _ _
   have C1 := Arr.alloc qv (.cells (bvs zero32).toArray 34)
   have C2 := Arr.alloc qo (.cells (bvs zero32).toArray 34)
   have C3 := qb.alloc qb.size (.cells (bvs zero32).toArray 34)
   have C4 : wr.heap.size < (wr.alloc (.cells (bvs zero32).toArray 34)).heap.size := by simp
   clear qv qo qb
   go_wp2_with fail
   show Code.wp _ _ _ _ (wr.alloc (.cells (bvs zero32).toArray 34))
   generalize wr.alloc (.cells (bvs zero32).toArray 34) = W8 at *
   generalize wr.heap.size = g9 at *
   go_loopw [43] (fun i wq => ∃ k : Nat, k ≤ 32 ∧ i = .int .i64 k ∧ Byts wq g9 34 (bfill bs k) ∧ Arr wq g 190 (wvs v.list) ∧ Arr wq w.heap.size 34 (bvs zero32) ∧ Below w.heap.size w wq) (fun i _ => 32 - (RowKit.intOf i).toNat)
   case atStart => exact ⟨0, by omega, rfl, C0, C1, C2, C3⟩
   case round =>
    obtain ⟨k, hk, rfl, d0, d1, d2, d3⟩ := hrel
    by_cases hk32 : k < 32
    ·have x0 : wr.cell? ⟨g, k / 4, none⟩ = some (.int .u32 (wv (v.list.getD (k / 4) 0))) := Words.cell d1 (i := k / 4) (by show k / 4 < 8; omega)
     have e1 := x6z v k
     have d4 := Byts.set d0 k (bs.getD k 0)
     rw [j0w _ _ (by rw [HHL.out]; omega), show bs.getD k 0 = outB v k by rw [HH.out]; simp [outL, hk32], e1] at d4
     have x1 := Byts.cell d0 (i := k) (by rw [q8f _ _ (by rw [HHL.out]; omega), HHL.out]; omega)
     have x2 := Arr.thaw d0 k
     generalize v.list.getD (k / 4) 0 = x at *
     have d5 := Arr.other d1 ⟨g9, k, none⟩ (.int .u8 (wv x / 2 ^ (24 - k % 4 * 8) % 256)) (by show g ≠ g9; omega)
     have d6 := Arr.other d2 ⟨g9, k, none⟩ (.int .u8 (wv x / 2 ^ (24 - k % 4 * 8) % 256)) (by show w.heap.size ≠ g9; omega)
     have d7 := d3.setCell (p := ⟨g9, k, none⟩) (by show w.heap.size ≤ g9; omega) (.int .u8 (wv x / 2 ^ (24 - k % 4 * 8) % 256))
     clear e1
     go_wp2_with fail
     exact ⟨⟨k + 1, by omega, by simp, d4, d5, d6, d7⟩, by simp [RowKit.intOf]; omega⟩
    ·have hk' : k = 32 := by omega
     subst hk'
     rw [show bfill bs 32 = bs by have := j0n bs; rwa [HHL.out] at this] at d0
     have y1 := hide (Arr.row d2 (bvs bs))
     have y2 := hide (q0p d3 (Nat.le_refl w.heap.size) (bvs bs).toArray)
     have y3 := hide (show Arr wr g9 34 (bvs bs) from d0)
     have y4 := hide d2
     have y5 : Hid ((Tryz.prog.info? 34).map (·.size) = some (bvs bs).toArray.size) := by rw [show (bvs bs).toArray.size = 32 by simp [bvs, HHL.out]]; unfold Hid; kernel_rfl
     have y6 : Hid ((bvs zero32).toArray.size = (bvs bs).toArray.size) := by unfold Hid; simp [bvs, HHL.out, zero32]
     have y7 := hide (show (bvs bs).toArray.all (·.oneCell') = true by simpa using q1f bs)
     clear d0 d1 d2 d3
     go_wp2_with (first | (refine wpList_load_row rfl 34 (.tmp 9) rfl g9 rfl 34 (bvs bs).toArray (0, 0) _ y3.out Tryz.underlying34 rfl y5.out ?_) | (refine wpList_store_row rfl 34 (.tmp 2) (.tmp 59) rfl w.heap.size (bvs bs).toArray rfl rfl 34 _ y4.out y5.out y6.out y7.out ?_))
     refine bodyPost_ret (v := .agg (bvs bs).toArray) (results_cell_row rfl _ _ w.heap.size 34 _ (0, 0) _ rfl y1.out Tryz.underlying34 rfl y5.out) rfl ⟨?_, y2.out⟩
     rw [HP2.out, hv]
end Go.Proofs.YtbbfnpfkbbpjgaaGreat
namespace Go.Proofs.YtbbfnpfkbbpjgaaGreat
open Go.ChangeShapes Go.WideShapes Go.RowKit
set_option linter.unusedVariables false
set_option linter.unusedSimpArgs false
set_option maxRecDepth 100000
set_option maxHeartbeats 4000000
theorem cellsByte : Tryz.prog.cellsOf 5 = 1 := by kernel_rfl
end Go.Proofs.YtbbfnpfkbbpjgaaGreat
namespace Go.Proofs.YtbbfnpfkbbpjgaaGreat
open Go.RowKit
set_option linter.unusedVariables false
set_option linter.unusedSimpArgs false
set_option maxRecDepth 100000
set_option maxHeartbeats 4000000
theorem j0g (a : List UInt8) (i : Nat) (hi : i < a.length) (w : World) : (Go.part 5 (bvs a).toArray i).run Tryz.prog w = .ok (.int .u8 ((a.getD i 0).toNat : Int)) w := by
 have h2 : (bvs a)[i]? = some (.int .u8 ((a.getD i 0).toNat : Int)) := by simp [bvs, hi]
 unfold Go.part
 simp only [Sem.run_bind, Tryz.isAgg5, Result.andThen_ok]
 simp [h2]
theorem j0j (a b : List UInt8) (ha : a.length = 32) (hb : b.length = 32) (w : World) : ∀ is : List Nat, (∀ i ∈ is, i < 32) →
    (Op.eqItems 9999 5 1 (bvs a).toArray (bvs b).toArray is).run Tryz.prog w = .ok (is.all fun i => a.getD i 0 == b.getD i 0) w
  | [], _ => by simp [Op.eqItems]
  | i :: is, h => by
    have hi : i < 32 := h i (by simp)
    have ih := j0j a b ha hb w is (fun j hj => h j (by simp [hj]))
    simp only [Op.eqItems, Sem.run_bind, Nat.mul_one]
    rw [j0g a i (by omega)]
    simp only [Result.andThen_ok]
    rw [j0g b i (by omega)]
    simp only [Result.andThen_ok]
    rw [run_equalIn_int w 9998 5 .u8 .u8 _ _ Tryz.underlying5]
    simp only [Result.andThen_ok, List.all_cons]
    by_cases he : a.getD i 0 = b.getD i 0
    · have e1 : (((a.getD i 0).toNat : Int) == ((b.getD i 0).toNat : Int)) = true := by rw [he]; simp
      have e2 : (a.getD i 0 == b.getD i 0) = true := by rw [he]; simp
      rw [e1, e2]
      simpa using ih
    · have e1 : (((a.getD i 0).toNat : Int) == ((b.getD i 0).toNat : Int)) = false := by
        rw [beq_eq_false_iff_ne]
        intro h'
        exact he (UInt8.toNat_inj.1 (by omega))
      have e2 : (a.getD i 0 == b.getD i 0) = false := by rw [beq_eq_false_iff_ne]; exact he
      rw [e1, e2]
      simp
theorem x0p (a b : List UInt8) (ha : a.length = 32) (hb : b.length = 32) (w : World) :
  (Op.equalIn 10000 34 (.agg (bvs a).toArray) (.agg (bvs b).toArray)).run Tryz.prog w = .ok (decide (a = b)) w := by
 obtain ⟨i, hi, _⟩ := Option.map_eq_some_iff.1 (show (Tryz.prog.info? 5).map (·.size) = some 1 by kernel_rfl)
 rw [run_equalIn_array w 9999 (bvs a).toArray (bvs b).toArray Tryz.underlying34 hi, cellsByte, j0j a b ha hb w _ (fun j hj => List.mem_range.1 hj)]
 congr 1
 by_cases h : a = b
 ·subst h; simp
 ·rw [decide_eq_false h, Bool.eq_false_iff]
  intro hall
  apply h
  apply List.ext_getElem (by omega)
  intro j h1 h2
  have := List.all_eq_true.1 hall j (List.mem_range.2 (by omega))
  simpa [h1, h2] using this
theorem z2q (a b : List UInt8) (ha : a.length = 32) (hb : b.length = 32) (w : World) :
  (binOp .eql 34 (.agg (bvs a).toArray) (.agg (bvs b).toArray)).run Tryz.prog w = .ok (.bool (decide (a = b))) w := by
 rw [run_eql_struct, x0p a b ha hb]; rfl
/-! ### Rules for a quiet walk -/
theorem q2z {P : Program} {C : World → Prop} {o : Oper} {a : Act} {K : Act → Prop} (v : Value) (h : ∀ w, C w → (execOp a.eval o).run P w = .ok (.value v) w) (hk : K (a.put o.dst v)) : o.quiet P a C K :=
 ⟨v, fun w hw => by unfold Oper.quietAt; rw [h w hw]; exact ⟨rfl, rfl⟩, hk⟩
theorem Since.arr {w0 : World} {b : Nat} {t : TypeId} {cs : List Value} (h : Arr w0 b t cs) (s : Since w0) : Arr s.w b t cs := Arr.below h s.ok (Arr.lt h)
theorem j4s {P : Program} {w0 : World} {o : Oper} {a : Act} {K : Act → Prop} (ty : TypeId) (x : Operand) (ho : o.op = .load ty x) (g : Nat) (hx : a.eval x = .pointer (some ⟨g, 0, none⟩)) (t : TypeId) (cs : List Value) (d : TypeDesc)
  (hrow : Arr w0 g t cs) (hu : P.underlying ty = some d) (hd : (match d with | .struct _ | .array _ _ => true | _ => false) = true) (hi : (P.info? ty).map (·.size) = some cs.toArray.size)
  (hk : K (a.put o.dst (.agg cs.toArray))) : o.quiet P a (fun w' => ∃ s : Since w0, w' = s.w) K := by
 refine q2z (.agg cs.toArray) (fun w hw => ?_) hk
 obtain ⟨s, rfl⟩ := hw
 unfold execOp
 simp only [ho, hx, Instr.loadAt, Instr.sureAddr, Sem.run_bind, Sem.run_pure, Result.andThen_ok, run_loadVar_row s.w g t ty cs.toArray (0, 0) d (Since.arr hrow s) hu hd hi]
end Go.Proofs.YtbbfnpfkbbpjgaaGreat
namespace Go.Proofs.YtbbfnpfkbbpjgaaGreat
open Go.RowKit Go.Lib
set_option linter.unusedVariables false
set_option linter.unusedSimpArgs false
set_option maxRecDepth 100000
set_option maxHeartbeats 4000000
theorem sizeBuilder : (Tryz.prog.info? 113).map (·.size) = some 2 := by kernel_rfl
theorem liesBuilder : liesAt Tryz.prog Tryz.prog.depth 113 (2 / Tryz.prog.cellsOf 113) 0 113 1 = true := by kernel_rfl
theorem info8 : (Tryz.prog.info? 5).map (fun i => (i.zero, i.size, i.bytes)) = some (some (.int .u8 0), 1, 1) := by kernel_rfl
theorem q6t (b : Nat) (w : World) (h0 : w.cell? ⟨b, 0, none⟩ = some (.pointer (some ⟨b, 0, none⟩))) :
  Calls Tryz.prog 150 #[.pointer (some ⟨b, 0, none⟩)] w fun e w' => e = .returned (.tuple #[]) ∧ w' = w := by
 obtain ⟨j, hj, _⟩ := Option.map_eq_some_iff.1 sizeBuilder
 go_enter Tryz.func150, Tryz.ntmps150
 go_wp2
 rw [Lib.run_neq_ptr_same w _ Tryz.underlying111 hj]
 go_wp2
 go_end0
 exact ⟨rfl, rfl⟩
theorem j4l (b : Nat) (w : World) (h0 : w.cell? ⟨b, 0, none⟩ = some (.pointer none)) (hsh : w.shape? b = some (113, 2)) (hfz : w.frozen? ⟨b, 0, none⟩ = false) :
  Calls Tryz.prog 150 #[.pointer (some ⟨b, 0, none⟩)] w fun e w' => e = .returned (.tuple #[]) ∧ w' = w.setCell ⟨b, 0, none⟩ (.pointer (some ⟨b, 0, none⟩)) := by
 obtain ⟨j, hj, hjs⟩ := Option.map_eq_some_iff.1 sizeBuilder
 go_enter Tryz.func150, Tryz.ntmps150
 go_wp2
 rw [Lib.run_to_unsafe w ⟨b, 0, none⟩ Tryz.underlying111 Tryz.underlying202 hj (by rw [hjs]; decide) hsh (Nat.zero_lt_succ 1)]
 simp only [Result.andThen]
 rw [Oper.upon_value]
 go_wp2
 rw [run_callFunc_extern Tryz.func177 (by kernel_rfl) (by kernel_rfl) (by kernel_rfl) (e := Extern.AbiNoEscape.same) (by kernel_rfl)]
 rw [Lib.run_noEscape]
 simp only [Result.andThen]
 rw [Oper.upon_value]
 go_wp2
 rw [Lib.run_from_unsafe w ⟨b, 0, none⟩ Tryz.underlying202 Tryz.underlying111 hj hsh liesBuilder]
 simp only [Result.andThen]
 rw [Oper.upon_value]
 go_wp2
 go_end0
 exact ⟨rfl, rfl⟩
theorem copyCheck (B b : Nat) (bs : List Value) (w : World) (h : Lib.IsBuilder 113 5 B b bs w) :
  Calls Tryz.prog 150 #[.pointer (some ⟨b, 0, none⟩)] w fun e w' => e = .returned (.tuple #[]) ∧ (Lib.BuilderAt 113 5 B b (.pointer (some ⟨b, 0, none⟩)) bs w' ∧ Below B w w') := by
 rcases h with h | h
 ·refine (j4l b w h.cell0 h.shape h.frozen0).mono ?_
  rintro e w' ⟨rfl, rfl⟩
  exact ⟨rfl, h.used _, (Below.refl B w).setCell (p := ⟨b, 0, none⟩) h.1 _⟩
 ·refine (q6t b w h.cell0).mono ?_
  rintro e w' ⟨rfl, rfl⟩
  exact ⟨rfl, h, Below.refl B _⟩
theorem writeString (B b : Nat) (bs : List Value) (s : ByteArray) (w : World) (h : Lib.IsBuilder 113 5 B b bs w) (hlen : bs.length + s.size ≤ 140737488355328) (hBw : B ≤ w.heap.size) :
  Calls Tryz.prog 75 #[.pointer (some ⟨b, 0, none⟩), .string s] w fun e w' => e = .returned (.tuple #[.int .i64 s.size, .nilIface]) ∧ (Lib.BuilderAt 113 5 B b (.pointer (some ⟨b, 0, none⟩)) (bs ++ Lib.strCells s) w' ∧ Below B w w') := by
 obtain ⟨i0, hi, hz0, hz1, hz2⟩ := info_parts info8
 go_enter Tryz.func75, Tryz.ntmps75
 go_wp2_with (go_at_call 150; refine (copyCheck B b bs _ h).mono ?_)
 rintro e w1 ⟨rfl, h1, hb1⟩
 obtain ⟨hB, v, hbk, hown, hne⟩ := h1
 have c0 : w1.cell? ⟨b, 0, none⟩ = some (.pointer (some ⟨b, 0, none⟩)) := by rw [Lib.cell_of_heap hbk]; rfl
 have c1 : w1.cell? ⟨b, 1, none⟩ = some v := by rw [Lib.cell_of_heap hbk]; rfl
 go_wp2_with (at_builtin; refine Lib.wpList_append_own_string _ rfl _ _ 93 9 rfl B 5 i0 Tryz.underlying93 Tryz.underlying9 hi hz0 hz1 hz2 _ _ _ rfl hown s rfl ?c3 ?c4 ?c5 ?_)
 case c3 => unfold maxLen; omega
 case c4 => omega
 case c5 => have := hb1.size; omega
 intro v' w2 hown' hgrow _
 have hlt : b < w1.heap.size := by
  rcases Nat.lt_or_ge b w1.heap.size with h' | h'
  ·exact h'
  ·simp [Array.getElem?_eq_none h'] at hbk
 have hb2 : w2.heap[b]? = some (.cells #[.pointer (some ⟨b, 0, none⟩), v] 113 (0, 0)) := by
  rw [hgrow.block b hlt (fun e => hne e.symm)]
  exact hbk
 have d0 : w2.cell? ⟨b, 0, none⟩ = some (.pointer (some ⟨b, 0, none⟩)) := by rw [Lib.cell_of_heap hb2]; rfl
 have d1 : w2.cell? ⟨b, 1, none⟩ = some v := by rw [Lib.cell_of_heap hb2]; rfl
 have f1 : w2.frozen? ⟨b, 1, none⟩ = false := Lib.frozen_of_heap hb2 1
 obtain ⟨ao, n', cap, rfl⟩ : ∃ ao n' cap, v' = .slice ao n' cap := by
  rcases hown'.2 with ⟨hv, _⟩ | ⟨g, cap, cur, hv, _⟩
  ·exact ⟨_, _, _, hv⟩
  ·exact ⟨_, _, _, hv⟩
 go_wp2
 go_ret2
 refine ⟨rfl, ?_, ?_⟩
 ·exact Lib.BuilderAt.put (T := 113) (e := 5) hB hb2 (bs' := bs ++ Lib.strCells s) (by simpa [Lib.strCells_length] using hown') (by decide)
 ·exact (hb1.grown hgrow (by have := hb1.size; omega) (fun k hk => (hown.lt k hk).1)).setCell (p := ⟨b, 1, none⟩) hB _
theorem q3t (l : List UInt8) (w : World) (hl : l.length = 32) :
  Calls Tryz.prog 126 #[hv l] w fun e w' => e = .returned (.string ⟨l.toArray⟩) ∧ Below w.heap.size w w' := by
 unfold hv
 have ht := Byts.text (P := Tryz.prog) (Arr.new w (bvs l) 34 : Byts _ _ _ l) 93 9 5 32 32 hl Tryz.underlying93 Tryz.underlying5 Tryz.underlying9
 clear hl
 go_enter Tryz.func126, Tryz.ntmps126
 go_wp2_with fail
 go_ret
 exact ⟨rfl, below1 _ _⟩
theorem q5d {P : Program} {fn : Func} {p u : Tmp} {ty : TypeId} (h : fn.results = #[.cell p ty, .tmp u]) (tmps : Array Value) (w : World) (g : Nat) (t : TypeId) (cs : Array Value) (fr : Nat × Nat) (d : TypeDesc) (v : Value)
  (hp : tmps.getD p undef = .pointer (some ⟨g, 0, none⟩)) (hv : tmps.getD u undef = v) (hg : w.heap[g]? = some (.cells cs t fr))
  (hu : P.underlying ty = some d) (hd : (match d with | .struct _ | .array _ _ => true | _ => false) = true) (hi : (P.info? ty).map (·.size) = some cs.size) :
  (results fn tmps).run P w = .ok (.tuple #[.agg cs, v]) w := by
 rw [results_cell_tmp h, hp, hv]
 simp [asAddr, run_loadVar_row w g t ty cs fr d hg hu hd hi]
theorem j0y (s : ByteArray) (p : Nat) (h : p < s.size) : ((s[p]'h).toNat : Int) = ((s.data.toList.getD p 0).toNat : Int) := by
 have hl : p < s.data.toList.length := by simpa using h
 rw [List.getD_eq_getElem?_getD, List.getElem?_eq_getElem hl, Option.getD_some]
 have e : s.data.toList[p] = s[p] := by simp; rfl
 rw [e]
theorem j9u {w w1 : World} {base : Nat} {v : Value} {n size : Nat} {e : TypeId} {xs : List Value} {o : Obj} (hown : w.ownsRow base e size v n xs) (hg : (w.alloc o).grownBy w1 v.ownBlock) (hB : base ≤ w.heap.size) : Below base w w1 :=
 ((Below.refl base w).alloc hB o).grown hg (by simp; omega) (fun k hk => (hown.lt k hk).1)
/-! ### carry -/
end Go.Proofs.YtbbfnpfkbbpjgaaGreat
