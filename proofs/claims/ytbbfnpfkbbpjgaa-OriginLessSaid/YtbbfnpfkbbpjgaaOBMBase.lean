/- Several texts of this proof in one: Region, Law, Words, ShaSpec, Wide, Cmp, Arr, ShaWords, ShaGoes, Byts, ShaSmall, ShaSum, OpenHash, HashEq, Builder, Hex, Read, Ref02. -/
import Derived.WalkKit
import Derived.Deep.Quiet
import Derived.Deep.QuietTactic
import Derived.BigQuiet
import Derived.StillTail
import Derived.Test.YtbbfnpfkbbpjgaaRows
import Derived.ProofKit
import Derived.OpenShut
import Derived.Laws.BitsAllLaws
import Derived.WalkSpells
import Derived.WalkLawsBesides
import Derived.Lib.Mul64
import Derived.Shelf.Bits.Mul64
import Derived.Deep.RegionHeld3
import Derived.Laws.Rows
import Derived.Laws.IdiomStrings
import Derived.Test.YtbbfnpfkbbpjgaaOBShelf
import Derived.ChangeKeysEq
import Derived.Shelf.Strings.Builder1
import Derived.Lib.Bytealg
/- A region that draws its order: one walk in the order of the text serves every order, where each operation but the last few leaves one value in every world that lies behind the region's first one (below a block number nothing has changed): loads of old cells, arithmetic, calls that only make new memory. The last few operations, whose order is forced, may do anything. -/
namespace Go.Proofs.Ytbbfnpfkbbpjgaa
open Go.RowKit

/-- A world behind w0: all that lay in w0 is as it was. -/
structure Since (w0 : World) where
  w : World
  ok : Below w0.heap.size w0 w
instance since_nonempty (w : World) : Nonempty (Since w) := ⟨⟨w, Below.refl _ _⟩⟩

section
variable {P : Program} {ops : Array Oper} {md : Region.Mode} {C : World → Prop}

/-- Whatever order is picked from here on: for f steps operations below n come up, each quiet; then L. -/
def wpHead (P : Program) (md : Region.Mode) (ops : Array Oper) (C : World → Prop) (n : Nat) (L : Array Bool → Act → Prop) : Nat → Array Bool → Act → Prop
  | 0, listed, a => L listed a
  | f + 1, listed, a => Region.ready md ops listed ≠ [] ∧ ∀ i ∈ Region.ready md ops listed, i < n ∧ qOp P ops C i (wpHead P md ops C n L f (listed.setIfInBounds i true)) a

theorem wpAny_of_wpHead {n g : Nat} {L : Array Bool → Act → Prop} {Q' : Exit → Act → World → Prop} (hL : ∀ listed a w, C w → L listed a → wpAny P md ops Q' g listed a w) :
    ∀ (f : Nat) (listed : Array Bool) (a : Act) (w : World), C w → wpHead P md ops C n L f listed a → wpAny P md ops Q' (f + g) listed a w
  | 0, listed, a, w, hw, h => by rw [Nat.zero_add]; exact hL _ _ _ hw h
  | f + 1, listed, a, w, hw, h => by
    rw [show f + 1 + g = (f + g) + 1 by omega]
    exact ⟨fun h0 => absurd h0 h.1, fun i hi => wpOp_of_qOp hw (fun a' w' hw' h' => wpAny_of_wpHead hL f _ a' w' hw' h') (h.2 i hi).2⟩

theorem wpHead_first {n i : Nat} {oi : Oper} {v : Value} {L : Array Bool → Act → Prop} (hi : ops[i]? = some oi) (hsel : ∀ (j : Nat) (o : Oper) cs b, ops[j]? = some o → o.op ≠ .select cs b)
    (hs : Region.sinkB md ops n = true) (hc : Region.chainB md ops n = true) (hn : n < ops.size) (hin : i < n) (hdone : ∀ listed a, L listed a → ∀ j ∈ Region.ready md ops listed, n ≤ j) :
    ∀ (f : Nat) (listed : Array Bool) (a : Act), HeadInv md ops n listed →
      (∀ j oj, ops[j]? = some oj → j ≠ i → listed.getD j true = false → (∀ e ∈ oj.after, Region.binds md e = true → e.on ≠ i) → oi.apart ops oj = true) →
      i ∈ Region.ready md ops listed → YieldsIn P ops C oi v a →
      wpHead P md ops C n L f (listed.setIfInBounds i true) (a.put oi.dst v) → wpHead P md ops C n L (f + 1) listed a := by
  intro f
  induction f with
  | zero =>
    intro listed a inv _ hr hy H
    refine ⟨fun h => (by rw [h] at hr; cases hr), fun j hj => ?_⟩
    have hjn : j < n := by
      by_cases h : j < n
      · exact h
      · exact absurd hj (tail_waits hs hc hn inv _ i rfl hin (mem_ready.1 hr).1 j (by omega))
    refine ⟨hjn, ?_⟩
    by_cases hji : j = i
    · subst hji; exact hy.qOp hi H
    · exact absurd (hdone _ _ H j (ready_mono hj hji)) (by omega)
  | succ f ih =>
    intro listed a inv hfree hr hy H
    have hun := (mem_ready.1 hr).1
    refine ⟨fun h => (by rw [h] at hr; cases hr), fun j hj => ?_⟩
    have hjn : j < n := by
      by_cases h : j < n
      · exact h
      · exact absurd hj (tail_waits hs hc hn inv _ i rfl hin hun j (by omega))
    refine ⟨hjn, ?_⟩
    by_cases hji : j = i
    · subst hji; exact hy.qOp hi H
    · obtain ⟨hjun, oj, hoj, hall⟩ := mem_ready.1 hj
      have hnot : ∀ e ∈ oj.after, Region.binds md e = true → e.on ≠ i := fun e he hb heq => by
        have h1 := hall e he hb
        rw [heq, getD_both hun] at h1
        cases h1
      refine qOp_mono (fun a' h3 => ih _ a' (inv.set hj hjn) (fun k ok hk hki hu hno => ?_) (ready_mono hr (Ne.symm hji)) h3.1 ?_)
        (qOp_put hoj (hfree j oj hoj hji hjun hnot) (fun cs b => hsel i oi cs b hi) (fun cs b => hsel j oj cs b hoj) hy (H.2 j (ready_mono hj hji)).2)
      · refine hfree k ok hk hki ?_ hno
        by_cases hjk : j = k
        · subst hjk; exact hjun
        · rw [getD_set_ne true hjk] at hu; exact hu
      · rw [Array.setIfInBounds_comm _ _ hji]
        exact h3.2

theorem wpHead_lex {n g : Nat} {Lq : Act → Prop} (hsel : Region.noSelect ops = true) (hs : Region.sinkB md ops n = true) (hc : Region.chainB md ops n = true) (hn : n < ops.size) :
    ∀ (l : List Oper) (k : Nat) (listed : Array Bool) (a : Act), (∀ j, j < l.length → l[j]? = ops[k + j]?) → k + l.length = n → HeadInv md ops n listed →
    Region.lexHead md ops g l.length k listed = true → wpQuiet P ops C Lq l a →
    wpHead P md ops C n (fun listed' a' => Region.seqB md ops g n listed' = true ∧ Lq a') l.length listed a
  | [], k, listed, a, _, hk, _, hB, h => by
    obtain rfl : k = n := by simpa using hk
    exact ⟨by simpa [Region.lexHead] using hB, h⟩
  | o :: l, k, listed, a, hl, hk, inv, hB, h => by
    have h0 : ops[k]? = some o := by simpa using (hl 0 (by simp)).symm
    simp only [List.length_cons, Region.lexHead, Bool.and_eq_true] at hB
    simp only [List.length_cons] at hk
    have hr : k ∈ Region.ready md ops listed := by simpa using hB.1.1
    have hq : qOp P ops C k (wpQuiet P ops C Lq l) a := by unfold qOp; simp only [h0]; exact h
    obtain ⟨v, hy, hK⟩ := yieldsIn_of_qOp h0 hq
    exact wpHead_first h0 (Region.noSelect_spec hsel) hs hc hn (by omega) (fun listed' a' hL => seqB_ready hL.1) l.length listed a inv (Region.free_spec h0 hB.1.2) hr hy
      (wpHead_lex hsel hs hc hn l (k + 1) _ _ (fun j hj => by have := hl (j + 1) (by simp; omega); simpa [Nat.add_assoc, Nat.add_comm 1 j] using this) (by omega) (inv.set hr (by omega)) hB.2 hK)

theorem wp_region_quiet_tail {id : Nat} {Q : Exit → Act → World → Prop} {a : Act} {w : World} {l : List Oper} (n : Nat) (hm : P.follows .mixedOrders = true) (hB : Region.lexTailB .any l.toArray n = true) (hC : C { w with drawn := w.drawn + 1 })
    (h : wpQuiet P l.toArray C (fun a' => ∀ w', C w' → wpList P l.toArray Q (l.drop n) a' w') (l.take n) a) : (Code.region id l.toArray true).wp P Q a w := by
  simp only [Region.lexTailB, Bool.and_eq_true, decide_eq_true_eq] at hB
  obtain ⟨⟨⟨⟨hsel, hn⟩, hs⟩, hc⟩, hlex⟩ := hB
  have hn' : n < l.length := by simpa using hn
  have htl : (l.take n).length = n := by simp; omega
  have hdl : (l.drop n).length = l.toArray.size - n := by simp
  have H := wpHead_lex (md := .any) (g := l.toArray.size - n) hsel hs hc hn (l.take n) 0 (Array.replicate l.toArray.size false) a
    (fun j hj => by rw [htl] at hj; simp [hj]) (by simpa using htl)
    ⟨by simp, fun j oj _ hl => (by rw [getD_replicate_false] at hl; cases hl), fun t _ ht => getD_in (by simpa using ht) (getD_replicate_false _ _)⟩ (by rw [htl]; exact hlex) h
  refine wp_region_any hm ?_
  have := wpAny_of_wpHead (Q' := Q) (g := l.toArray.size - n) (fun listed a' w' hw' hL => by
    have := wpAny_of_seq (md := .any) (Q' := Q) (l.drop n) n listed a' w' (fun j => by simp [List.getElem?_drop]) (by rw [hdl]; exact hL.1) (hL.2 w' hw')
    rwa [hdl] at this) _ _ _ _ hC H
  rw [htl, show n + (l.toArray.size - n) = l.toArray.size by omega] at this
  exact this
end

/-- The class of worlds in which the region's operations are walked: behind w, below B as w was. -/
theorem region_since {P : Program} {id : Nat} {Q : Exit → Act → World → Prop} {a : Act} {w : World} {l : List Oper} (hm : P.follows .mixedOrders = true) (hB : Region.lexB .any l.toArray = true)
    (h : wpQuiet P l.toArray (fun w' => ∃ s : Since w, w' = s.w) (fun a' => ∀ w', Below w.heap.size w w' → Q .normal a' w') l a) : (Code.region id l.toArray true).wp P Q a w := by
  refine wp_region_quiet (C := fun w' => ∃ s : Since w, w' = s.w) hm hB ⟨⟨_, (Below.refl _ w).drew⟩, rfl⟩ ?_
  have : ∀ (ls : List Oper) (a : Act), wpQuiet P l.toArray (fun w' => ∃ s : Since w, w' = s.w) (fun a' => ∀ w', Below w.heap.size w w' → Q .normal a' w') ls a →
      wpQuiet P l.toArray (fun w' => ∃ s : Since w, w' = s.w) (fun a' => ∀ w', (∃ s : Since w, w' = s.w) → Q .normal a' w') ls a := by
    intro ls
    induction ls with
    | nil => intro a h w' ⟨s, hs⟩; subst hs; exact h _ s.ok
    | cons o ls ih =>
      intro a h
      unfold wpQuiet at h ⊢
      split
      · rename_i hw; rw [if_pos hw] at h; exact Oper.quiet_mono ih h
      · rename_i hw; rw [if_neg hw] at h; exact ih _ h
  simpa using this l a h

theorem region_since_tail {P : Program} {id : Nat} {Q : Exit → Act → World → Prop} {a : Act} {w : World} {l : List Oper} (n : Nat) (hm : P.follows .mixedOrders = true) (hB : Region.lexTailB .any l.toArray n = true)
    (h : wpQuiet P l.toArray (fun w' => ∃ s : Since w, w' = s.w) (fun a' => ∀ w', Below w.heap.size w w' → wpList P l.toArray Q (l.drop n) a' w') (l.take n) a) : (Code.region id l.toArray true).wp P Q a w := by
  refine wp_region_quiet_tail (C := fun w' => ∃ s : Since w, w' = s.w) n hm hB ⟨⟨_, (Below.refl _ w).drew⟩, rfl⟩ ?_
  have : ∀ (ls : List Oper) (a : Act), wpQuiet P l.toArray (fun w' => ∃ s : Since w, w' = s.w) (fun a' => ∀ w', Below w.heap.size w w' → wpList P l.toArray Q (l.drop n) a' w') ls a →
      wpQuiet P l.toArray (fun w' => ∃ s : Since w, w' = s.w) (fun a' => ∀ w', (∃ s : Since w, w' = s.w) → wpList P l.toArray Q (l.drop n) a' w') ls a := by
    intro ls
    induction ls with
    | nil => intro a h w' ⟨s, hs⟩; subst hs; exact h _ s.ok
    | cons o ls ih =>
      intro a h
      unfold wpQuiet at h ⊢
      split
      · rename_i hw; rw [if_pos hw] at h; exact Oper.quiet_mono ih h
      · rename_i hw; rw [if_neg hw] at h; exact ih _ h
  exact this _ a h

/-- A cell of w0, in every world behind it. -/
theorem Since.cell {w0 : World} {a : Addr} {v : Value} (h : w0.cell? a = some v) (s : Since w0) : s.w.cell? a = some v := (s.ok.cell (World.block_lt_of_cell? w0 a h)).trans h
/-- A callee's contract, met in a world behind: it makes new memory alone. -/
theorem since_of {P : Program} {f : FuncId} {args : Array Value} {w0 : World} {s : Since w0} {v : Value}
    (h : Calls P f args s.w fun e w' => e = .returned v ∧ Below s.w.heap.size s.w w') : Calls P f args s.w fun e w'' => e = .returned v ∧ ∃ s' : Since w0, w'' = s'.w :=
  h.mono fun _ w' ⟨he, hb⟩ => ⟨he, ⟨w', s.ok.trans (hb.mono s.ok.size)⟩, rfl⟩
end Go.Proofs.Ytbbfnpfkbbpjgaa

/- From 'the call returns true and nothing that was there before has changed' to what a law's row asks: one lemma for every law of this seat. -/
namespace Go.Proofs.Ytbbfnpfkbbpjgaa
open Go.ChangeShapes Go.WideShapes Go.ChangeAt Go.RowKit

theorem ownsKnob : ownKnob Try.prog.godebug = none := by kernel_rfl
theorem isLaidOut : laidOutB Try.prog = true := by kernel_rfl

theorem trodAll_below {H : Type} {enc : TypeId × Value → H} {P : Program} (hl : laidOutB P = true) {W W' : World} (hb : Below W.heap.size W W') :
    ∀ (ts : List TypeId) (vs : List Value) (ds : List (DataW H)) (ps : List MemPlace), (ts.all fun t => P.readableRec t && decide (t < P.types.size)) = true →
      DataW.TrodAll enc P W 0 (fun _ => true) true ts vs ds ps → (∀ x ∈ ps, x.block < W.heap.size) → DataW.TrodAll enc P W' 0 (fun b => decide (b < W.heap.size)) true ts vs ds ps
  | [], vs, ds, ps, _, h, _ => by
    cases vs <;> cases ds <;> simp_all [DataW.TrodAll]
  | t :: ts, vs, ds, ps, hr, h, hlt => by
    obtain ⟨v, vs', d, ds', p, q, rfl, rfl, rfl, h0, h1⟩ := trodAll_cons h
    simp only [List.all_cons, Bool.and_eq_true, decide_eq_true_eq] at hr
    exact ⟨p, q, Below.trod hl hr.1.1 hr.1.2 h0 hb (fun x hx => hlt x (List.mem_append.2 (.inl hx))), trodAll_below hl hb ts vs' ds' q (by simpa using hr.2) h1 (fun x hx => hlt x (List.mem_append.2 (.inr hx))), rfl⟩

/-- What a law's row asks behind the call. -/
theorem law_post {H : Type} {enc : TypeId × Value → H} {P : Program} {f : Func} {s : ChangeSpec} (hl : laidOutB P = true) (hr : (f.params.toList.all fun t => P.readableRec t && decide (t < P.types.size)) = true) {tb : TypeId} (hres : f.resultTypes = #[tb]) (hub : P.underlying tb = some .bool)
    (hsv : s.vars = []) {W W' : World} {args : Array Value} {ds gs : List (DataW H)} {before : List MemPlace} (hW : DataW.Whole enc P f.params.toList s.vars false W args.toList ds gs before) (hb : Below W.heap.size W W')
    (hfn : (s.fn H (ds ++ gs)).results = [.lit (.bool true)] ∧ (s.fn H (ds ++ gs)).args = ds ∧ (s.fn H (ds ++ gs)).vars = []) : s.post enc P f false true false false W args (.bool true) W' := by
  have hW' := hW
  obtain ⟨p, q, hA, hV, rfl, hfz, hnd⟩ := hW
  have hlt := hW'.lt
  rw [hsv] at hV
  obtain ⟨rfl, rfl⟩ := trodVars_none hV
  refine ⟨ds, [], p ++ [], [], p, [], hW', ?_, ?_, ?_, Below.frame hb _, fun h => by cases h⟩
  · rw [hfn.1, hres]
    exact trodAll_cons_mk (shut_bool hub _) trodAll_mk0
  · rw [hfn.2.1]
    exact trodAll_below hl hb _ _ _ _ hr hA (fun x hx => hlt x (by simpa using hx))
  · rw [hfn.2.2, hsv]
    exact rfl
end Go.Proofs.Ytbbfnpfkbbpjgaa

/- Words of 32 bits in the walk's own spelling: wv x is the number that a slot holds; and, or, xor, not, sums without what runs over, shifts. The turn of a word, in the program and in the reference. -/
namespace Go.Proofs.Ytbbfnpfkbbpjgaa
open Go.RowKit Go.Lib

abbrev W32 := BitVec 32
/-- A rotation to the right. -/
def rotr (x : W32) (n : Nat) : W32 := (x >>> n) ||| (x <<< (32 - n))

end Go.Proofs.Ytbbfnpfkbbpjgaa

/- The document's sum (P3.1) in plain Lean: the schedule of a block, the rounds, the padding, the sum. No program in sight. -/
namespace Go.Proofs.Ytbbfnpfkbbpjgaa
open Go.RowKit Go.Lib

/-! ### The schedule. f p is byte p of the block as a word. -/
def part (f : Nat → W32) (k : Nat) : Nat → W32
  | 0 => 0
  | j + 1 => (part f k j) <<< 8 ||| f (4 * k + j)
def fw (f : Nat → W32) (k : Nat) : List W32 := (List.range k).map fun t => part f t 4
def sg0 (x : W32) : W32 := rotr x 7 ^^^ rotr x 18 ^^^ x >>> 3
def sg1 (x : W32) : W32 := rotr x 17 ^^^ rotr x 19 ^^^ x >>> 10
/-- The word behind t words. -/
def nextW (ws : List W32) (t : Nat) : W32 := ws.getD (t - 16) 0 + ws.getD (t - 7) 0 + sg0 (ws.getD (t - 15) 0) + sg1 (ws.getD (t - 2) 0)
def grow (ws : List W32) : Nat → List W32
  | 0 => ws
  | n + 1 => grow ws n ++ [nextW (grow ws n) (ws.length + n)]
def sched (f : Nat → W32) : List W32 := grow (fw f 16) 48
/-- A row that is filled from the left. -/
def fill (l : List W32) (n : Nat) : List W32 := l ++ List.replicate (n - l.length) 0
/-! ### The rounds -/
structure V8 where (a b c d e f g h : W32)
def V8.list (v : V8) : List W32 := [v.a, v.b, v.c, v.d, v.e, v.f, v.g, v.h]
def bs0 (a : W32) : W32 := rotr a 2 ^^^ rotr a 13 ^^^ rotr a 22
def bs1 (e : W32) : W32 := rotr e 6 ^^^ rotr e 11 ^^^ rotr e 25
def ch (e f g : W32) : W32 := (e &&& f) ^^^ (~~~ e &&& g)
def maj (a b c : W32) : W32 := ((a &&& b) ^^^ (a &&& c)) ^^^ (b &&& c)
def rx (v : V8) (k w : W32) : W32 := v.h + bs1 v.e + ch v.e v.f v.g + k + w
def ry (v : V8) : W32 := bs0 v.a + maj v.a v.b v.c
def round1 (v : V8) (k w : W32) : V8 := ⟨rx v k w + ry v, v.a, v.b, v.c, v.d + rx v k w, v.e, v.f, v.g⟩
def rounds (v : V8) (ks ws : List W32) : Nat → V8
  | 0 => v
  | n + 1 => round1 (rounds v ks ws n) (ks.getD n 0) (ws.getD n 0)
def V8.plus (v u : V8) : V8 := ⟨v.a + u.a, v.b + u.b, v.c + u.c, v.d + u.d, v.e + u.e, v.f + u.f, v.g + u.g, v.h + u.h⟩
def rootsL : List W32 := [
  0x428a2f98, 0x71374491, 0xb5c0fbcf, 0xe9b5dba5, 0x3956c25b, 0x59f111f1, 0x923f82a4, 0xab1c5ed5,
  0xd807aa98, 0x12835b01, 0x243185be, 0x550c7dc3, 0x72be5d74, 0x80deb1fe, 0x9bdc06a7, 0xc19bf174,
  0xe49b69c1, 0xefbe4786, 0x0fc19dc6, 0x240ca1cc, 0x2de92c6f, 0x4a7484aa, 0x5cb0a9dc, 0x76f988da,
  0x983e5152, 0xa831c66d, 0xb00327c8, 0xbf597fc7, 0xc6e00bf3, 0xd5a79147, 0x06ca6351, 0x14292967,
  0x27b70a85, 0x2e1b2138, 0x4d2c6dfc, 0x53380d13, 0x650a7354, 0x766a0abb, 0x81c2c92e, 0x92722c85,
  0xa2bfe8a1, 0xa81a664b, 0xc24b8b70, 0xc76c51a3, 0xd192e819, 0xd6990624, 0xf40e3585, 0x106aa070,
  0x19a4c116, 0x1e376c08, 0x2748774c, 0x34b0bcb5, 0x391c0cb3, 0x4ed8aa4a, 0x5b9cca4f, 0x682e6ff3,
  0x748f82ee, 0x78a5636f, 0x84c87814, 0x8cc70208, 0x90befffa, 0xa4506ceb, 0xbef9a3f7, 0xc67178f2]
def startV : V8 := ⟨0x6a09e667, 0xbb67ae85, 0x3c6ef372, 0xa54ff53a, 0x510e527f, 0x9b05688c, 0x1f83d9ab, 0x5be0cd19⟩
def goesV (v : V8) (ws : List W32) : V8 := v.plus (rounds v rootsL ws 64)

/-! ### The sum -/
def noughts (n : Nat) : Nat := (119 - n % 64) % 64
def eightL (n : Nat) : List UInt8 := (List.range 8).map fun i => UInt8.ofNat (n / 2 ^ (56 - 8 * i) % 256)
def padL (s : List UInt8) : List UInt8 := s ++ 128 :: (List.replicate (noughts s.length) 0 ++ eightL (s.length * 8))
def byteW (l : List UInt8) (at_ p : Nat) : W32 := BitVec.ofNat 32 (l.getD (at_ + p) 0).toNat
def states (l : List UInt8) : Nat → V8
  | 0 => startV
  | n + 1 => goesV (states l n) (sched (byteW l (64 * n)))
def outB (v : V8) (i : Nat) : UInt8 := UInt8.ofNat (((v.list.getD (i / 4) 0) >>> (24 - i % 4 * 8)).toNat % 256)
def outL (v : V8) : List UInt8 := (List.range 32).map (outB v)
/-- The sum of a text. -/
def sha (s : List UInt8) : List UInt8 := outL (states (padL s) ((padL s).length / 64))
/-! ### The same by other words -/
/-! ### Known sums -/
def bytesOf (s : String) : List UInt8 := s.toUTF8.toList
end Go.Proofs.Ytbbfnpfkbbpjgaa

/- The walks of package wide: the products, sums and comparisons of wide numbers, as contracts; for every word, no condition. -/
namespace Go.Proofs.Ytbbfnpfkbbpjgaa
open Go.RowKit Go.Lib

theorem hide {p : Prop} (h : p) : Hid p := h
/-- A word: a number of 64 bits. -/
def Word (x : Int) : Prop := 0 ≤ x ∧ x < 18446744073709551616

theorem bcell {W w1 : World} (hb : Below W.heap.size W w1) : (∀ b o, b < W.heap.size → w1.cell? ⟨b, o, none⟩ = W.cell? ⟨b, o, none⟩) ∧ (∀ b o, b < W.heap.size → w1.frozen? ⟨b, o, none⟩ = W.frozen? ⟨b, o, none⟩) :=
  ⟨fun b o h => hb.cell (p := ⟨b, o, none⟩) h, fun b o h => hb.frozen (p := ⟨b, o, none⟩) h⟩

theorem add64 (x y c : Int) (hx : 0 ≤ x) (hy : 0 ≤ y) (hc0 : 0 ≤ c) (hc : c ≤ 1) (w : World) : (callFunc 187 #[.int .u64 x, .int .u64 y, .int .u64 c]).run Try.prog w =
    .ok (.value (.tuple #[.int .u64 ((x + y + c) % 18446744073709551616), .int .u64 ((x + y + c) / 18446744073709551616)])) w := by
  obtain ⟨x, rfl⟩ := Int.eq_ofNat_of_zero_le hx
  obtain ⟨y, rfl⟩ := Int.eq_ofNat_of_zero_le hy
  obtain ⟨c, rfl⟩ := Int.eq_ofNat_of_zero_le hc0
  rw [run_callFunc_extern Try.func187 (by kernel_rfl) (by kernel_rfl) (by kernel_rfl) (e := add64Entry) (by kernel_rfl), run_add64 x y c (by omega) (by omega) (by omega) (by omega)]
  simp only [Result.andThen]
theorem add64_0 (x y : Int) (hx : 0 ≤ x) (hy : 0 ≤ y) (w : World) : (callFunc 187 #[.int .u64 x, .int .u64 y, .int .u64 0]).run Try.prog w =
    .ok (.value (.tuple #[.int .u64 ((x + y) % 18446744073709551616), .int .u64 ((x + y) / 18446744073709551616)])) w := by
  simpa using add64 x y 0 hx hy (Int.le_refl 0) (by decide) w

end Go.Proofs.Ytbbfnpfkbbpjgaa

/- wide.Compare: a contract for every pair of wide numbers. -/
namespace Go.Proofs.Ytbbfnpfkbbpjgaa
open Go.RowKit Go.Lib

theorem later {a b c : World} (h : Below a.heap.size a b) (k : Below b.heap.size b c) : Below a.heap.size a c := h.trans (k.mono h.size)
theorem below2 (w : World) (o1 o2 : Obj) : Below w.heap.size w ((w.alloc o1).alloc o2) := ((Below.refl _ _).alloc (Nat.le_refl _) _).alloc (by simp) _

end Go.Proofs.Ytbbfnpfkbbpjgaa

/- Rows of one-cell values in a block. -/
namespace Go.Proofs.Ytbbfnpfkbbpjgaa
open Go.RowKit Go.Lib

/-- Block b of w holds the values cs, of type t. -/
def Arr (w : World) (b : Nat) (t : TypeId) (cs : List Value) : Prop := w.heap[b]? = some (.cells cs.toArray t (0, 0))
section
variable {w w' : World} {b : Nat} {t : TypeId} {cs : List Value}
theorem Arr.cell (h : Arr w b t cs) {i : Nat} (hi : i < cs.length) : w.cell? ⟨b, i, none⟩ = some (cs.getD i undef) := by
  rw [cell_of_row w b i cs.toArray t (0, 0) h]
  simp [hi]
theorem Arr.thaw (h : Arr w b t cs) (i : Nat) : w.frozen? ⟨b, i, none⟩ = false := frozen_of_row w b i cs.toArray t h
theorem Arr.set (h : Arr w b t cs) (i : Nat) (v : Value) : Arr (w.setCell ⟨b, i, none⟩ v) b t (cs.set i v) := by
  unfold Arr
  rw [heap_setCell_same w b i cs.toArray t v h]
  simp
theorem Arr.lt (h : Arr w b t cs) : b < w.heap.size := by
  unfold Arr at h
  exact (Array.getElem?_eq_some_iff.1 h).1
theorem Arr.later (h : Arr w b t cs) (hb : Below w.heap.size w w') : Arr w' b t cs := by
  unfold Arr
  rw [hb.block b h.lt]
  exact h
theorem Arr.below (h : Arr w b t cs) {B : Nat} (hb : Below B w w') (hB : b < B) : Arr w' b t cs := by
  unfold Arr
  rw [hb.block b hB]
  exact h
theorem Arr.new (w : World) (cs : List Value) (t : TypeId) : Arr (w.alloc (.cells cs.toArray t)) w.heap.size t cs := by
  unfold Arr
  show (w.heap.push _)[w.heap.size]? = _
  simp
theorem Arr.alloc (h : Arr w b t cs) (o : Obj) : Arr (w.alloc o) b t cs := h.later ((Below.refl _ _).alloc (Nat.le_refl _) _)
theorem Arr.load {P : Program} (h : Arr w b t cs) (ty : TypeId) (d : TypeDesc) (hu : P.underlying ty = some d) (hd : (match d with | .struct _ | .array _ _ => true | _ => false) = true) (hi : (P.info? ty).map (·.size) = some cs.length) :
    (loadVar ty ⟨b, 0, none⟩).run P w = .ok (.agg cs.toArray) w :=
  run_loadVar_row w b t ty cs.toArray (0, 0) d h hu hd (by simpa using hi)
theorem Arr.row (h : Arr w b t cs) (cs' : List Value) : Arr (w.setRow b cs'.toArray) b t cs' := setRow_heap w b cs.toArray cs'.toArray t (0, 0) h
end
end Go.Proofs.Ytbbfnpfkbbpjgaa

/- sha.words as a contract. -/
namespace Go.Proofs.Ytbbfnpfkbbpjgaa
open Go.RowKit Go.Lib

end Go.Proofs.Ytbbfnpfkbbpjgaa

/- sha.goes as a contract. (Printed by gen_goes.py.) -/
namespace Go.Proofs.Ytbbfnpfkbbpjgaa
open Go.RowKit Go.Lib

end Go.Proofs.Ytbbfnpfkbbpjgaa

/- Rows of bytes in a block, and their text. -/
namespace Go.Proofs.Ytbbfnpfkbbpjgaa
open Go.RowKit Go.Lib

/-! ### Bytes -/
/-- Bytes as values. -/
def bvs (l : List UInt8) : List Value := l.map fun b => .int .u8 (b.toNat : Int)
theorem bvs_length (l : List UInt8) : (bvs l).length = l.length := by simp [bvs]
theorem bvs_getD (l : List UInt8) (i : Nat) (h : i < l.length) : (bvs l).getD i undef = .int .u8 ((l.getD i 0).toNat : Int) := by simp [bvs, h]
theorem bvs_set (l : List UInt8) (i : Nat) (x : UInt8) : (bvs l).set i (.int .u8 (x.toNat : Int)) = bvs (l.set i x) := by simp [bvs, List.map_set]
theorem bvs_one (l : List UInt8) : (bvs l).all (·.oneCell') = true := by simp only [bvs, List.all_map, List.all_eq_true]; intros; rfl
def Byts (w : World) (b : Nat) (t : TypeId) (l : List UInt8) : Prop := Arr w b t (bvs l)
theorem Byts.cell {w : World} {b : Nat} {t : TypeId} {l : List UInt8} (h : Byts w b t l) {i : Nat} (hi : i < l.length) : w.cell? ⟨b, i, none⟩ = some (.int .u8 ((l.getD i 0).toNat : Int)) := by
  rw [Arr.cell h (by rw [bvs_length]; exact hi), bvs_getD l i hi]
theorem Byts.set {w : World} {b : Nat} {t : TypeId} {l : List UInt8} (h : Byts w b t l) (i : Nat) (x : UInt8) : Byts (w.setCell ⟨b, i, none⟩ (.int .u8 (x.toNat : Int))) b t (l.set i x) := by
  unfold Byts; rw [← bvs_set]; exact Arr.set h i _
/-- The text of a row's bytes. -/
theorem Byts.text {P : Program} {w : World} {b : Nat} {t : TypeId} {l : List UInt8} (h : Byts w b t l) (src dst e : TypeId) (n cap : Nat) (hn : l.length = n) (hs : P.underlying src = some (.slice e)) (he : P.underlying e = some (.int .u8)) (hd : P.underlying dst = some .string) :
    (convert src dst (.slice (some ⟨b, 0, none⟩) n cap)).run P w = .ok (.string ⟨l.toArray⟩) w := by
  subst hn
  refine run_convert_bytes_back w src dst e ⟨b, 0, none⟩ cap l hs he hd (fun j hj => ?_)
  have hadd : (⟨b, 0, none⟩ : Addr).add j = ⟨b, j, none⟩ := by unfold Addr.add; split <;> simp_all
  rw [hadd, h.cell hj]
  simp [hj]
end Go.Proofs.Ytbbfnpfkbbpjgaa

/- sha.start, sha.roots, digit.Eight as contracts. -/
namespace Go.Proofs.Ytbbfnpfkbbpjgaa
open Go.RowKit Go.Lib

theorem below1 (w : World) (o : Obj) : Below w.heap.size w (w.alloc o) := (Below.refl _ _).alloc (Nat.le_refl _) _

/-! ### digit.Eight -/
end Go.Proofs.Ytbbfnpfkbbpjgaa

/- sha.Sum as a contract: what it computes is the sum of ShaSpec. -/
namespace Go.Proofs.Ytbbfnpfkbbpjgaa
open Go.RowKit Go.Lib

def zero32 : List UInt8 := List.replicate 32 0
/-- A hash as a value. -/
def hv (l : List UInt8) : Value := .agg (bvs l).toArray
end Go.Proofs.Ytbbfnpfkbbpjgaa

/- An argument of the type api.Hash is 32 bytes. -/
namespace Go.Proofs.Ytbbfnpfkbbpjgaa
open Go.ChangeShapes Go.WideShapes Go.RowKit

theorem cellsHash : Try.prog.cellsOf 27 = 32 := by kernel_rfl
theorem cellsByte : Try.prog.cellsOf 5 = 1 := by kernel_rfl
end Go.Proofs.Ytbbfnpfkbbpjgaa

/- Two hashes compared; rules for a quiet walk: an operation that yields one value in every world of the class; a whole row loaded. -/
namespace Go.Proofs.Ytbbfnpfkbbpjgaa
open Go.RowKit

set_option maxRecDepth 100000 in
theorem part_byte (a : List UInt8) (i : Nat) (hi : i < a.length) (w : World) : (Go.part 5 (bvs a).toArray i).run Try.prog w = .ok (.int .u8 ((a.getD i 0).toNat : Int)) w := by
  have h2 : (bvs a)[i]? = some (.int .u8 ((a.getD i 0).toNat : Int)) := by simp [bvs, hi]
  unfold Go.part
  simp only [Sem.run_bind, Try.isAgg5, Result.andThen_ok]
  simp [h2]
set_option maxRecDepth 100000 in
theorem eqItems_bytes (a b : List UInt8) (ha : a.length = 32) (hb : b.length = 32) (w : World) : ∀ is : List Nat, (∀ i ∈ is, i < 32) →
    (Op.eqItems 9999 5 1 (bvs a).toArray (bvs b).toArray is).run Try.prog w = .ok (is.all fun i => a.getD i 0 == b.getD i 0) w
  | [], _ => by simp [Op.eqItems]
  | i :: is, h => by
    have hi : i < 32 := h i (by simp)
    have ih := eqItems_bytes a b ha hb w is (fun j hj => h j (by simp [hj]))
    simp only [Op.eqItems, Sem.run_bind, Nat.mul_one]
    rw [part_byte a i (by omega)]
    simp only [Result.andThen_ok]
    rw [part_byte b i (by omega)]
    simp only [Result.andThen_ok]
    rw [run_equalIn_int w 9998 5 .u8 .u8 _ _ Try.underlying5]
    simp only [Result.andThen_ok, List.all_cons]
    by_cases he : a.getD i 0 = b.getD i 0
    · have e1 : (((a.getD i 0).toNat : Int) == ((b.getD i 0).toNat : Int)) = true := by rw [he]; simp
      have e2 : (a.getD i 0 == b.getD i 0) = true := by rw [he]; simp
      rw [e1, e2]
      simpa using ih
    · have e1 : (((a.getD i 0).toNat : Int) == ((b.getD i 0).toNat : Int)) = false := by
        rw [beq_eq_false_iff_ne]
        intro h'
        exact he (UInt8.toNat_inj.1 (by omega))
      have e2 : (a.getD i 0 == b.getD i 0) = false := by rw [beq_eq_false_iff_ne]; exact he
      rw [e1, e2]
      simp
set_option maxRecDepth 100000 in
theorem run_eq_hash (a b : List UInt8) (ha : a.length = 32) (hb : b.length = 32) (w : World) :
    (Op.equalIn 10000 27 (.agg (bvs a).toArray) (.agg (bvs b).toArray)).run Try.prog w = .ok (decide (a = b)) w := by
  obtain ⟨i, hi, _⟩ := Option.map_eq_some_iff.1 (show (Try.prog.info? 5).map (·.size) = some 1 by kernel_rfl)
  rw [run_equalIn_array w 9999 (bvs a).toArray (bvs b).toArray Try.underlying27 hi, cellsByte, eqItems_bytes a b ha hb w _ (fun j hj => List.mem_range.1 hj)]
  congr 1
  by_cases h : a = b
  · subst h; simp
  · rw [decide_eq_false h, Bool.eq_false_iff]
    intro hall
    apply h
    apply List.ext_getElem (by omega)
    intro j h1 h2
    have := List.all_eq_true.1 hall j (List.mem_range.2 (by omega))
    simpa [h1, h2] using this
theorem eq_hash (a b : List UInt8) (ha : a.length = 32) (hb : b.length = 32) (w : World) :
    (binOp .eql 27 (.agg (bvs a).toArray) (.agg (bvs b).toArray)).run Try.prog w = .ok (.bool (decide (a = b))) w := by
  rw [run_eql_struct, run_eq_hash a b ha hb]; rfl

/-! ### Rules for a quiet walk -/
theorem quiet_value {P : Program} {C : World → Prop} {o : Oper} {a : Act} {K : Act → Prop} (v : Value) (h : ∀ w, C w → (execOp a.eval o).run P w = .ok (.value v) w) (hk : K (a.put o.dst v)) : o.quiet P a C K :=
  ⟨v, fun w hw => by unfold Oper.quietAt; rw [h w hw]; exact ⟨rfl, rfl⟩, hk⟩
theorem Since.arr {w0 : World} {b : Nat} {t : TypeId} {cs : List Value} (h : Arr w0 b t cs) (s : Since w0) : Arr s.w b t cs := Arr.below h s.ok (Arr.lt h)
set_option maxRecDepth 100000 in
theorem quiet_eq_hash {C : World → Prop} {o : Oper} {a : Act} {K : Act → Prop} (x y : Operand) (ho : o.op = .binOp .eql 27 x y 27) (l g : List UInt8) (hl : l.length = 32) (hg : g.length = 32)
    (hx : a.eval x = .agg (bvs l).toArray) (hy : a.eval y = .agg (bvs g).toArray) (hk : K (a.put o.dst (.bool (decide (l = g))))) : o.quiet Try.prog a C K := by
  refine quiet_value _ (fun w _ => ?_) hk
  unfold execOp
  simp only [ho, hx, hy, Sem.run_bind]
  rw [run_eqGuard_agg w .eql 27 x y _ _ Try.eqGuardType27]
  simp only [Result.andThen_ok]
  rw [eq_hash l g hl hg]
  simp
end Go.Proofs.Ytbbfnpfkbbpjgaa

/- strings.Builder's copyCheck, WriteByte, WriteString as contracts of this program (turned from the kit's Builder1: here the dump holds no body of copyCheck's panic). -/
namespace Go.Proofs.Ytbbfnpfkbbpjgaa
open Go.RowKit Go.Lib

theorem sizeBuilder : (Try.prog.info? 105).map (·.size) = some 2 := by kernel_rfl
theorem liesBuilder : liesAt Try.prog Try.prog.depth 105 (2 / Try.prog.cellsOf 105) 0 105 1 = true := by kernel_rfl
theorem info8 : (Try.prog.info? 5).map (fun i => (i.zero, i.size, i.bytes)) = some (some (.int .u8 0), 1, 1) := by kernel_rfl

set_option maxHeartbeats 1000000 in
set_option maxRecDepth 100000 in
theorem copyCheck_used (b : Nat) (w : World) (h0 : w.cell? ⟨b, 0, none⟩ = some (.pointer (some ⟨b, 0, none⟩))) :
    Calls Try.prog 125 #[.pointer (some ⟨b, 0, none⟩)] w fun e w' => e = .returned (.tuple #[]) ∧ w' = w := by
  obtain ⟨j, hj, _⟩ := Option.map_eq_some_iff.1 sizeBuilder
  go_enter Try.func125, Try.ntmps125
  go_wp2
  rw [Lib.run_neq_ptr_same w _ Try.underlying103 hj]
  go_wp2
  go_end0
  exact ⟨rfl, rfl⟩

set_option maxHeartbeats 1000000 in
set_option maxRecDepth 100000 in
theorem copyCheck_fresh (b : Nat) (w : World) (h0 : w.cell? ⟨b, 0, none⟩ = some (.pointer none)) (hsh : w.shape? b = some (105, 2)) (hfz : w.frozen? ⟨b, 0, none⟩ = false) :
    Calls Try.prog 125 #[.pointer (some ⟨b, 0, none⟩)] w fun e w' => e = .returned (.tuple #[]) ∧ w' = w.setCell ⟨b, 0, none⟩ (.pointer (some ⟨b, 0, none⟩)) := by
  obtain ⟨j, hj, hjs⟩ := Option.map_eq_some_iff.1 sizeBuilder
  go_enter Try.func125, Try.ntmps125
  go_wp2
  rw [Lib.run_to_unsafe w ⟨b, 0, none⟩ Try.underlying103 Try.underlying217 hj (by rw [hjs]; decide) hsh (Nat.zero_lt_succ 1)]
  simp only [Result.andThen]
  rw [Oper.upon_value]
  go_wp2
  rw [run_callFunc_extern Try.func164 (by kernel_rfl) (by kernel_rfl) (by kernel_rfl) (e := Extern.AbiNoEscape.same) (by kernel_rfl)]
  rw [Lib.run_noEscape]
  simp only [Result.andThen]
  rw [Oper.upon_value]
  go_wp2
  rw [Lib.run_from_unsafe w ⟨b, 0, none⟩ Try.underlying217 Try.underlying103 hj hsh liesBuilder]
  simp only [Result.andThen]
  rw [Oper.upon_value]
  go_wp2
  go_end0
  exact ⟨rfl, rfl⟩

theorem copyCheck (B b : Nat) (bs : List Value) (w : World) (h : Lib.IsBuilder 105 5 B b bs w) :
    Calls Try.prog 125 #[.pointer (some ⟨b, 0, none⟩)] w fun e w' => e = .returned (.tuple #[]) ∧ (Lib.BuilderAt 105 5 B b (.pointer (some ⟨b, 0, none⟩)) bs w' ∧ Below B w w') := by
  rcases h with h | h
  · refine (copyCheck_fresh b w h.cell0 h.shape h.frozen0).mono ?_
    rintro e w' ⟨rfl, rfl⟩
    exact ⟨rfl, h.used _, (Below.refl B w).setCell (p := ⟨b, 0, none⟩) h.1 _⟩
  · refine (copyCheck_used b w h.cell0).mono ?_
    rintro e w' ⟨rfl, rfl⟩
    exact ⟨rfl, h, Below.refl B _⟩

set_option maxHeartbeats 2000000 in
set_option maxRecDepth 100000 in
theorem writeString (B b : Nat) (bs : List Value) (s : ByteArray) (w : World) (h : Lib.IsBuilder 105 5 B b bs w) (hlen : bs.length + s.size ≤ 140737488355328) (hBw : B ≤ w.heap.size) :
    Calls Try.prog 63 #[.pointer (some ⟨b, 0, none⟩), .string s] w fun e w' => e = .returned (.tuple #[.int .i64 s.size, .nilIface]) ∧ (Lib.BuilderAt 105 5 B b (.pointer (some ⟨b, 0, none⟩)) (bs ++ Lib.strCells s) w' ∧ Below B w w') := by
  obtain ⟨i0, hi, hz0, hz1, hz2⟩ := info_parts info8
  go_enter Try.func63, Try.ntmps63
  go_wp2_with (go_at_call 125; refine (copyCheck B b bs _ h).mono ?_)
  rintro e w1 ⟨rfl, h1, hb1⟩
  obtain ⟨hB, v, hbk, hown, hne⟩ := h1
  have c0 : w1.cell? ⟨b, 0, none⟩ = some (.pointer (some ⟨b, 0, none⟩)) := by rw [Lib.cell_of_heap hbk]; rfl
  have c1 : w1.cell? ⟨b, 1, none⟩ = some v := by rw [Lib.cell_of_heap hbk]; rfl
  go_wp2_with (at_builtin; refine Lib.wpList_append_own_string _ rfl _ _ 63 9 rfl B 5 i0 Try.underlying63 Try.underlying9 hi hz0 hz1 hz2 _ _ _ rfl hown s rfl ?c3 ?c4 ?c5 ?_)
  case c3 => unfold maxLen; omega
  case c4 => omega
  case c5 => have := hb1.size; omega
  intro v' w2 hown' hgrow _
  have hlt : b < w1.heap.size := by
    rcases Nat.lt_or_ge b w1.heap.size with h' | h'
    · exact h'
    · simp [Array.getElem?_eq_none h'] at hbk
  have hb2 : w2.heap[b]? = some (.cells #[.pointer (some ⟨b, 0, none⟩), v] 105 (0, 0)) := by
    rw [hgrow.block b hlt (fun e => hne e.symm)]
    exact hbk
  have d0 : w2.cell? ⟨b, 0, none⟩ = some (.pointer (some ⟨b, 0, none⟩)) := by rw [Lib.cell_of_heap hb2]; rfl
  have d1 : w2.cell? ⟨b, 1, none⟩ = some v := by rw [Lib.cell_of_heap hb2]; rfl
  have f1 : w2.frozen? ⟨b, 1, none⟩ = false := Lib.frozen_of_heap hb2 1
  obtain ⟨ao, n', cap, rfl⟩ : ∃ ao n' cap, v' = .slice ao n' cap := by
    rcases hown'.2 with ⟨hv, _⟩ | ⟨g, cap, cur, hv, _⟩
    · exact ⟨_, _, _, hv⟩
    · exact ⟨_, _, _, hv⟩
  go_wp2
  go_ret2
  refine ⟨rfl, ?_, ?_⟩
  · exact Lib.BuilderAt.put (T := 105) (e := 5) hB hb2 (bs' := bs ++ Lib.strCells s) (by simpa [Lib.strCells_length] using hown') (by decide)
  · exact (hb1.grown hgrow (by have := hb1.size; omega) (fun k hk => (hown.lt k hk).1)).setCell (p := ⟨b, 1, none⟩) hB _
end Go.Proofs.Ytbbfnpfkbbpjgaa

/- sha.Bytes, sha.Hex as contracts. -/
namespace Go.Proofs.Ytbbfnpfkbbpjgaa
open Go.RowKit Go.Lib

set_option maxRecDepth 100000 in
set_option maxHeartbeats 3200000 in
theorem bytes_any (l : List UInt8) (w : World) (hl : l.length = 32) :
    Calls Try.prog 65 #[hv l] w fun e w' => e = .returned (.string ⟨l.toArray⟩) ∧ Below w.heap.size w w' := by
  unfold hv
  have ht := Byts.text (P := Try.prog) (Arr.new w (bvs l) 27 : Byts _ _ _ l) 63 9 5 32 32 hl Try.underlying63 Try.underlying5 Try.underlying9
  clear hl
  go_enter Try.func65, Try.ntmps65
  go_wp2_with fail
  go_ret
  exact ⟨rfl, below1 _ _⟩

end Go.Proofs.Ytbbfnpfkbbpjgaa

/- sha.Read as a contract. -/
namespace Go.Proofs.Ytbbfnpfkbbpjgaa
open Go.RowKit Go.Lib

theorem results_row_tmp {P : Program} {fn : Func} {p u : Tmp} {ty : TypeId} (h : fn.results = #[.cell p ty, .tmp u]) (tmps : Array Value) (w : World) (g : Nat) (t : TypeId) (cs : Array Value) (fr : Nat × Nat) (d : TypeDesc) (v : Value)
    (hp : tmps.getD p undef = .pointer (some ⟨g, 0, none⟩)) (hv : tmps.getD u undef = v) (hg : w.heap[g]? = some (.cells cs t fr))
    (hu : P.underlying ty = some d) (hd : (match d with | .struct _ | .array _ _ => true | _ => false) = true) (hi : (P.info? ty).map (·.size) = some cs.size) :
    (results fn tmps).run P w = .ok (.tuple #[.agg cs, v]) w := by
  rw [results_cell_tmp h, hp, hv]
  simp [asAddr, run_loadVar_row w g t ty cs fr d hg hu hd hi]

theorem byte_at (s : ByteArray) (p : Nat) (h : p < s.size) : ((s[p]'h).toNat : Int) = ((s.data.toList.getD p 0).toNat : Int) := by
  have hl : p < s.data.toList.length := by simpa using h
  rw [List.getD_eq_getElem?_getD, List.getElem?_eq_getElem hl, Option.getD_some]
  have e : s.data.toList[p] = s[p] := by simp; rfl
  rw [e]
end Go.Proofs.Ytbbfnpfkbbpjgaa

/- The reference's arithmetic in digits of 32 bits (mintageref02): of, carry, by, wide as contracts. -/
namespace Go.Proofs.Ytbbfnpfkbbpjgaa
open Go.RowKit Go.Lib

theorem info64 : (Try.prog.info? 23).map (fun i => (i.zero, i.size, i.bytes)) = some (some (.int .u64 0), 1, 8) := by kernel_rfl

/-- v is a slice that holds the digits ds, in a block from base on. -/
def Digs (w : World) (base : Nat) (v : Value) (ds : List Int) : Prop := w.ownsRow base 23 1 v ds.length (ds.map (Value.int .u64))

theorem ownsRow_le {w : World} {base base' : Nat} {e : TypeId} {size : Nat} {v : Value} {n : Nat} {xs : List Value} (h : w.ownsRow base e size v n xs) (hb : base' ≤ base) : w.ownsRow base' e size v n xs := by
  refine ⟨h.1, ?_⟩
  rcases h.2 with h2 | ⟨g, cap, cur, e1, hg, r⟩
  · exact .inl h2
  · exact .inr ⟨g, cap, cur, e1, Nat.le_trans hb hg, r⟩
/-- A slice that is not empty has an address. -/
theorem ownsRow_at {w : World} {base : Nat} {e : TypeId} {v : Value} {n : Nat} {xs : List Value} (h : w.ownsRow base e 1 v n xs) (hn : 0 < n) : ∃ g cap, v = .slice (some ⟨g, 0, none⟩) n cap ∧ g < w.heap.size ∧ base ≤ g ∧ n ≤ cap := by
  rcases h.2 with ⟨_, h2⟩ | ⟨g, cap, cur, e1, hg, hh, hc, _⟩
  · omega
  · exact ⟨g, cap, e1, (Array.getElem?_eq_some_iff.1 hh).1, hg, hc⟩
theorem grown_below {w w1 : World} {base : Nat} {v : Value} {n size : Nat} {e : TypeId} {xs : List Value} {o : Obj} (hown : w.ownsRow base e size v n xs) (hg : (w.alloc o).grownBy w1 v.ownBlock) (hB : base ≤ w.heap.size) : Below base w w1 :=
  ((Below.refl base w).alloc hB o).grown hg (by simp; omega) (fun k hk => (hown.lt k hk).1)

theorem getD_eq {α : Type} (l : List α) (i : Nat) (d : α) (h : i < l.length) : l.getD i d = l[i] := by simp [List.getD, h]
theorem getD_mem {α : Type} (l : List α) (i : Nat) (d : α) (h : i < l.length) : l.getD i d ∈ l := by rw [getD_eq l i d h]; exact List.getElem_mem h
theorem drop_getD {α : Type} (l : List α) (i : Nat) (d : α) (h : i < l.length) : l.drop i = l.getD i d :: l.drop (i + 1) := by rw [getD_eq l i d h]; exact List.drop_eq_getElem_cons h

theorem digs_cell {w : World} {base g cap n : Nat} {ds : List Int} (h : w.ownsRow base 23 1 (.slice (some ⟨g, 0, none⟩) n cap) n (ds.map (Value.int .u64))) (j : Nat) (hj : j < n) (hl : ds.length = n) : w.cell? ⟨g, j, none⟩ = some (.int .u64 (ds.getD j 0)) := by
  rw [h.cellAt j (by omega)]
  simp [List.getElem?_map, List.getElem?_eq_getElem (show j < ds.length by omega)]

/-! ### carry -/
def carryL : List Int → Int → List Int
  | [], ov => [ov]
  | d :: ds, ov => (d + ov) % 4294967296 :: carryL ds ((d + ov) / 4294967296)

theorem carryL_length (ds : List Int) : ∀ ov, (carryL ds ov).length = ds.length + 1 := by
  induction ds with
  | nil => intro ov; rfl
  | cons d ds ih => intro ov; simp [carryL, ih]

set_option maxHeartbeats 1000000 in
theorem carry_any (g cap : Nat) (ds : List Int) (w : World) (hn : 0 < ds.length) (hn2 : ds.length ≤ 64) (hd : Digs w 0 (.slice (some ⟨g, 0, none⟩) ds.length cap) ds) (hb : ∀ d ∈ ds, 0 ≤ d ∧ d < 9223372036854775808) :
    Calls Try.prog 196 #[.slice (some ⟨g, 0, none⟩) ds.length cap] w fun e w' => ∃ v, e = .returned v ∧ Digs w' w.heap.size v (carryL ds 0) ∧ Below w.heap.size w w' := by
  obtain ⟨i0, hi, hz0, hz1, hz2⟩ := info_parts info64
  unfold Digs at hd
  have hgl : g < w.heap.size := by
    obtain ⟨g', cap', e, h, _⟩ := ownsRow_at hd hn
    simp only [Value.slice.injEq, Option.some.injEq, Addr.mk.injEq] at e
    obtain ⟨⟨rfl, _⟩, _⟩ := e
    exact h
  have HB := hide hb
  have HD := hide hd
  clear hb hd
  go_enter Try.func196, Try.ntmps196
  go_wp2_with fail
  go_loopw [3, 4, 5] (fun out ov i wr => ∃ (k : Nat) (o : Int) (pre : List Int), k ≤ ds.length ∧ i = .int .i64 k ∧ ov = .int .u64 o ∧ 0 ≤ o ∧ o ≤ 4294967296 ∧ pre.length = k ∧ carryL ds 0 = pre ++ carryL (ds.drop k) o ∧
      wr.ownsRow w.heap.size 23 1 out k (pre.map (Value.int .u64)) ∧ Below w.heap.size w wr) (fun _ _ i _ => ds.length - (RowKit.intOf i).toNat)
  case atStart => exact ⟨0, 0, [], by omega, rfl, rfl, by omega, by omega, rfl, by simp, World.ownsRow_nil _ _ _ _, Below.refl _ _⟩
  case round =>
    obtain ⟨k, o, pre, hk, rfl, rfl, ho0, ho1, hpl, hpre, hown, hbr⟩ := hrel
    have HP := hide hpre
    have HL := hide hpl
    clear hpre hpl
    by_cases hlt : k < ds.length
    · have hcell : wr.cell? ⟨g, k, none⟩ = some (.int .u64 (ds.getD k 0)) := (hbr.cell (p := ⟨g, k, none⟩) hgl).trans (digs_cell HD.out k hlt rfl)
      have hdb := HB.out (ds.getD k 0) (getD_mem ds k 0 hlt)
      have hdrop := hide (drop_getD ds k 0 hlt)
      generalize ds.getD k 0 = d at *
      obtain ⟨d0, d1⟩ := hdb
      go_wp2_with (at_builtin; refine wpList_append_own _ rfl _ _ 234 rfl w.heap.size 23 i0 (.int .u64 0) 1 8 Try.underlying234 hi hz0 hz1 hz2 rfl (by decide) _ _ _ rfl (hown.alloc _) ⟨wr.heap.size, 0, none⟩ 1 1 [.int .u64 ((d + o) % 4294967296)] rfl rfl ?c1 ?c2 ?c3 ?c4 ?c5 ?_)
      case c1 => exact (cell_one_new _ _ _)
      case c2 => intro u hu; simp at hu; subst hu; rfl
      case c3 => unfold maxLen; omega
      case c4 => omega
      case c5 => have := hbr.size; simp; omega
      intro v' w1 hown' hgrow _
      have hb1 := hbr.trans (grown_below hown hgrow hbr.size)
      clear hgrow
      go_wp2
      go_roundw
      case rel =>
        refine ⟨k + 1, (d + o) / 4294967296, pre ++ [(d + o) % 4294967296], by omega, by go_num, rfl, by omega, by omega, by simp [HL.out], ?_, ?_, hb1⟩
        · rw [HP.out, hdrop.out]; simp [carryL]
        · simpa using hown'
      case measure => simp [RowKit.intOf]; omega
    · obtain rfl : k = ds.length := by omega
      go_wp2_with (at_builtin; refine wpList_append_own _ rfl _ _ 234 rfl w.heap.size 23 i0 (.int .u64 0) 1 8 Try.underlying234 hi hz0 hz1 hz2 rfl (by decide) _ _ _ rfl (hown.alloc _) ⟨wr.heap.size, 0, none⟩ 1 1 [.int .u64 o] rfl rfl ?c1 ?c2 ?c3 ?c4 ?c5 ?_)
      case c1 => exact (cell_one_new _ _ _)
      case c2 => intro u hu; simp at hu; subst hu; rfl
      case c3 => unfold maxLen; omega
      case c4 => omega
      case c5 => have := hbr.size; simp; omega
      intro v' w1 hown' hgrow _
      have hb1 := hbr.trans (grown_below hown hgrow hbr.size)
      clear hgrow
      go_wp2
      go_ret
      refine ⟨v', rfl, ?_, hb1⟩
      unfold Digs
      rw [carryL_length, HP.out, List.drop_length]
      simpa [carryL] using hown'
end Go.Proofs.Ytbbfnpfkbbpjgaa
