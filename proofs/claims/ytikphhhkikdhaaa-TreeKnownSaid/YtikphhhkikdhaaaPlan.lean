/- A region that draws its order, walked by a plan: operations that look, calls that may come up anywhere, operations of which one or two or three are next; the class of worlds may grow narrower behind each of these. -/
import Derived.Test.YtikphhhkikdhaaaFloat
import Derived.Test.YtikphhhkikdhaaaCells
namespace Go.Proofs.Ytikphhhkikdhaaa
open Go.RowKit
set_option linter.unusedVariables false

/-- What lasts while new memory is made. -/
def Lasts (K : World → Prop) : Prop := ∀ w w', K w → Below w.heap.size w w' → K w'
theorem lasts_below {B : Nat} {w : World} (hB : B ≤ w.heap.size) : Lasts (fun x => Below B w x) := fun _ _ h k => h.trans (k.mono (Nat.le_trans hB h.size))
instance kept_below (B : Nat) (w : World) : Nonempty (Kept (fun x => Below B w x)) := ⟨⟨w, Below.refl _ _⟩⟩
/-- The class of the worlds of which K holds. -/
def Kl (K : World → Prop) : World → Prop := fun w' => ∃ s : Kept K, w' = s.w
theorem Kl.out {K : World → Prop} {w : World} (h : ∃ s : Kept K, w = s.w) : K w := by obtain ⟨s, rfl⟩ := h; exact s.ok

section
variable {P : Program} {ops : Array Oper} {md : Region.Mode} {Q : Exit → Act → World → Prop}

theorem YieldsFl.sub {C C' : World → Prop} {o : Oper} {v : Value} {a : Act} (h : YieldsFl P ops C o v a) (hs : ∀ x, C' x → C x) : YieldsFl P ops C' o v a :=
  h.imp (fun h => ⟨h.1, fun w hw => h.2 w (hs w hw)⟩) id
/-- What is listed waits for nothing that is not. -/
def Closed (md : Region.Mode) (ops : Array Oper) (L : Array Bool) : Prop := ∀ j oj, ops[j]? = some oj → L.getD j false = true → ∀ e ∈ oj.after, Region.binds md e = true → L.getD e.on false = true
theorem Closed.set {L : Array Bool} {i : Nat} (h : Closed md ops L) (hi : i ∈ Region.ready md ops L) : Closed md ops (L.setIfInBounds i true) := by
  obtain ⟨_, oi, hoi, hall⟩ := mem_ready.1 hi
  intro j oj hj hl e he hb
  by_cases hij : i = j
  · subst hij
    have : oj = oi := Option.some.inj (hj.symm.trans hoi)
    subst this
    exact getD_set_true (hall e he hb)
  · rw [getD_set_ne false hij] at hl
    exact getD_set_true (h j oj hj hl e he hb)
theorem closed_start {n : Nat} : Closed md ops (Array.replicate n false) := fun j oj _ hl => by rw [getD_replicate_false] at hl; cases hl
/-- j waits for i, by whatever stands between. -/
def reach (md : Region.Mode) (ops : Array Oper) : Nat → Nat → Nat → Bool
  | 0, _, _ => false
  | f + 1, j, i => match ops[j]? with
    | some oj => oj.after.any fun e => Region.binds md e && (e.on == i || reach md ops f e.on i)
    | none => false
theorem reach_listed {L : Array Bool} (h : Closed md ops L) : ∀ (f j i : Nat), reach md ops f j i = true → (∀ oj, ops[j]? = some oj → ∀ e ∈ oj.after, Region.binds md e = true → L.getD e.on false = true) → L.getD i false = true
  | 0, _, _, hr, _ => by cases hr
  | f + 1, j, i, hr, hd => by
    unfold reach at hr
    split at hr
    · rename_i oj hj
      obtain ⟨e, he, hb⟩ := Array.any_eq_true'.1 hr
      simp only [Bool.and_eq_true, Bool.or_eq_true, beq_iff_eq] at hb
      have hl := hd oj hj e he hb.1
      rcases hb.2 with h1 | h1
      · rw [← h1]; exact hl
      · exact reach_listed h f e.on i h1 (fun oj' hj' e' he' hb' => h e.on oj' hj' hl e' he' hb')
    · cases hr
/-- All others stand ahead of it or behind it. -/
def barrier (md : Region.Mode) (ops : Array Oper) (j : Nat) : Bool := (List.range ops.size).all fun i => i == j || reach md ops ops.size j i || reach md ops ops.size i j
theorem barrier_no {L : Array Bool} {i j : Nat} (h : Closed md ops L) (hb : barrier md ops j = true) (hi : i ∈ Region.ready md ops L) (hj : j ∈ Region.ready md ops L) (hne : i ≠ j) : False := by
  obtain ⟨hiu, oi, hoi, hia⟩ := mem_ready.1 hi
  obtain ⟨hju, oj, hoj, hja⟩ := mem_ready.1 hj
  have hlt : i < ops.size := (Array.getElem?_eq_some_iff.1 hoi).1
  have h1 := List.all_eq_true.1 hb i (List.mem_range.2 hlt)
  simp only [Bool.or_eq_true, beq_iff_eq] at h1
  rcases h1 with (h1 | h1) | h1
  · exact hne h1
  · have := reach_listed h _ j i h1 (fun o ho e he hbb => by have : o = oj := Option.some.inj (ho.symm.trans hoj); subst this; exact hja e he hbb)
    rw [getD_both hiu] at this; cases this
  · have := reach_listed h _ i j h1 (fun o ho e he hbb => by have : o = oi := Option.some.inj (ho.symm.trans hoi); subst this; exact hia e he hbb)
    rw [getD_both hju] at this; cases this
def wpAnyT (P : Program) (md : Region.Mode) (ops : Array Oper) (Q : Exit → Act → World → Prop) : Nat → (World → Prop) → Array Bool → Act → World → Prop
  | 0, C, listed, a, w => ∀ w', Below w.heap.size w w' → C w' → Region.ready md ops listed = [] ∧ Q .normal a w'
  | fuel + 1, C, listed, a, w => ∀ w', Below w.heap.size w w' → C w' →
    (Region.ready md ops listed = [] → Q .normal a w') ∧
    ∀ i ∈ Region.ready md ops listed, wpOp P ops Q i (fun a' w'' => ∃ C', (barrier md ops i = true ∨ ∀ x, C' x → C x) ∧ Lasts C' ∧ C' w'' ∧ wpAnyT P md ops Q fuel C' (listed.setIfInBounds i true) a' w'') a w'
theorem wpAnyT_later {C : World → Prop} {fuel : Nat} {listed : Array Bool} {a : Act} {w w1 : World} (h : wpAnyT P md ops Q fuel C listed a w) (hb : Below w.heap.size w w1) : wpAnyT P md ops Q fuel C listed a w1 := by
  cases fuel with
  | zero => exact fun w' hw' hC => h w' (hb.trans (hw'.mono hb.size)) hC
  | succ fuel => exact fun w' hw' hC => h w' (hb.trans (hw'.mono hb.size)) hC
theorem wpAny_of_T : ∀ (fuel : Nat) (C : World → Prop) (listed : Array Bool) (a : Act) (w : World), C w → wpAnyT P md ops Q fuel C listed a w → wpAny P md ops Q fuel listed a w
  | 0, _, _, _, w, hC, h => h w (Below.refl _ _) hC
  | fuel + 1, _, _, _, w, hC, h =>
    have h := h w (Below.refl _ _) hC
    ⟨h.1, fun i hi => wpOp_mono (fun a' w' ⟨C', _, _, h1, h2⟩ => wpAny_of_T fuel C' _ a' w' h1 h2) (h.2 i hi)⟩
theorem wpAnyT_done {C : World → Prop} {listed : Array Bool} {a : Act} {w : World} (hr : Region.ready md ops listed = []) (h : ∀ w', Below w.heap.size w w' → C w' → Q .normal a w') :
    ∀ fuel, wpAnyT P md ops Q fuel C listed a w
  | 0 => fun w' hw' hC => ⟨hr, h w' hw' hC⟩
  | _ + 1 => fun w' hw' hC => ⟨fun _ => h w' hw' hC, by rw [hr]; simp⟩
theorem wpAnyT_first {i : Nat} {oi : Oper} {v : Value} (hi : ops[i]? = some oi) (hsel : ∀ (j : Nat) (o : Oper) cs b, ops[j]? = some o → o.op ≠ .select cs b)
    (hQ : ∀ c a w, Q (.panic c) (a.put oi.dst v) w → Q (.panic c) a w) :
    ∀ (fuel : Nat) (C : World → Prop) (listed : Array Bool) (a : Act) (w : World), Lasts C → Closed md ops listed →
      (∀ j oj, ops[j]? = some oj → j ≠ i → listed.getD j true = false → (∀ e ∈ oj.after, Region.binds md e = true → e.on ≠ i) → oi.apart ops oj = true) →
      i ∈ Region.ready md ops listed → YieldsFl P ops C oi v a →
      wpAnyT P md ops Q fuel C (listed.setIfInBounds i true) (a.put oi.dst v) w → wpAnyT P md ops Q (fuel + 1) C listed a w := by
  intro fuel
  induction fuel with
  | zero =>
    intro C listed a w hCR hcl _ hr hy H w' hw' hC
    refine ⟨fun h => (by rw [h] at hr; cases hr), fun j hj => ?_⟩
    by_cases hji : j = i
    · subst hji
      exact hy.wpOp hi hC (fun w'' hb => ⟨C, .inr fun _ h => h, hCR, hCR _ _ hC hb, wpAnyT_later (wpAnyT_later H hw') hb⟩)
    · have := ready_mono hj hji
      rw [(H w' hw' hC).1] at this
      cases this
  | succ fuel ih =>
    intro C listed a w hCR hcl hfree hr hy H w' hw' hC
    refine ⟨fun h => (by rw [h] at hr; cases hr), fun j hj => ?_⟩
    by_cases hji : j = i
    · subst hji
      exact hy.wpOp hi hC (fun w'' hb => ⟨C, .inr fun _ h => h, hCR, hCR _ _ hC hb, wpAnyT_later (wpAnyT_later H hw') hb⟩)
    · have h1 := (H w' hw' hC).2 j (ready_mono hj hji)
      obtain ⟨hjun, oj, hoj, hall⟩ := mem_ready.1 hj
      have hnot : ∀ e ∈ oj.after, Region.binds md e = true → e.on ≠ i := fun e he hb heq => by
        have h1 := hall e he hb
        have h0 := (mem_ready.1 hr).1
        rw [heq] at h1
        rcases Nat.lt_or_ge i listed.size with h' | h'
        · simp [h'] at h0 h1; rw [h0] at h1; cases h1
        · simp [Array.getElem?_eq_none h'] at h1
      have h2 := wpOp_putFl hoj (hfree j oj hoj hji hjun hnot) (fun cs b => hsel i oi cs b hi) (fun cs b => hsel j oj cs b hoj) hQ hy h1
      have hfree' : ∀ k ok, ops[k]? = some ok → k ≠ i → (listed.setIfInBounds j true).getD k true = false →
          (∀ e ∈ ok.after, Region.binds md e = true → e.on ≠ i) → oi.apart ops ok = true := fun k ok hk hki hun hno => by
        refine hfree k ok hk hki ?_ hno
        by_cases hjk : j = k
        · subst hjk; exact hjun
        · rw [getD_set_ne true hjk] at hun; exact hun
      refine wpOp_mono (fun a' w'' h3 => ?_) h2
      obtain ⟨hy', C', hsub, hl, hc, hrest⟩ := h3
      have hsub : ∀ x, C' x → C x := hsub.elim (fun hb => (barrier_no hcl hb hr hj (Ne.symm hji)).elim) id
      refine ⟨C', .inr hsub, hl, hc, ih C' (listed.setIfInBounds j true) a' w'' hl (hcl.set hj) hfree' (ready_mono hr (Ne.symm hji)) (hy'.sub hsub) ?_⟩
      rw [Array.setIfInBounds_comm _ _ hji]
      exact hrest

/-- A plan. -/
inductive Plan where
  | stop (q : List Nat)
  | fl (q : List Nat) (i : Nat) (p : Plan)
  | one (q : List Nat) (i : Nat) (p : Plan)
  | bar (q : List Nat) (i : Nat) (p : Plan)
  | two (q : List Nat) (i : Nat) (p : Plan) (j : Nat) (r : Plan)
  | three (q : List Nat) (i : Nat) (p : Plan) (j : Nat) (r : Plan) (k : Nat) (s : Plan)
def planB (md : Region.Mode) (ops : Array Oper) : Plan → Array Bool → Bool
  | .stop q, L => match quietB md ops q L with
    | none => false
    | some L1 => Region.ready md ops L1 == []
  | .fl q i p, L => match quietB md ops q L with
    | none => false
    | some L1 => (Region.ready md ops L1).contains i && Region.free md ops L1 i && planB md ops p (L1.setIfInBounds i true)
  | .one q i p, L => match quietB md ops q L with
    | none => false
    | some L1 => Region.ready md ops L1 == [i] && planB md ops p (L1.setIfInBounds i true)
  | .bar q i p, L => match quietB md ops q L with
    | none => false
    | some L1 => Region.ready md ops L1 == [i] && barrier md ops i && planB md ops p (L1.setIfInBounds i true)
  | .two q i p j r, L => match quietB md ops q L with
    | none => false
    | some L1 => Region.ready md ops L1 == [i, j] && planB md ops p (L1.setIfInBounds i true) && planB md ops r (L1.setIfInBounds j true)
  | .three q i p j r k s, L => match quietB md ops q L with
    | none => false
    | some L1 => Region.ready md ops L1 == [i, j, k] && planB md ops p (L1.setIfInBounds i true) && planB md ops r (L1.setIfInBounds j true) && planB md ops s (L1.setIfInBounds k true)
def Plan.len : Plan → Nat
  | .stop q => q.length
  | .fl q _ p => q.length + (p.len + 1)
  | .one q _ p => q.length + (p.len + 1)
  | .bar q _ p => q.length + (p.len + 1)
  | .two q _ p _ r => q.length + (max p.len r.len + 1)
  | .three q _ p _ r _ s => q.length + (max p.len (max r.len s.len) + 1)
/-- What an operation that is next owes: a class for what follows, no wider than the one before. -/
def goQ (K : World → Prop) (next : (World → Prop) → Act → World → Prop) : Exit → Act → World → Prop
  | .normal, a, w => ∃ K', (∀ x, K' x → K x) ∧ Lasts K' ∧ K' w ∧ next K' a w
  | _, _, _ => False
theorem goQ_same {K : World → Prop} {next : (World → Prop) → Act → World → Prop} {a : Act} {w : World} (hl : Lasts K) (h : K w) (h2 : next K a w) : goQ K next .normal a w := ⟨K, fun _ h => h, hl, h, h2⟩
theorem goQ_since {K : World → Prop} {next : (World → Prop) → Act → World → Prop} {a : Act} {w : World} (hl : Lasts K) (h : K w) (h2 : next (fun x => Below w.heap.size w x) a w) : goQ K next .normal a w :=
  ⟨_, fun _ hx => hl _ _ h hx, lasts_below (Nat.le_refl _), Below.refl _ _, h2⟩
/-- .. where all others stand ahead of it or behind it: any class. -/
def goB (next : (World → Prop) → Act → World → Prop) : Exit → Act → World → Prop
  | .normal, a, w => ∃ K', Lasts K' ∧ K' w ∧ next K' a w
  | _, _, _ => False
theorem goB_since {next : (World → Prop) → Act → World → Prop} {a : Act} {w : World} (h2 : next (fun x => Below w.heap.size w x) a w) : goB next .normal a w :=
  ⟨_, lasts_below (Nat.le_refl _), Below.refl _ _, h2⟩
def opAt (l : List Oper) (i : Nat) : List Oper := match l[i]? with | some o => [o] | none => []
def wpPlan (P : Program) (l : List Oper) (N : Act → World → Prop) : Plan → (World → Prop) → Act → World → Prop
  | .stop q, K, a, w => wpQuiet P l.toArray (fun w2 => ∃ s : Kept K, w2 = s.w) (fun a' => ∀ w', Below w.heap.size w w' → K w' → N a' w') (pickOps l q) a
  | .fl q i p, K, a, w => wpQuiet P l.toArray (fun w2 => ∃ s : Kept K, w2 = s.w) (fun a' => match opAt l i with
      | [] => False
      | o :: _ => Floats P l.toArray (fun w2 => ∃ s : Kept K, w2 = s.w) o a' (fun a'' => wpPlan P l N p K a'' w)) (pickOps l q) a
  | .one q i p, K, a, w => wpQuiet P l.toArray (fun w2 => ∃ s : Kept K, w2 = s.w) (fun a' => ∀ w', Below w.heap.size w w' → K w' → wpList P l.toArray (goQ K (wpPlan P l N p)) (opAt l i) a' w') (pickOps l q) a
  | .bar q i p, K, a, w => wpQuiet P l.toArray (fun w2 => ∃ s : Kept K, w2 = s.w) (fun a' => ∀ w', Below w.heap.size w w' → K w' → wpList P l.toArray (goB (wpPlan P l N p)) (opAt l i) a' w') (pickOps l q) a
  | .two q i p j r, K, a, w => wpQuiet P l.toArray (fun w2 => ∃ s : Kept K, w2 = s.w) (fun a' => ∀ w', Below w.heap.size w w' → K w' →
      wpList P l.toArray (goQ K (wpPlan P l N p)) (opAt l i) a' w' ∧ wpList P l.toArray (goQ K (wpPlan P l N r)) (opAt l j) a' w') (pickOps l q) a
  | .three q i p j r k s, K, a, w => wpQuiet P l.toArray (fun w2 => ∃ s : Kept K, w2 = s.w) (fun a' => ∀ w', Below w.heap.size w w' → K w' →
      wpList P l.toArray (goQ K (wpPlan P l N p)) (opAt l i) a' w' ∧ wpList P l.toArray (goQ K (wpPlan P l N r)) (opAt l j) a' w' ∧ wpList P l.toArray (goQ K (wpPlan P l N s)) (opAt l k) a' w') (pickOps l q) a

theorem goB_out {next : (World → Prop) → Act → World → Prop} (h : LetsOut (goB next)) : LetsOut Q := by obtain ⟨_, _, h⟩ := h; exact h.elim
theorem Oper.wp_goB {o : Oper} {a : Act} {w : World} {K : Act → World → Prop} {next : (World → Prop) → Act → World → Prop} (hh : o.wp P a w K (goB next)) : o.wp P a w K Q := by
  unfold Oper.wp at *
  generalize (execOp a.eval o).run P w = r at *
  cases r with
  | ok n w' =>
    cases n <;> simp only [Oper.upon] at hh ⊢ <;>
      first
        | exact hh
        | exact Calls.mono hh (fun e w'' he => by cases e <;> first | exact he | exact goB_out he | exact he.elim)
  | halt x w' => cases x <;> simp only [Oper.upon] at hh ⊢ <;> first | exact hh | exact hh.elim
theorem wpOp_of_bar {l : List Oper} {i : Nat} {next : (World → Prop) → Act → World → Prop} {M : Act → World → Prop} {a : Act} {w : World} (hi : i < l.length)
    (hM : ∀ a' w', goB next .normal a' w' → M a' w') (h : wpList P l.toArray (goB next) (opAt l i) a w) : wpOp P l.toArray Q i M a w := by
  have ho : l[i]? = some l[i] := List.getElem?_eq_getElem hi
  have ho' : l.toArray[i]? = some l[i] := by simp [hi]
  unfold opAt at h
  rw [ho] at h
  simp only [wpList] at h
  unfold wpOp
  simp only [ho']
  split
  · rename_i hw
    rw [if_pos hw] at h
    refine h.imp (fun h1 => ?_) (fun h1 => ⟨h1.1, goB_out h1.2⟩)
    exact Oper.wp_mono (fun a2 w2 h2 => hM _ _ h2) (Oper.wp_goB h1)
  · rename_i hw
    rw [if_neg hw] at h
    exact hM _ _ h
theorem goQ_out {K : World → Prop} {next : (World → Prop) → Act → World → Prop} (h : LetsOut (goQ K next)) : LetsOut Q := by obtain ⟨_, _, h⟩ := h; exact h.elim
theorem Oper.wp_goQ {K0 : World → Prop} {o : Oper} {a : Act} {w : World} {K : Act → World → Prop} {next : (World → Prop) → Act → World → Prop} (hh : o.wp P a w K (goQ K0 next)) : o.wp P a w K Q := by
  unfold Oper.wp at *
  generalize (execOp a.eval o).run P w = r at *
  cases r with
  | ok n w' =>
    cases n <;> simp only [Oper.upon] at hh ⊢ <;>
      first
        | exact hh
        | exact Calls.mono hh (fun e w'' he => by cases e <;> first | exact he | exact goQ_out he | exact he.elim)
  | halt x w' => cases x <;> simp only [Oper.upon] at hh ⊢ <;> first | exact hh | exact hh.elim
theorem wpOp_of_go {l : List Oper} {i : Nat} {K : World → Prop} {next : (World → Prop) → Act → World → Prop} {M : Act → World → Prop} {a : Act} {w : World} (hi : i < l.length)
    (hM : ∀ a' w', goQ K next .normal a' w' → M a' w') (h : wpList P l.toArray (goQ K next) (opAt l i) a w) : wpOp P l.toArray Q i M a w := by
  have ho : l[i]? = some l[i] := List.getElem?_eq_getElem hi
  have ho' : l.toArray[i]? = some l[i] := by simp [hi]
  unfold opAt at h
  rw [ho] at h
  simp only [wpList] at h
  unfold wpOp
  simp only [ho']
  split
  · rename_i hw
    rw [if_pos hw] at h
    refine h.imp (fun h1 => ?_) (fun h1 => ⟨h1.1, goQ_out h1.2⟩)
    exact Oper.wp_mono (fun a2 w2 h2 => hM _ _ h2) (Oper.wp_goQ h1)
  · rename_i hw
    rw [if_neg hw] at h
    exact hM _ _ h
theorem wpAnyT_quiet {C : World → Prop} (hl : Lasts C) {next : Act → Prop} (hs : Region.noSelect ops = true) (hQ : ∀ c a d v w, Q (.panic c) (Act.put a d v) w → Q (.panic c) a w) {w : World} {fuel : Nat} :
    ∀ (q : List Nat) (L L1 : Array Bool) (a : Act), Closed md ops L → quietB md ops q L = some L1 → (∀ a', Closed md ops L1 → next a' → wpAnyT P md ops Q fuel C L1 a' w) →
      wpQuiet P ops C next (pickOps ops.toList q) a → wpAnyT P md ops Q (q.length + fuel) C L a w
  | [], L, L1, a, hcl, hB, hn, h => by
    simp only [quietB, Option.some.injEq] at hB
    subst hB
    have := hn a hcl h
    simp only [List.length_nil, Nat.zero_add]
    exact this
  | i :: q, L, L1, a, hcl, hB, hn, h => by
    simp only [quietB] at hB
    split at hB
    · rename_i hc
      simp only [Bool.and_eq_true] at hc
      obtain ⟨⟨h1, h2⟩, h3⟩ := hc
      cases ho : ops[i]? with
      | none => rw [ho] at h1; cases h1
      | some o =>
        rw [ho] at h1
        have hlo : ops.toList[i]? = some o := by simpa using ho
        simp only [pickOps, hlo, List.singleton_append] at h
        obtain ⟨v, hy, hK⟩ := yieldsIf_of_quiet (P := P) (ops := ops) (o := o) (a := a) (C := C) (K := fun a' => wpQuiet P ops C next (pickOps ops.toList q) a') (by simpa using h1) h
        have hy' : YieldsFl P ops C o v a := hy.imp (fun hh => ⟨hh.1, fun w hC => by rw [hh.2 w hC]; exact ⟨rfl, rfl⟩⟩) id
        rw [show (i :: q).length + fuel = (q.length + fuel) + 1 by simp; omega]
        exact wpAnyT_first ho (Region.noSelect_spec hs) (fun c a w => hQ c a o.dst v w) _ C L a w hl hcl (Region.free_spec ho h3) (by simpa using h2) hy' (wpAnyT_quiet hl hs hQ q _ L1 _ (hcl.set (by simpa using h2)) hB hn hK)
    · cases hB
theorem wpAnyT_all {C : World → Prop} {fuel : Nat} {L : Array Bool} {a : Act} {w : World} {rs : List Nat} (hr : Region.ready md ops L = rs) (hne : rs ≠ [])
    (h : ∀ w', Below w.heap.size w w' → C w' → ∀ i ∈ rs, wpOp P ops Q i (fun a' w'' => ∃ C', (barrier md ops i = true ∨ ∀ x, C' x → C x) ∧ Lasts C' ∧ C' w'' ∧ wpAnyT P md ops Q fuel C' (L.setIfInBounds i true) a' w'') a w') :
    wpAnyT P md ops Q (fuel + 1) C L a w := fun w' hw' hC => ⟨fun h0 => absurd (hr.symm.trans h0) hne, fun i hi => h w' hw' hC i (hr ▸ hi)⟩
theorem lasts_kl {K : World → Prop} (h : Lasts K) : Lasts (fun w2 => ∃ s : Kept K, w2 = s.w) := fun _ _ hk hb => kept (h _ _ (Kl.out hk) hb)
theorem goQ_kl {l : List Oper} {i fuel : Nat} {L : Array Bool} {K : World → Prop} {N : Act → World → Prop} {p : Plan} {a : Act} {w : World}
    (ih : ∀ K a w, Lasts K → K w → wpPlan P l N p K a w → wpAnyT P md l.toArray Q fuel (fun w2 => ∃ s : Kept K, w2 = s.w) L a w) (h : goQ K (wpPlan P l N p) .normal a w) :
    ∃ C', (barrier md l.toArray i = true ∨ ∀ x, C' x → ∃ s : Kept K, x = s.w) ∧ Lasts C' ∧ C' w ∧ wpAnyT P md l.toArray Q fuel C' L a w := by
  obtain ⟨K', hsub, hl, hk, hn⟩ := h
  exact ⟨_, .inr fun x hx => kept (hsub _ (Kl.out hx)), lasts_kl hl, kept hk, ih K' a w hl hk hn⟩
theorem goB_kl {l : List Oper} {i fuel : Nat} {L : Array Bool} {K : World → Prop} {N : Act → World → Prop} {p : Plan} {a : Act} {w : World} (hb : barrier md l.toArray i = true)
    (ih : ∀ K a w, Lasts K → K w → wpPlan P l N p K a w → wpAnyT P md l.toArray Q fuel (fun w2 => ∃ s : Kept K, w2 = s.w) L a w) (h : goB (wpPlan P l N p) .normal a w) :
    ∃ C', (barrier md l.toArray i = true ∨ ∀ x, C' x → ∃ s : Kept K, x = s.w) ∧ Lasts C' ∧ C' w ∧ wpAnyT P md l.toArray Q fuel C' L a w := by
  obtain ⟨K', hl, hk, hn⟩ := h
  exact ⟨_, .inl hb, lasts_kl hl, kept hk, ih K' a w hl hk hn⟩
theorem ready_lt {L : Array Bool} {i : Nat} {l : List Oper} (h : i ∈ Region.ready md l.toArray L) : i < l.length := by
  obtain ⟨_, o, ho, _⟩ := mem_ready.1 h
  have := (Array.getElem?_eq_some_iff.1 ho).1
  simpa using this
theorem wpAnyT_plan {l : List Oper} (hs : Region.noSelect l.toArray = true) (hQ : ∀ c a d v w, Q (.panic c) (Act.put a d v) w → Q (.panic c) a w) :
    ∀ (p : Plan) (L : Array Bool) (k : Nat) (K : World → Prop) (a : Act) (w : World), Closed md l.toArray L → planB md l.toArray p L = true → Lasts K → K w →
      wpPlan P l (Q .normal) p K a w → wpAnyT P md l.toArray Q (p.len + k) (fun w2 => ∃ s : Kept K, w2 = s.w) L a w
  | .stop q, L, k, K, a, w, hcl, hB, hl, hK, h => by
    simp only [planB] at hB
    split at hB
    · cases hB
    · rename_i L1 hq
      rw [Plan.len]
      exact wpAnyT_quiet (lasts_kl hl) hs hQ q L L1 a hcl hq (fun a' hc1 ha' => wpAnyT_done (by simpa using hB) (fun w' hw' hC => ha' w' hw' (Kl.out hC)) _) h
  | .fl q i p, L, k, K, a, w, hcl, hB, hl, hK, h => by
    simp only [planB] at hB
    split at hB
    · cases hB
    · rename_i L1 hq
      simp only [Bool.and_eq_true] at hB
      obtain ⟨⟨h1, h2⟩, h3⟩ := hB
      rw [Plan.len, show q.length + (p.len + 1) + k = q.length + ((p.len + k) + 1) by omega]
      refine wpAnyT_quiet (lasts_kl hl) hs hQ q L L1 a hcl hq (fun a' hc1 ha' => ?_) h
      have hm : i ∈ Region.ready md l.toArray L1 := by simpa using h1
      have hi := ready_lt hm
      have ho : l[i]? = some l[i] := List.getElem?_eq_getElem hi
      have ho' : l.toArray[i]? = some l[i] := by simp [hi]
      unfold opAt at ha'
      rw [ho] at ha'
      obtain ⟨v, hy, hKK⟩ := ha'
      exact wpAnyT_first ho' (Region.noSelect_spec hs) (fun c a w => hQ c a _ v w) _ _ L1 a' w (lasts_kl hl) hc1 (Region.free_spec ho' h2) hm hy (wpAnyT_plan hs hQ p _ k K _ w (hc1.set hm) h3 hl hK hKK)
  | .one q i p, L, k, K, a, w, hcl, hB, hl, hK, h => by
    simp only [planB] at hB
    split at hB
    · cases hB
    · rename_i L1 hq
      simp only [Bool.and_eq_true] at hB
      obtain ⟨h1, h3⟩ := hB
      rw [Plan.len, show q.length + (p.len + 1) + k = q.length + ((p.len + k) + 1) by omega]
      refine wpAnyT_quiet (lasts_kl hl) hs hQ q L L1 a hcl hq (fun a' hc1 ha' => ?_) h
      have hr : Region.ready md l.toArray L1 = [i] := by simpa using h1
      refine wpAnyT_all hr (by simp) (fun w' hw' hC j hj => ?_)
      have hji : j = i := by simpa using hj
      subst hji
      refine wpOp_of_go (ready_lt (hr ▸ hj)) (fun a2 w2 h2 => ?_) (ha' w' hw' (Kl.out hC))
      exact goQ_kl (fun K a w hl hK hp => wpAnyT_plan hs hQ p _ k K a w (hc1.set (hr ▸ hj)) h3 hl hK hp) h2
  | .bar q i p, L, k, K, a, w, hcl, hB, hl, hK, h => by
    simp only [planB] at hB
    split at hB
    · cases hB
    · rename_i L1 hq
      simp only [Bool.and_eq_true] at hB
      obtain ⟨⟨h1, hbar⟩, h3⟩ := hB
      rw [Plan.len, show q.length + (p.len + 1) + k = q.length + ((p.len + k) + 1) by omega]
      refine wpAnyT_quiet (lasts_kl hl) hs hQ q L L1 a hcl hq (fun a' hc1 ha' => ?_) h
      have hr : Region.ready md l.toArray L1 = [i] := by simpa using h1
      refine wpAnyT_all hr (by simp) (fun w' hw' hC j hj => ?_)
      have hji : j = i := by simpa using hj
      subst hji
      refine wpOp_of_bar (ready_lt (hr ▸ hj)) (fun a2 w2 h2 => ?_) (ha' w' hw' (Kl.out hC))
      exact goB_kl hbar (fun K a w hl hK hp => wpAnyT_plan hs hQ p _ k K a w (hc1.set (hr ▸ hj)) h3 hl hK hp) h2
  | .two q i p j r, L, k, K, a, w, hcl, hB, hl, hK, h => by
    simp only [planB] at hB
    split at hB
    · cases hB
    · rename_i L1 hq
      simp only [Bool.and_eq_true] at hB
      obtain ⟨⟨h1, h3⟩, h4⟩ := hB
      have m1 := Nat.le_max_left p.len r.len
      have m2 := Nat.le_max_right p.len r.len
      rw [Plan.len]
      generalize max p.len r.len = m at *
      rw [show q.length + (m + 1) + k = q.length + ((m + k) + 1) by omega]
      refine wpAnyT_quiet (lasts_kl hl) hs hQ q L L1 a hcl hq (fun a' hc1 ha' => ?_) h
      have hr : Region.ready md l.toArray L1 = [i, j] := by simpa using h1
      refine wpAnyT_all hr (by simp) (fun w' hw' hC x hx => ?_)
      obtain ⟨g1, g2⟩ := ha' w' hw' (Kl.out hC)
      have hx' := hr ▸ hx
      have hlt := ready_lt hx'
      simp only [List.mem_cons, List.not_mem_nil, or_false] at hx
      rcases hx with rfl | rfl
      · refine wpOp_of_go hlt (fun a2 w2 h2 => ?_) g1
        rw [show m + k = p.len + (m - p.len + k) by omega]
        exact goQ_kl (fun K a w hl hK hp => wpAnyT_plan hs hQ p _ (m - p.len + k) K a w (hc1.set hx') h3 hl hK hp) h2
      · refine wpOp_of_go hlt (fun a2 w2 h2 => ?_) g2
        rw [show m + k = r.len + (m - r.len + k) by omega]
        exact goQ_kl (fun K a w hl hK hp => wpAnyT_plan hs hQ r _ (m - r.len + k) K a w (hc1.set hx') h4 hl hK hp) h2
  | .three q i p j r n s, L, k, K, a, w, hcl, hB, hl, hK, h => by
    simp only [planB] at hB
    split at hB
    · cases hB
    · rename_i L1 hq
      simp only [Bool.and_eq_true] at hB
      obtain ⟨⟨⟨h1, h3⟩, h4⟩, h5⟩ := hB
      have m1 := Nat.le_max_left p.len (max r.len s.len)
      have m0 := Nat.le_max_right p.len (max r.len s.len)
      have m2 := Nat.le_trans (Nat.le_max_left r.len s.len) m0
      have m3 := Nat.le_trans (Nat.le_max_right r.len s.len) m0
      rw [Plan.len]
      generalize max p.len (max r.len s.len) = m at *
      rw [show q.length + (m + 1) + k = q.length + ((m + k) + 1) by omega]
      refine wpAnyT_quiet (lasts_kl hl) hs hQ q L L1 a hcl hq (fun a' hc1 ha' => ?_) h
      have hr : Region.ready md l.toArray L1 = [i, j, n] := by simpa using h1
      refine wpAnyT_all hr (by simp) (fun w' hw' hC x hx => ?_)
      obtain ⟨g1, g2, g3⟩ := ha' w' hw' (Kl.out hC)
      have hx' := hr ▸ hx
      have hlt := ready_lt hx'
      simp only [List.mem_cons, List.not_mem_nil, or_false] at hx
      rcases hx with rfl | rfl | rfl
      · refine wpOp_of_go hlt (fun a2 w2 h2 => ?_) g1
        rw [show m + k = p.len + (m - p.len + k) by omega]
        exact goQ_kl (fun K a w hl hK hp => wpAnyT_plan hs hQ p _ (m - p.len + k) K a w (hc1.set hx') h3 hl hK hp) h2
      · refine wpOp_of_go hlt (fun a2 w2 h2 => ?_) g2
        rw [show m + k = r.len + (m - r.len + k) by omega]
        exact goQ_kl (fun K a w hl hK hp => wpAnyT_plan hs hQ r _ (m - r.len + k) K a w (hc1.set hx') h4 hl hK hp) h2
      · refine wpOp_of_go hlt (fun a2 w2 h2 => ?_) g3
        rw [show m + k = s.len + (m - s.len + k) by omega]
        exact goQ_kl (fun K a w hl hK hp => wpAnyT_plan hs hQ s _ (m - s.len + k) K a w (hc1.set hx') h5 hl hK hp) h2
end

/-- The region by a plan. -/
theorem region_plan {P : Program} {id : Nat} {Q : Exit → Act → World → Prop} {a : Act} {w : World} {l : List Oper} (K : World → Prop) (p : Plan) (hm : P.follows .mixedOrders = true)
    (hs : Region.noSelect l.toArray = true) (hB : planB .any l.toArray p (Array.replicate l.toArray.size false) = true) (hlen : p.len ≤ l.toArray.size)
    (hl : Lasts K) (hK : K w) (h : ∀ w', Below w.heap.size w w' → w'.heap.size = w.heap.size → K w' → wpPlan P l (Q .normal) p K a w') : (Code.region id l.toArray true).wp P Q a w := by
  have hmono : ∀ e a w, calmQ Q e a w → Q e a w := fun e a w h => by cases e <;> first | exact h | exact h.elim
  refine Code.wp_mono hmono (wp_region_any hm ?_)
  have hK' : K { w with drawn := w.drawn + 1 } := hl _ _ hK (Below.refl _ w).drew
  have := wpAnyT_plan (P := P) (md := .any) (Q := calmQ Q) hs (fun _ _ _ _ _ h => h.elim) p (Array.replicate l.toArray.size false) (l.toArray.size - p.len) K a { w with drawn := w.drawn + 1 } closed_start hB hl hK'
    (h _ (Below.refl _ w).drew rfl hK')
  rw [show p.len + (l.toArray.size - p.len) = l.toArray.size by omega] at this
  exact wpAny_of_T _ _ _ _ _ (kept hK') this

/-! ### The steps -/
section
variable {P : Program} {l : List Oper} {N : Act → World → Prop} {K : World → Prop} {a : Act} {w : World}
theorem plan_stop {q : List Nat} (h : wpQuiet P l.toArray (fun w2 => ∃ s : Kept K, w2 = s.w) (fun a' => ∀ w', Below w.heap.size w w' → K w' → N a' w') (pickOps l q) a) : wpPlan P l N (.stop q) K a w := h
theorem plan_fl {q : List Nat} {i : Nat} {p : Plan} (h : wpQuiet P l.toArray (fun w2 => ∃ s : Kept K, w2 = s.w) (fun a' => match opAt l i with
      | [] => False
      | o :: _ => Floats P l.toArray (fun w2 => ∃ s : Kept K, w2 = s.w) o a' (fun a'' => wpPlan P l N p K a'' w)) (pickOps l q) a) : wpPlan P l N (.fl q i p) K a w := h
theorem plan_one {q : List Nat} {i : Nat} {p : Plan} (h : wpQuiet P l.toArray (fun w2 => ∃ s : Kept K, w2 = s.w) (fun a' => ∀ w', Below w.heap.size w w' → K w' → wpList P l.toArray (goQ K (wpPlan P l N p)) (opAt l i) a' w') (pickOps l q) a) : wpPlan P l N (.one q i p) K a w := h
theorem plan_bar {q : List Nat} {i : Nat} {p : Plan} (h : wpQuiet P l.toArray (fun w2 => ∃ s : Kept K, w2 = s.w) (fun a' => ∀ w', Below w.heap.size w w' → K w' → wpList P l.toArray (goB (wpPlan P l N p)) (opAt l i) a' w') (pickOps l q) a) : wpPlan P l N (.bar q i p) K a w := h
theorem plan_two {q : List Nat} {i j : Nat} {p r : Plan} (h : wpQuiet P l.toArray (fun w2 => ∃ s : Kept K, w2 = s.w) (fun a' => ∀ w', Below w.heap.size w w' → K w' →
      wpList P l.toArray (goQ K (wpPlan P l N p)) (opAt l i) a' w' ∧ wpList P l.toArray (goQ K (wpPlan P l N r)) (opAt l j) a' w') (pickOps l q) a) : wpPlan P l N (.two q i p j r) K a w := h
end
section
variable {o : Oper} {a : Act} {K : Act → Prop} {w0 : World}
theorem plan_load_cells {P : Program} (ty : TypeId) (x : Operand) (ho : o.op = .load ty x) {b k : Nat} {cs : List Value} (hx : a.eval x = .pointer (some ⟨b, k, none⟩)) (h : Cells w0 b k cs) (d : TypeDesc) (hu : P.underlying ty = some d)
    (hd : (match d with | .struct _ | .array _ _ => true | _ => false) = true) (hi : (P.info? ty).map (·.size) = some cs.length) (hk : K (a.put o.dst (.agg cs.toArray))) : o.quiet P a (fun w' => ∃ s : Kept (fun x => Below w0.heap.size w0 x), w' = s.w) K :=
  quiet_load_cells ty x ho hx (fun w hw => h.later (Kl.out hw)) d hu hd hi hk
theorem plan_load_hash (x : Operand) (ho : o.op = .load 23 x) {g : Nat} {l : List UInt8} (hx : a.eval x = .pointer (some ⟨g, 0, none⟩)) (h : HashAt w0 g l) (hk : K (a.put o.dst (hv l))) :
    o.quiet Try.prog a (fun w' => ∃ s : Kept (fun x => Below w0.heap.size w0 x), w' = s.w) K :=
  plan_load_cells 23 x ho hx (Cells.arr h.2) _ Try.underlying23 rfl (by rw [bvs_length, h.1]; exact hashInfo) hk
/-- An element of a slice of hashes. -/
theorem cells_hash {w : World} {b k : Nat} {l : List UInt8} (hl : l.length = 32) : (Try.prog.info? 23).map (·.size) = some (bvs l).length := by rw [bvs_length, hl]; exact hashInfo
theorem plan_load_elem (x : Operand) (ho : o.op = .load 23 x) {b k : Nat} {l : List UInt8} (hx : a.eval x = .pointer (some ⟨b, k, none⟩)) (h : Cells w0 b k (bvs l)) (hl : l.length = 32) (hk : K (a.put o.dst (hv l))) :
    o.quiet Try.prog a (fun w' => ∃ s : Kept (fun x => Below w0.heap.size w0 x), w' = s.w) K :=
  plan_load_cells 23 x ho hx h _ Try.underlying23 rfl (by rw [bvs_length, hl]; exact hashInfo) hk
end
theorem wpl_load_elem {ops : Array Oper} {rest : List Oper} {o : Oper} {a : Act} {w : World} {Q : Exit → Act → World → Prop} (hw : Region.wanted o (yielded ops a.tmps) = true) (x : Operand) (ho : o.op = .load 23 x) {b k : Nat} {l : List UInt8}
    (hx : a.eval x = .pointer (some ⟨b, k, none⟩)) (h : Cells w b k (bvs l)) (hl : l.length = 32) (hk : wpList Try.prog ops Q rest (a.put o.dst (hv l)) w) : wpList Try.prog ops Q (o :: rest) a w :=
  wpl_load_cells hw 23 x ho hx h _ Try.underlying23 rfl (by rw [bvs_length, hl]; exact hashInfo) hk
theorem since_load_elem {o : Oper} {a : Act} {K : Act → Prop} {w0 : World} (x : Operand) (ho : o.op = .load 23 x) {b k : Nat} {l : List UInt8} (hx : a.eval x = .pointer (some ⟨b, k, none⟩)) (h : Cells w0 b k (bvs l)) (hl : l.length = 32) (hk : K (a.put o.dst (hv l))) :
    o.quiet Try.prog a (fun w' => ∃ s : Since w0, w' = s.w) K :=
  quiet_load_cells 23 x ho hx h.since _ Try.underlying23 rfl (by rw [bvs_length, hl]; exact hashInfo) hk
end Go.Proofs.Ytikphhhkikdhaaa
