/- A region that draws its order, walked by a schedule in which calls that only make new memory, and yield one value in every world of a class, may come up anywhere: operations that look, such calls, and operations that come up alone, proved from every later world. -/
import Derived.Test.YtikphhhkikdhaaaMix
namespace Go.Proofs.Ytikphhhkikdhaaa
open Go.RowKit

section
variable {P : Program} {ops : Array Oper} {md : Region.Mode} {C : World → Prop} {Q : Exit → Act → World → Prop}

/-- One operation in one world: the value v, the world as it was; or a call that hands back v and only makes new memory. -/
def flUpon (P : Program) (w : World) (v : Value) : Result Next → Prop
  | .ok (.value u) w' => w' = w ∧ u = v
  | .ok (.enter f args) w' => w' = w ∧ Calls P f args w (fun e w'' => e = .returned v ∧ Below w.heap.size w w'')
  | _ => False
def YieldsFl (P : Program) (ops : Array Oper) (C : World → Prop) (o : Oper) (v : Value) (a : Act) : Prop :=
  (Region.wanted o (yielded ops a.tmps) = true ∧ ∀ w, C w → flUpon P w v ((execOp a.eval o).run P w)) ∨
  (Region.wanted o (yielded ops a.tmps) = false ∧ v = undef)
theorem YieldsFl.of_same {o : Oper} {v : Value} {a a' : Act} (hy : YieldsFl P ops C o v a) (he : execOp a'.eval o = execOp a.eval o)
    (hw : Region.wanted o (yielded ops a'.tmps) = Region.wanted o (yielded ops a.tmps)) : YieldsFl P ops C o v a' := by
  unfold YieldsFl at *
  rw [he, hw]
  exact hy
theorem YieldsFl.wpOp {i : Nat} {o : Oper} {v : Value} {a : Act} (hi : ops[i]? = some o) (hy : YieldsFl P ops C o v a) {K : Act → World → Prop} {w : World} (hC : C w)
    (h : ∀ w', Below w.heap.size w w' → K (a.put o.dst v) w') : wpOp P ops Q i K a w := by
  unfold Go.wpOp
  simp only [hi]
  rcases hy with ⟨hw, hv⟩ | ⟨hw, rfl⟩
  · simp only [hw, if_true]
    refine .inl ?_
    have h1 := hv w hC
    unfold Oper.wp
    generalize (execOp a.eval o).run P w = r at *
    cases r with
    | ok n w' =>
      cases n <;> simp only [flUpon] at h1 <;> simp only [Oper.upon]
      case value u => obtain ⟨rfl, rfl⟩ := h1; exact h _ (Below.refl _ _)
      case enter f args =>
        obtain ⟨rfl, hc⟩ := h1
        exact hc.mono fun e w'' ⟨he, hb⟩ => by subst he; exact h _ hb
    | halt x w' => simp only [flUpon] at h1
  · simp only [hw, Bool.false_eq_true, if_false]; exact h _ (Below.refl _ _)
theorem wpOp_putFl {j : Nat} {oi oj : Oper} {v : Value} (hj : ops[j]? = some oj) (hap : oi.apart ops oj = true)
    (hsi : ∀ cs b, oi.op ≠ .select cs b) (hsj : ∀ cs b, oj.op ≠ .select cs b)
    (hQ : ∀ c a w, Q (.panic c) (a.put oi.dst v) w → Q (.panic c) a w) {K : Act → World → Prop} {a : Act} {w : World}
    (hy : YieldsFl P ops C oi v a) (h : wpOp P ops Q j K (a.put oi.dst v) w) :
    wpOp P ops Q j (fun a' w' => YieldsFl P ops C oi v a' ∧ K (a'.put oi.dst v) w') a w := by
  obtain ⟨h1, h2, h3⟩ := Oper.apart_spec hap
  have keep : ∀ (a : Act), YieldsFl P ops C oi v a → ∀ u, YieldsFl P ops C oi v (a.put oj.dst u) := fun a hy u =>
    hy.of_same (execOp_put oi hsi a oj.dst u h3) (wanted_put oi a oj.dst u h3)
  have keepD : ∀ d, YieldsFl P ops C oi v { a with defers := d :: a.defers } := fun d => hy.of_same rfl rfl
  unfold wpOp at *
  simp only [hj] at *
  rw [wanted_put oj a oi.dst v h1] at h
  split
  · rename_i hw
    simp only [hw, if_true] at h
    rcases h with h | ⟨hasks, hlets⟩
    case inr => exact .inr ⟨by unfold Oper.asks at *; rw [execOp_put oj hsj a oi.dst v h1] at hasks; exact hasks, hlets⟩
    refine .inl ?_
    unfold Oper.wp at *
    rw [execOp_put oj hsj a oi.dst v h1] at h
    generalize (execOp a.eval oj).run P w = r at *
    cases r with
    | ok n w' =>
      cases n <;> simp only [Oper.upon] at h ⊢
      case value u => exact ⟨keep a hy u, by rw [← Act.put_comm a v u h2]; exact h⟩
      case skip => exact ⟨keep a hy _, by rw [← Act.put_comm a v undef h2]; exact h⟩
      case defer d =>
        refine ⟨keep _ (keepD d) _, ?_⟩
        rw [← Act.put_comm _ v undef h2, ← Act.put_defers]
        exact h
      case enter f args =>
        refine Calls.mono h fun e w'' he => ?_
        cases e with
        | returned u => exact ⟨keep a hy u, by rw [← Act.put_comm a v u h2]; exact he⟩
        | panicked c => exact hQ _ _ _ he
        | outgrown => exact he
      case row row args => exact Rows.mono h fun u w'' he => ⟨keep a hy u, by rw [← Act.put_comm a v u h2]; exact he⟩
    | halt x w' =>
      cases x <;> simp only [Oper.upon] at h ⊢
      case panic u => exact hQ _ _ _ h
  · rename_i hw
    simp only [hw] at h
    exact ⟨keep a hy _, by rw [← Act.put_comm a v undef h2]; exact h⟩

/-- Whatever order is picked from here on, from every later world of the class, and the class holds behind every operation. -/
def wpAnyR (P : Program) (md : Region.Mode) (ops : Array Oper) (Q : Exit → Act → World → Prop) (C : World → Prop) : Nat → Array Bool → Act → World → Prop
  | 0, listed, a, w => ∀ w', Below w.heap.size w w' → C w' → Region.ready md ops listed = [] ∧ Q .normal a w'
  | fuel + 1, listed, a, w => ∀ w', Below w.heap.size w w' → C w' →
    (Region.ready md ops listed = [] → Q .normal a w') ∧
    ∀ i ∈ Region.ready md ops listed, wpOp P ops Q i (fun a' w'' => C w'' ∧ wpAnyR P md ops Q C fuel (listed.setIfInBounds i true) a' w'') a w'
theorem wpAnyR_later {fuel : Nat} {listed : Array Bool} {a : Act} {w w1 : World} (h : wpAnyR P md ops Q C fuel listed a w) (hb : Below w.heap.size w w1) : wpAnyR P md ops Q C fuel listed a w1 := by
  cases fuel with
  | zero => exact fun w' hw' hC => h w' (hb.trans (hw'.mono hb.size)) hC
  | succ fuel => exact fun w' hw' hC => h w' (hb.trans (hw'.mono hb.size)) hC
theorem wpAny_of_R : ∀ (fuel : Nat) (listed : Array Bool) (a : Act) (w : World), C w → wpAnyR P md ops Q C fuel listed a w → wpAny P md ops Q fuel listed a w
  | 0, _, _, w, hC, h => h w (Below.refl _ _) hC
  | fuel + 1, _, _, w, hC, h =>
    have h := h w (Below.refl _ _) hC
    ⟨h.1, fun i hi => wpOp_mono (fun a' w' h' => wpAny_of_R fuel _ a' w' h'.1 h'.2) (h.2 i hi)⟩
theorem wpAnyR_done {listed : Array Bool} {a : Act} {w : World} (hr : Region.ready md ops listed = []) (h : ∀ w', Below w.heap.size w w' → C w' → Q .normal a w') :
    ∀ fuel, wpAnyR P md ops Q C fuel listed a w
  | 0 => fun w' hw' hC => ⟨hr, h w' hw' hC⟩
  | _ + 1 => fun w' hw' hC => ⟨fun _ => h w' hw' hC, by rw [hr]; simp⟩

theorem wpAnyR_first (hCR : ∀ w w', C w → Below w.heap.size w w' → C w') {i : Nat} {oi : Oper} {v : Value} (hi : ops[i]? = some oi) (hsel : ∀ (j : Nat) (o : Oper) cs b, ops[j]? = some o → o.op ≠ .select cs b)
    (hQ : ∀ c a w, Q (.panic c) (a.put oi.dst v) w → Q (.panic c) a w) :
    ∀ (fuel : Nat) (listed : Array Bool) (a : Act) (w : World),
      (∀ j oj, ops[j]? = some oj → j ≠ i → listed.getD j true = false → (∀ e ∈ oj.after, Region.binds md e = true → e.on ≠ i) → oi.apart ops oj = true) →
      i ∈ Region.ready md ops listed → YieldsFl P ops C oi v a →
      wpAnyR P md ops Q C fuel (listed.setIfInBounds i true) (a.put oi.dst v) w → wpAnyR P md ops Q C (fuel + 1) listed a w := by
  intro fuel
  induction fuel with
  | zero =>
    intro listed a w _ hr hy H w' hw' hC
    refine ⟨fun h => (by rw [h] at hr; cases hr), fun j hj => ?_⟩
    by_cases hji : j = i
    · subst hji
      exact hy.wpOp hi hC (fun w'' hb => ⟨hCR _ _ hC hb, wpAnyR_later (wpAnyR_later H hw') hb⟩)
    · have := ready_mono hj hji
      rw [(H w' hw' hC).1] at this
      cases this
  | succ fuel ih =>
    intro listed a w hfree hr hy H w' hw' hC
    refine ⟨fun h => (by rw [h] at hr; cases hr), fun j hj => ?_⟩
    by_cases hji : j = i
    · subst hji
      exact hy.wpOp hi hC (fun w'' hb => ⟨hCR _ _ hC hb, wpAnyR_later (wpAnyR_later H hw') hb⟩)
    · have h1 := (H w' hw' hC).2 j (ready_mono hj hji)
      obtain ⟨hjun, oj, hoj, hall⟩ := mem_ready.1 hj
      have hnot : ∀ e ∈ oj.after, Region.binds md e = true → e.on ≠ i := fun e he hb heq => by
        have h1 := hall e he hb
        have h0 := (mem_ready.1 hr).1
        rw [heq] at h1
        rcases Nat.lt_or_ge i listed.size with h' | h'
        · simp [h'] at h0 h1; rw [h0] at h1; cases h1
        · simp [Array.getElem?_eq_none h'] at h1
      have h2 := wpOp_putFl hoj (hfree j oj hoj hji hjun hnot) (fun cs b => hsel i oi cs b hi) (fun cs b => hsel j oj cs b hoj) hQ hy h1
      have hfree' : ∀ k ok, ops[k]? = some ok → k ≠ i → (listed.setIfInBounds j true).getD k true = false →
          (∀ e ∈ ok.after, Region.binds md e = true → e.on ≠ i) → oi.apart ops ok = true := fun k ok hk hki hun hno => by
        refine hfree k ok hk hki ?_ hno
        by_cases hjk : j = k
        · subst hjk; exact hjun
        · rw [getD_set_ne true hjk] at hun; exact hun
      refine wpOp_mono (fun a' w' h3 => ⟨h3.2.1, ih (listed.setIfInBounds j true) a' w' hfree' (ready_mono hr (Ne.symm hji)) h3.1 ?_⟩) h2
      rw [Array.setIfInBounds_comm _ _ hji]
      exact h3.2.2

/-! ### The schedule: each step: operations that look, then a call that may come up anywhere (true), or one that comes up alone (false) -/
/-- One call that may come up anywhere. -/
def Floats (P : Program) (ops : Array Oper) (C : World → Prop) (o : Oper) (a : Act) (K : Act → Prop) : Prop := ∃ v, YieldsFl P ops C o v a ∧ K (a.put o.dst v)
def wpFloats (P : Program) (ops : Array Oper) (C : World → Prop) (N : Act → World → Prop) : List (List Oper × Bool × List Oper) → Act → World → Prop
  | [], a, w => ∀ w', Below w.heap.size w w' → C w' → N a w'
  | (q, b, l) :: rest, a, w => wpQuiet P ops C (fun a' =>
      match b, l with
      | true, o :: _ => Floats P ops C o a' (fun a'' => ∀ w', Below w.heap.size w w' → wpFloats P ops C N rest a'' w')
      | true, [] => False
      | false, l => ∀ w', Below w.heap.size w w' → C w' → wpList P ops (mixQ C (wpFloats P ops C N rest)) l a' w') q a
theorem fl_quiet {N : Act → World → Prop} {q : List Oper} {b : Bool} {l : List Oper} {rest : List (List Oper × Bool × List Oper)} {a : Act} {w : World}
    (h : wpQuiet P ops C (fun a' =>
      match b, l with
      | true, o :: _ => Floats P ops C o a' (fun a'' => ∀ w', Below w.heap.size w w' → wpFloats P ops C N rest a'' w')
      | true, [] => False
      | false, l => ∀ w', Below w.heap.size w w' → C w' → wpList P ops (mixQ C (wpFloats P ops C N rest)) l a' w') q a) : wpFloats P ops C N ((q, b, l) :: rest) a w := h
theorem fl_float {N : Act → World → Prop} {q : List Oper} {o : Oper} {l : List Oper} {rest : List (List Oper × Bool × List Oper)} {a : Act} {w : World}
    (h : wpQuiet P ops C (fun a' => Floats P ops C o a' (fun a'' => ∀ w', Below w.heap.size w w' → wpFloats P ops C N rest a'' w')) q a) : wpFloats P ops C N ((q, true, o :: l) :: rest) a w := h
theorem fl_loud {N : Act → World → Prop} {q : List Oper} {l : List Oper} {rest : List (List Oper × Bool × List Oper)} {a : Act} {w : World}
    (h : wpQuiet P ops C (fun a' => ∀ w', Below w.heap.size w w' → C w' → wpList P ops (mixQ C (wpFloats P ops C N rest)) l a' w') q a) : wpFloats P ops C N ((q, false, l) :: rest) a w := h
theorem fl_end {N : Act → World → Prop} {a : Act} {w : World} (h : ∀ w', Below w.heap.size w w' → C w' → N a w') : wpFloats P ops C N [] a w := h
/-- The function has a body of its own. -/
def bodied (P : Program) (f : FuncId) : Bool := match P.funcs[f]? with
  | some fn => !(fn.name == "runtime.NumGoroutine") && fn.body.isSome
  | none => false
theorem run_bodied {f : FuncId} (h : bodied P f = true) (args : Array Value) (w : World) : (callFunc f args).run P w = .ok (.enter f args) w := by
  unfold bodied at h
  split at h
  · rename_i fn hf
    simp only [Bool.and_eq_true, Bool.not_eq_true', beq_eq_false_iff_ne, ne_eq] at h
    obtain ⟨h1, h2⟩ := h
    cases hb : fn.body with
    | none => rw [hb] at h2; cases h2
    | some c => simp [callFunc, hf, h1, hb]
  · cases h
/-- A call of a named function, that may come up anywhere. -/
theorem fl_call {o : Oper} {a : Act} {K : Act → Prop} (hw : Region.wanted o (yielded ops a.tmps) = true) {f : FuncId} {xs : Array Operand} {ats : Array TypeId} (ho : o.op = .call { callee := .value (.func f), args := xs, argTypes := ats }) (hf : bodied P f = true) {args : Array Value}
    (hargs : xs.map a.eval = args) {v : Value} (h : ∀ w, C w → Calls P f args w fun e w'' => e = .returned v ∧ Below w.heap.size w w'') (hk : K (a.put o.dst v)) : Floats P ops C o a K := by
  refine ⟨v, .inl ⟨hw, fun w hC => ?_⟩, hk⟩
  obtain ⟨dst, op, type, pos, after, guard⟩ := o
  simp only at ho
  subst ho
  rw [execOp_call_go, hargs]
  have e : (#[] ++ args ++ #[] : Array Value) = args := by simp
  first | rw [e] | skip
  have := h w hC
  rw [run_bodied hf]
  exact ⟨rfl, this⟩

def pickFl (l : List Oper) : List (List Nat × Bool × List Nat) → List (List Oper × Bool × List Oper)
  | [] => []
  | (q, b, d) :: r => (pickOps l q, b, pickOps l d) :: pickFl l r
def floatB (md : Region.Mode) (ops : Array Oper) : List (List Nat × Bool × List Nat) → Array Bool → Bool
  | [], L => Region.ready md ops L == []
  | (q, b, d) :: r, L => match quietB md ops q L with
    | none => false
    | some L1 => match d with
      | [] => false
      | i :: d' => d'.isEmpty && (if b then (Region.ready md ops L1).contains i && Region.free md ops L1 i else Region.ready md ops L1 == [i]) && floatB md ops r (L1.setIfInBounds i true)

theorem wpAnyR_quiet {next : Act → Prop} (hs : Region.noSelect ops = true) (hCR : ∀ w w', C w → Below w.heap.size w w' → C w') (hQ : ∀ c a d v w, Q (.panic c) (Act.put a d v) w → Q (.panic c) a w) {w : World} {fuel : Nat} :
    ∀ (q : List Nat) (L L1 : Array Bool) (a : Act), quietB md ops q L = some L1 → (∀ a', next a' → wpAnyR P md ops Q C fuel L1 a' w) →
      wpQuiet P ops C next (pickOps ops.toList q) a → wpAnyR P md ops Q C (q.length + fuel) L a w
  | [], L, L1, a, hB, hn, h => by
    simp only [quietB, Option.some.injEq] at hB
    subst hB
    simpa using hn a h
  | i :: q, L, L1, a, hB, hn, h => by
    simp only [quietB] at hB
    split at hB
    · rename_i hc
      simp only [Bool.and_eq_true] at hc
      obtain ⟨⟨h1, h2⟩, h3⟩ := hc
      cases ho : ops[i]? with
      | none => rw [ho] at h1; cases h1
      | some o =>
        rw [ho] at h1
        have hl : ops.toList[i]? = some o := by simpa using ho
        simp only [pickOps, hl, List.singleton_append] at h
        obtain ⟨v, hy, hK⟩ := yieldsIf_of_quiet (P := P) (ops := ops) (o := o) (a := a) (C := C) (K := fun a' => wpQuiet P ops C next (pickOps ops.toList q) a') (by simpa using h1) h
        have hy' : YieldsFl P ops C o v a := hy.imp (fun hh => ⟨hh.1, fun w hC => by rw [hh.2 w hC]; exact ⟨rfl, rfl⟩⟩) id
        rw [show (i :: q).length + fuel = (q.length + fuel) + 1 by simp; omega]
        exact wpAnyR_first hCR ho (Region.noSelect_spec hs) (fun c a w => hQ c a o.dst v w) _ L a w (Region.free_spec ho h3) (by simpa using h2) hy' (wpAnyR_quiet hs hCR hQ q _ L1 _ hB hn hK)
    · cases hB

theorem wpAnyR_float (hs : Region.noSelect ops = true) (hCR : ∀ w w', C w → Below w.heap.size w w' → C w') (hQ : ∀ c a d v w, Q (.panic c) (Act.put a d v) w → Q (.panic c) a w) :
    ∀ (segs : List (List Nat × Bool × List Nat)) (L : Array Bool) (a : Act) (w : World) (k : Nat), floatB md ops segs L = true →
      wpFloats P ops C (Q .normal) (pickFl ops.toList segs) a w → wpAnyR P md ops Q C ((segs.map fun x => x.1.length + 1).sum + k) L a w
  | [], L, a, w, k, hB, h => wpAnyR_done (by simpa [floatB] using hB) h _
  | (q, b, d) :: r, L, a, w, k, hB, h => by
    simp only [floatB] at hB
    split at hB
    · cases hB
    · rename_i L1 hq
      cases d with
      | nil => cases hB
      | cons i d =>
        simp only [Bool.and_eq_true] at hB
        obtain ⟨⟨he, hr⟩, hrest⟩ := hB
        have hde : d = [] := by simpa using he
        subst hde
        simp only [List.map_cons, List.sum_cons]
        rw [show q.length + 1 + (r.map fun x => x.1.length + 1).sum + k = q.length + (((r.map fun x => x.1.length + 1).sum + k) + 1) by omega]
        refine wpAnyR_quiet hs hCR hQ q L L1 a hq (fun a' ha' => ?_) h
        cases b with
        | true =>
          simp only [if_true, Bool.and_eq_true] at hr
          obtain ⟨hr1, hr2⟩ := hr
          have hm : i ∈ Region.ready md ops L1 := by simpa using hr1
          obtain ⟨_, o, ho, _⟩ := mem_ready.1 hm
          have hl : ops.toList[i]? = some o := by simpa using ho
          simp only [pickOps, hl, List.singleton_append] at ha'
          obtain ⟨v, hy, hK⟩ := ha'
          exact wpAnyR_first hCR ho (Region.noSelect_spec hs) (fun c a w => hQ c a o.dst v w) _ L1 a' w (Region.free_spec ho hr2) hm hy
            (wpAnyR_float hs hCR hQ r _ _ w k hrest (hK w (Below.refl _ _)))
        | false =>
          have hri : Region.ready md ops L1 = [i] := by simpa using hr
          obtain ⟨_, o, ho, _⟩ := (mem_ready (md := md) (ops := ops) (j := i) (listed := L1)).1 (by rw [hri]; simp)
          have hl : ops.toList[i]? = some o := by simpa using ho
          simp only [pickOps, hl, List.singleton_append] at ha'
          intro w1 hw1 hC1
          refine ⟨fun h0 => (by rw [hri] at h0; cases h0), fun j hj => ?_⟩
          have hji : j = i := by rw [hri] at hj; simpa using hj
          subst hji
          have h1 := ha' w1 hw1 hC1
          simp only [wpList] at h1
          unfold wpOp
          simp only [ho]
          split
          · rename_i hw
            rw [if_pos hw] at h1
            refine h1.imp (fun h1 => ?_) (fun h1 => ⟨h1.1, mixQ_out h1.2⟩)
            refine Oper.wp_mono (fun a2 w2 h2 => ?_) (Oper.wp_mixQ h1)
            exact ⟨h2.1, wpAnyR_float hs hCR hQ r _ a2 w2 k hrest h2.2⟩
          · rename_i hw
            rw [if_neg hw] at h1
            exact ⟨h1.1, wpAnyR_float hs hCR hQ r _ _ w1 k hrest h1.2⟩
end

/-- The region by a schedule with floating calls: the class is that of the worlds which are as w is below block number B. -/
theorem region_float {P : Program} {id : Nat} {Q : Exit → Act → World → Prop} {a : Act} {w : World} {l : List Oper} (B : Nat) (segs : List (List Nat × Bool × List Nat)) (hm : P.follows .mixedOrders = true)
    (hs : Region.noSelect l.toArray = true) (hB : floatB .any l.toArray segs (Array.replicate l.toArray.size false) = true) (hlen : (segs.map fun x => x.1.length + 1).sum ≤ l.toArray.size) (hsz : B ≤ w.heap.size)
    (h : ∀ w', Below w.heap.size w w' → w'.heap.size = w.heap.size → wpFloats P l.toArray (fun w2 => ∃ s : From B w, w2 = s.w) (Q .normal) (pickFl l segs) a w') : (Code.region id l.toArray true).wp P Q a w := by
  have hmono : ∀ e a w, calmQ Q e a w → Q e a w := fun e a w h => by cases e <;> first | exact h | exact h.elim
  refine Code.wp_mono hmono (wp_region_any hm ?_)
  obtain ⟨k, hk⟩ : ∃ k, l.toArray.size = (segs.map fun x => x.1.length + 1).sum + k := ⟨l.toArray.size - (segs.map fun x => x.1.length + 1).sum, by omega⟩
  have := wpAnyR_float (P := P) (md := .any) (C := fun w2 => ∃ s : From B w, w2 = s.w) (Q := calmQ Q) hs (fun _ _ h hb => by obtain ⟨s, rfl⟩ := h; exact fromly (mixed hsz s.ok hb)) (fun _ _ _ _ _ h => h.elim) segs (Array.replicate l.toArray.size false) a { w with drawn := w.drawn + 1 } k hB
    (h _ (Below.refl _ w).drew rfl)
  rw [← hk] at this
  exact wpAny_of_R _ _ _ _ (fromly (Below.refl _ w).drew) this
/-- A world of which K holds. -/
structure Kept (K : World → Prop) where
  w : World
  ok : K w
theorem kept {K : World → Prop} {w : World} (h : K w) : ∃ s : Kept K, w = s.w := ⟨⟨w, h⟩, rfl⟩
/-- The region by a schedule with floating calls, of a class that lasts. -/
theorem region_kept {P : Program} {id : Nat} {Q : Exit → Act → World → Prop} {a : Act} {w : World} {l : List Oper} (K : World → Prop) (segs : List (List Nat × Bool × List Nat)) (hm : P.follows .mixedOrders = true)
    (hs : Region.noSelect l.toArray = true) (hB : floatB .any l.toArray segs (Array.replicate l.toArray.size false) = true) (hlen : (segs.map fun x => x.1.length + 1).sum ≤ l.toArray.size)
    (hK : K w) (hCR : ∀ w w', K w → Below w.heap.size w w' → K w')
    (h : ∀ w', Below w.heap.size w w' → w'.heap.size = w.heap.size → wpFloats P l.toArray (fun w2 => ∃ s : Kept K, w2 = s.w) (Q .normal) (pickFl l segs) a w') : (Code.region id l.toArray true).wp P Q a w := by
  have hmono : ∀ e a w, calmQ Q e a w → Q e a w := fun e a w h => by cases e <;> first | exact h | exact h.elim
  refine Code.wp_mono hmono (wp_region_any hm ?_)
  obtain ⟨k, hk⟩ : ∃ k, l.toArray.size = (segs.map fun x => x.1.length + 1).sum + k := ⟨l.toArray.size - (segs.map fun x => x.1.length + 1).sum, by omega⟩
  have := wpAnyR_float (P := P) (md := .any) (C := fun w2 => ∃ s : Kept K, w2 = s.w) (Q := calmQ Q) hs (fun _ _ h hb => by obtain ⟨s, rfl⟩ := h; exact kept (hCR _ _ s.ok hb)) (fun _ _ _ _ _ h => h.elim) segs (Array.replicate l.toArray.size false) a { w with drawn := w.drawn + 1 } k hB
    (h _ (Below.refl _ w).drew rfl)
  rw [← hk] at this
  exact wpAny_of_R _ _ _ _ (kept (hCR _ _ hK (Below.refl _ w).drew)) this
end Go.Proofs.Ytikphhhkikdhaaa
