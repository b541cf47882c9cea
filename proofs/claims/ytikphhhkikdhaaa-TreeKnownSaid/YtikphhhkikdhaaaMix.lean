/- A region that draws its order, walked by a schedule: operations that only look (in every world of a class they yield one value and leave the world alone) are pulled ahead; between them operations that may do anything come up alone, and leave a world of the class. -/
import Derived.Test.YtikphhhkikdhaaaRegion
import Derived.OrdersHeld
namespace Go.Proofs.Ytikphhhkikdhaaa
open Go.RowKit

section
variable {P : Program} {ops : Array Oper} {md : Region.Mode} {C : World → Prop} {Q : Exit → Act → World → Prop}

/-- Operations that hand back a value, and are no call. -/
def plainOp (o : Oper) : Bool :=
  match o.op with
  | .move _ | .assign _ | .pick .. | .load .. | .binOp .. | .unOp .. | .convert .. | .slice .. | .fieldAddr .. | .field .. | .indexAddr .. | .index .. | .extract .. | .build .. | .makeFunc .. => true
  | .call { callee := .builtin .len, .. } => true
  | _ => false

theorem sem_value {s : Sem Value} {w w' : World} {n : Next} (h : (do let x ← s; pure (.value x) : Sem Next).run P w = .ok n w') : ∃ v, n = .value v := by
  rw [Sem.run_bind] at h
  cases hs : s.run P w with
  | ok v w1 =>
    rw [hs, Result.andThen_ok, Sem.run_pure] at h
    injection h with h1 h2
    exact ⟨v, h1.symm⟩
  | halt x w1 =>
    rw [hs] at h
    cases h
theorem plainOp_value {o : Oper} (hp : plainOp o = true) {ρ : Operand → Value} {w w' : World} {n : Next} (h : (execOp ρ o).run P w = .ok n w') : ∃ v, n = .value v := by
  obtain ⟨dst, op, type, pos, after, guard⟩ := o
  unfold plainOp at hp
  cases op <;> simp only [Bool.false_eq_true] at hp <;> try (exact sem_value h)
  case move x => simp only [execOp, Sem.run_pure] at h; injection h with h1 _; exact ⟨_, h1.symm⟩
  case assign x => simp only [execOp, Sem.run_pure] at h; injection h with h1 _; exact ⟨_, h1.symm⟩
  case pick c x y =>
    simp only [execOp, Sem.run_bind] at h
    cases hs : (asBool (ρ c)).run P w with
    | ok v w1 =>
      rw [hs, Result.andThen_ok] at h
      first
        | (rw [Sem.run_pure] at h; injection h with h1 _; exact ⟨_, h1.symm⟩)
        | (split at h <;> (rw [Sem.run_pure] at h; injection h with h1 _; exact ⟨_, h1.symm⟩))
    | halt x w1 =>
      rw [hs] at h
      cases h
  case call c =>
    obtain ⟨cal, xs, ats⟩ := c
    cases cal
    case builtin b => cases b <;> first | exact sem_value (s := Builtin.len_ ats type (xs.map ρ)) h | cases hp
    all_goals cases hp

theorem yieldsIf_of_quiet {o : Oper} {a : Act} {K : Act → Prop} (hp : plainOp o = true)
    (h : if Region.wanted o (yielded ops a.tmps) then o.quiet P a C K else K (a.put o.dst undef)) : ∃ v, YieldsIf P ops C o v a ∧ K (a.put o.dst v) := by
  by_cases hw : Region.wanted o (yielded ops a.tmps) = true
  · rw [if_pos hw] at h
    obtain ⟨v, h1, h2⟩ := h
    refine ⟨v, .inl ⟨hw, fun w hcw => ?_⟩, h2⟩
    have h3 := h1 w hcw
    unfold Oper.quietAt at h3
    generalize hr : (execOp a.eval o).run P w = r at *
    cases r with
    | ok n w' =>
      obtain ⟨u, rfl⟩ := plainOp_value hp hr
      simp only [Oper.quietUpon] at h3
      rw [h3.1, h3.2]
    | halt x w' => simp only [Oper.quietUpon] at h3
  · rw [if_neg hw] at h
    exact ⟨undef, .inr ⟨by simpa using hw, rfl⟩, h⟩

/-- What a loud operation owes: a world of the class, and what follows. -/
def mixQ (C : World → Prop) (next : Act → World → Prop) : Exit → Act → World → Prop
  | .normal, a, w => C w ∧ next a w
  | _, _, _ => False
theorem mixQ_out {next : Act → World → Prop} (h : LetsOut (mixQ C next)) : LetsOut Q := by obtain ⟨_, _, h⟩ := h; exact h.elim
theorem Oper.wp_mixQ {o : Oper} {a : Act} {w : World} {K : Act → World → Prop} {next : Act → World → Prop} (hh : o.wp P a w K (mixQ C next)) : o.wp P a w K Q := by
  unfold Oper.wp at *
  generalize (execOp a.eval o).run P w = r at *
  cases r with
  | ok n w' =>
    cases n <;> simp only [Oper.upon] at hh ⊢ <;>
      first
        | exact hh
        | exact Calls.mono hh (fun e w'' he => by cases e <;> first | exact he | exact mixQ_out he | exact he.elim)
  | halt x w' => cases x <;> simp only [Oper.upon] at hh ⊢ <;> first | exact hh | exact hh.elim
/-- Q, but nothing at a panic. -/
def calmQ (Q : Exit → Act → World → Prop) : Exit → Act → World → Prop
  | .panic _, _, _ => False
  | e, a, w => Q e a w

/-- The walk by a schedule: quiet ones, a loud one, and so on. -/
def wpMix (P : Program) (ops : Array Oper) (C : World → Prop) (N : Act → World → Prop) : List (List Oper × List Oper) → Act → World → Prop
  | [], a, w => N a w
  | (q, l) :: rest, a, w => wpQuiet P ops C (fun a' => wpList P ops (mixQ C (wpMix P ops C N rest)) l a' w) q a
theorem wpMix_cons {N : Act → World → Prop} {q l : List Oper} {rest : List (List Oper × List Oper)} {a : Act} {w : World} (h : wpQuiet P ops C (fun a' => wpList P ops (mixQ C (wpMix P ops C N rest)) l a' w) q a) : wpMix P ops C N ((q, l) :: rest) a w := h
theorem wpMix_end {N : Act → World → Prop} {a : Act} {w : World} (h : N a w) : wpMix P ops C N [] a w := h
theorem wpMix_last {N : Act → World → Prop} {a : Act} {w : World} (h1 : C w) (h2 : N a w) : wpList P ops (mixQ C (wpMix P ops C N [])) [] a w := ⟨h1, h2⟩
theorem mixQ_mk {next : Act → World → Prop} {a : Act} {w : World} (h1 : C w) (h2 : next a w) : mixQ C next .normal a w := ⟨h1, h2⟩
def pickOps (l : List Oper) : List Nat → List Oper
  | [] => []
  | i :: r => (match l[i]? with | some o => [o] | none => []) ++ pickOps l r
def pickAll (l : List Oper) : List (List Nat × List Nat) → List (List Oper × List Oper)
  | [] => []
  | (q, d) :: r => (pickOps l q, pickOps l d) :: pickAll l r

def quietB (md : Region.Mode) (ops : Array Oper) : List Nat → Array Bool → Option (Array Bool)
  | [], L => some L
  | i :: q, L => if ((ops[i]?).map plainOp).getD false && (Region.ready md ops L).contains i && Region.free md ops L i then quietB md ops q (L.setIfInBounds i true) else none
def loudB (md : Region.Mode) (ops : Array Oper) : List Nat → Array Bool → Option (Array Bool)
  | [], L => some L
  | i :: q, L => if Region.ready md ops L == [i] then (if q.isEmpty then some (L.setIfInBounds i true) else none) else none
def mixB (md : Region.Mode) (ops : Array Oper) : List (List Nat × List Nat) → Array Bool → Bool
  | [], L => Region.ready md ops L == []
  | (q, d) :: r, L => match quietB md ops q L with
    | none => false
    | some L1 => match loudB md ops d L1 with
      | none => false
      | some L2 => mixB md ops r L2

theorem wpAnyH_quiet {next : Act → Prop} (hs : Region.noSelect ops = true) (hQ : ∀ c a d v w, Q (.panic c) (Act.put a d v) w → Q (.panic c) a w) {w : World} (hC : C w) {fuel : Nat} :
    ∀ (q : List Nat) (L L1 : Array Bool) (a : Act), quietB md ops q L = some L1 → (∀ a', next a' → wpAnyH P md ops Q C fuel L1 a' w) →
      wpQuiet P ops C next (pickOps ops.toList q) a → wpAnyH P md ops Q C (q.length + fuel) L a w
  | [], L, L1, a, hB, hn, h => by
    simp only [quietB, Option.some.injEq] at hB
    subst hB
    simpa using hn a h
  | i :: q, L, L1, a, hB, hn, h => by
    simp only [quietB] at hB
    split at hB
    · rename_i hc
      simp only [Bool.and_eq_true] at hc
      obtain ⟨⟨h1, h2⟩, h3⟩ := hc
      cases ho : ops[i]? with
      | none => rw [ho] at h1; cases h1
      | some o =>
        rw [ho] at h1
        have hl : ops.toList[i]? = some o := by simpa using ho
        simp only [pickOps, hl, List.singleton_append] at h
        obtain ⟨v, hy, hK⟩ := yieldsIf_of_quiet (P := P) (ops := ops) (o := o) (a := a) (C := C) (K := fun a' => wpQuiet P ops C next (pickOps ops.toList q) a') (by simpa using h1) h
        rw [show (i :: q).length + fuel = (q.length + fuel) + 1 by simp; omega]
        exact wpAnyH_take ho hs h3 h2 (fun c a w => hQ c a o.dst v w) hy hC (wpAnyH_quiet hs hQ hC q _ L1 _ hB hn hK)
    · cases hB

theorem wpAnyH_mix (hs : Region.noSelect ops = true) (hQ : ∀ c a d v w, Q (.panic c) (Act.put a d v) w → Q (.panic c) a w) :
    ∀ (segs : List (List Nat × List Nat)) (L : Array Bool) (a : Act) (w : World) (k : Nat), mixB md ops segs L = true → C w →
      wpMix P ops C (Q .normal) (pickAll ops.toList segs) a w → wpAnyH P md ops Q C ((segs.map fun x => x.1.length + x.2.length).sum + k) L a w
  | [], L, a, w, k, hB, _, h => wpAnyH_done (by simpa [mixB] using hB) h _
  | (q, d) :: r, L, a, w, k, hB, hC, h => by
    simp only [mixB] at hB
    split at hB
    · cases hB
    · rename_i L1 hq
      split at hB
      · cases hB
      · rename_i L2 hd
        simp only [List.map_cons, List.sum_cons]
        rw [show q.length + d.length + (r.map fun x => x.1.length + x.2.length).sum + k = q.length + (d.length + ((r.map fun x => x.1.length + x.2.length).sum + k)) by omega]
        refine wpAnyH_quiet hs hQ hC q L L1 a hq (fun a' ha' => ?_) h
        cases d with
        | nil =>
          simp only [loudB, Option.some.injEq] at hd
          subst hd
          simp only [pickOps, wpList] at ha'
          rw [show ([] : List Nat).length + ((r.map fun x => x.1.length + x.2.length).sum + k) = (r.map fun x => x.1.length + x.2.length).sum + k by simp]
          exact wpAnyH_mix hs hQ r L1 a' w k hB ha'.1 ha'.2
        | cons i d =>
          simp only [loudB] at hd
          split at hd
          · rename_i hr
            split at hd
            · rename_i he
              have hde : d = [] := by simpa using he
              subst hde
              simp only [Option.some.injEq] at hd
              subst hd
              have hri : Region.ready md ops L1 = [i] := by simpa using hr
              rw [show [i].length + ((r.map fun x => x.1.length + x.2.length).sum + k) = ((r.map fun x => x.1.length + x.2.length).sum + k) + 1 by simp; omega]
              refine wpAnyH_all hri (by simp) (fun j hj => ?_)
              have hji : j = i := by simpa using hj
              subst hji
              obtain ⟨_, o, ho, _⟩ := (mem_ready (md := md) (ops := ops) (j := j) (listed := L1)).1 (by rw [hri]; simp)
              have hl : ops.toList[j]? = some o := by simpa using ho
              simp only [pickOps, hl, List.singleton_append, wpList] at ha'
              unfold wpOp
              simp only [ho]
              split
              · rename_i hw
                rw [if_pos hw] at ha'
                refine ha'.imp (fun h1 => ?_) (fun h1 => ⟨h1.1, mixQ_out h1.2⟩)
                refine Oper.wp_mono (fun a2 w2 h2 => ?_) (Oper.wp_mixQ h1)
                exact ⟨h2.1, wpAnyH_mix hs hQ r _ a2 w2 k hB h2.1 h2.2⟩
              · rename_i hw
                rw [if_neg hw] at ha'
                exact ⟨ha'.1, wpAnyH_mix hs hQ r _ _ w k hB ha'.1 ha'.2⟩
            · cases hd
          · cases hd
end

/-- A world that is as w0 was below block number B. -/
structure From (B : Nat) (w0 : World) where
  w : World
  ok : Below B w0 w
instance from_nonempty (B : Nat) (w : World) : Nonempty (From B w) := ⟨⟨w, Below.refl _ _⟩⟩
theorem From.cell {B : Nat} {w0 : World} {a : Addr} {v : Value} (h : w0.cell? a = some v) (hB : a.block < B) (s : From B w0) : s.w.cell? a = some v := (s.ok.cell hB).trans h
def Fromly (B : Nat) (w0 : World) : World → Prop := fun w' => ∃ s : From B w0, w' = s.w
theorem fromly {B : Nat} {w0 w : World} (h : Below B w0 w) : Fromly B w0 w := ⟨⟨w, h⟩, rfl⟩
theorem Fromly.out {B : Nat} {w0 w : World} (h : Fromly B w0 w) : Below B w0 w := by obtain ⟨s, rfl⟩ := h; exact s.ok

/-- A contract's world, met in the midst of a region. -/
theorem mixed {B : Nat} {W a b : World} (hB : B ≤ W.heap.size) (h : Below B W a) (k : Below a.heap.size a b) : Below B W b := h.trans (k.mono (Nat.le_trans hB h.size))
theorem mixed_alloc {B : Nat} {W a : World} (hB : B ≤ W.heap.size) (h : Below B W a) (o : Obj) : Below B W (a.alloc o) := h.alloc (Nat.le_trans hB h.size) o
/-- The region by a schedule: the class is that of the worlds which are as w is below block number B. -/
theorem region_mix {P : Program} {id : Nat} {Q : Exit → Act → World → Prop} {a : Act} {w : World} {l : List Oper} (B : Nat) (segs : List (List Nat × List Nat)) (hm : P.follows .mixedOrders = true)
    (hs : Region.noSelect l.toArray = true) (hB : mixB .any l.toArray segs (Array.replicate l.toArray.size false) = true) (hlen : (segs.map fun x => x.1.length + x.2.length).sum ≤ l.toArray.size)
    (h : ∀ w', Below w.heap.size w w' → w'.heap.size = w.heap.size → wpMix P l.toArray (fun w2 => ∃ s : From B w, w2 = s.w) (Q .normal) (pickAll l segs) a w') : (Code.region id l.toArray true).wp P Q a w := by
  have hmono : ∀ e a w, calmQ Q e a w → Q e a w := fun e a w h => by cases e <;> first | exact h | exact h.elim
  refine Code.wp_mono hmono (wp_region_held (S := fun w2 => ∃ s : From B w, w2 = s.w) hm ?_)
  obtain ⟨k, hk⟩ : ∃ k, l.toArray.size = (segs.map fun x => x.1.length + x.2.length).sum + k := ⟨l.toArray.size - (segs.map fun x => x.1.length + x.2.length).sum, by omega⟩
  have := wpAnyH_mix (P := P) (md := .any) (C := fun w2 => ∃ s : From B w, w2 = s.w) (Q := calmQ Q) hs (fun _ _ _ _ _ h => h.elim) segs (Array.replicate l.toArray.size false) a { w with drawn := w.drawn + 1 } k hB (fromly (Below.refl _ w).drew)
    (h _ (Below.refl _ w).drew rfl)
  rwa [← hk] at this
end Go.Proofs.Ytikphhhkikdhaaa
