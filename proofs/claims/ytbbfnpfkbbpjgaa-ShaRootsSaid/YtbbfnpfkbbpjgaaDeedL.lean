/- Deeds: what they are, their bytes, how these are read. Plain law. -/
import Derived.Test.YtbbfnpfkbbpjgaaTakeL
namespace Go.Proofs.Ytbbfnpfkbbpjgaa
open Go.RowKit Go.Lib
set_option linter.unusedVariables false
set_option linter.unusedSimpArgs false

/-- What is read of bytes: a thing, and what stands behind it. -/
abbrev Rdr (α : Type) := List UInt8 → Option (α × List UInt8)
def pureP {α : Type} (a : α) : Rdr α := fun s => some (a, s)
def bindP {α β : Type} (p : Rdr α) (f : α → Rdr β) : Rdr β := fun s => match p s with | none => none | some (a, r) => f a r
theorem bind_some {α β : Type} {p : Rdr α} {f : α → Rdr β} {s r : List UInt8} {a : α} (h : p s = some (a, r)) : bindP p f s = f a r := by unfold bindP; rw [h]
theorem bind_none {α β : Type} {p : Rdr α} {f : α → Rdr β} {s : List UInt8} (h : p s = none) : bindP p f s = none := by unfold bindP; rw [h]
theorem bind_is {α β : Type} {p : Rdr α} {f : α → Rdr β} {s r : List UInt8} {b : β} (h : bindP p f s = some (b, r)) : ∃ a t, p s = some (a, t) ∧ f a t = some (b, r) := by
  cases hp : p s with
  | none => rw [bind_none hp] at h; cases h
  | some x => obtain ⟨a, t⟩ := x; rw [bind_some hp] at h; exact ⟨a, t, rfl, h⟩
def numP : Rdr Nat := fun s => match takeO s with | none => none | some (n, k) => some (n, s.drop k)
def textP (n : Nat) : Rdr (List UInt8) := fun s => if s.length < n then none else some (s.take n, s.drop n)
/-- n things, one behind the other. -/
def manyP {α : Type} (p : Rdr α) : Nat → Rdr (List α)
  | 0 => pureP []
  | n + 1 => bindP p fun a => bindP (manyP p n) fun l => pureP (a :: l)
def listP {α : Type} (most : Nat) (p : Rdr α) : Rdr (List α) := bindP numP fun n => if most < n then (fun _ => none) else manyP p n
/-- p reads what f puts of things that may be, and nothing else. -/
structure Reads {α : Type} (p : Rdr α) (f : α → List UInt8) (Ok : α → Prop) : Prop where
  put : ∀ a rest, Ok a → p (f a ++ rest) = some (a, rest)
  got : ∀ s a r, p s = some (a, r) → Ok a ∧ s = f a ++ r
theorem reads_num : Reads numP putL (fun n => n < 18446744073709551616) := by
  refine ⟨fun n rest h => ?_, fun s a r h => ?_⟩
  · unfold numP
    rw [takeO_put n h rest]
    simp
  · unfold numP at h
    cases hq : takeO s with
    | none => rw [hq] at h; cases h
    | some x =>
      obtain ⟨n, k⟩ := x
      rw [hq] at h
      simp only [Option.some.injEq, Prod.mk.injEq] at h
      obtain ⟨rfl, rfl⟩ := h
      obtain ⟨h1, h2, h3, h4⟩ := takeO_is hq
      exact ⟨h1, h3⟩
theorem reads_text (n : Nat) : Reads (textP n) (fun l => l) (fun l => l.length = n) := by
  refine ⟨fun l rest h => ?_, fun s a r h => ?_⟩
  · unfold textP
    rw [if_neg (by rw [List.length_append, h]; omega)]
    subst h
    simp
  · unfold textP at h
    split at h
    · cases h
    · simp only [Option.some.injEq, Prod.mk.injEq] at h
      obtain ⟨rfl, rfl⟩ := h
      exact ⟨by rw [List.length_take]; omega, (List.take_append_drop n s).symm⟩
/-- One behind the other. -/
theorem reads_bind {α β : Type} {p : Rdr α} {f : α → List UInt8} {A : α → Prop} (h : Reads p f A) {q : α → Rdr β} {g : β → List UInt8} {B : β → Prop} (of : β → α)
    (hq : ∀ a, A a → Reads (q a) g (fun b => B b ∧ of b = a)) (hB : ∀ b, B b → A (of b)) : Reads (bindP p q) (fun b => f (of b) ++ g b) B := by
  refine ⟨fun b rest hb => ?_, fun s b r hs => ?_⟩
  · unfold bindP
    rw [List.append_assoc, h.put _ _ (hB b hb)]
    exact (hq _ (hB b hb)).put b rest ⟨hb, rfl⟩
  · unfold bindP at hs
    cases hp : p s with
    | none => rw [hp] at hs; cases hs
    | some x =>
      obtain ⟨a, t⟩ := x
      rw [hp] at hs
      obtain ⟨ha, e1⟩ := h.got _ _ _ hp
      obtain ⟨⟨hb, e3⟩, e2⟩ := (hq a ha).got _ _ _ hs
      exact ⟨hb, by rw [e1, e2, e3, List.append_assoc]⟩
theorem reads_pure {β : Type} {B : β → Prop} (b0 : β) (h : ∀ b, B b ↔ b = b0) : Reads (pureP b0) (fun _ => []) B :=
  ⟨fun b rest hb => by rw [(h b).1 hb]; rfl, fun s b r hs => by
    simp only [pureP, Option.some.injEq, Prod.mk.injEq] at hs
    exact ⟨(h b).2 hs.1.symm, by rw [hs.2]; rfl⟩⟩
theorem reads_many {α : Type} {p : Rdr α} {f : α → List UInt8} {A : α → Prop} (h : Reads p f A) : ∀ n, Reads (manyP p n) (fun l => l.flatMap f) (fun l => l.length = n ∧ ∀ a ∈ l, A a)
  | 0 => ⟨fun l rest hl => by
        have : l = [] := List.eq_nil_of_length_eq_zero hl.1
        subst this; rfl, fun s l r hs => by
        simp only [manyP, pureP, Option.some.injEq, Prod.mk.injEq] at hs
        obtain ⟨rfl, rfl⟩ := hs
        exact ⟨⟨rfl, by simp⟩, rfl⟩⟩
  | n + 1 => by
    have ih := reads_many h n
    refine ⟨fun l rest hl => ?_, fun s l r hs => ?_⟩
    · cases l with
      | nil => simp at hl
      | cons a t =>
        have h1 := h.put a (t.flatMap f ++ rest) (hl.2 a (by simp))
        have h2 := ih.put t rest ⟨by simpa using hl.1, fun x hx => hl.2 x (by simp [hx])⟩
        show bindP p _ _ = _
        rw [List.flatMap_cons, List.append_assoc, bind_some h1, bind_some h2]
        rfl
    · obtain ⟨a, t, hp, hs⟩ := bind_is (p := p) hs
      obtain ⟨l', u, hm, hs⟩ := bind_is hs
      simp only [pureP, Option.some.injEq, Prod.mk.injEq] at hs
      obtain ⟨rfl, rfl⟩ := hs
      obtain ⟨ha, e1⟩ := h.got _ _ _ hp
      obtain ⟨⟨hl, hA⟩, e2⟩ := ih.got _ _ _ hm
      refine ⟨⟨by simp [hl], fun x hx => ?_⟩, by rw [e1, e2, List.flatMap_cons, List.append_assoc]⟩
      rcases List.mem_cons.1 hx with rfl | hx
      · exact ha
      · exact hA x hx
def listL {α : Type} (f : α → List UInt8) (l : List α) : List UInt8 := putL l.length ++ l.flatMap f
theorem reads_list {α : Type} {p : Rdr α} {f : α → List UInt8} {A : α → Prop} (h : Reads p f A) (most : Nat) (hm : most < 18446744073709551616) : Reads (listP most p) (listL f) (fun l => l.length ≤ most ∧ ∀ a ∈ l, A a) := by
  refine ⟨fun l rest hl => ?_, fun s l r hs => ?_⟩
  · unfold listP listL
    rw [List.append_assoc, bind_some (reads_num.put _ _ (by omega : l.length < 18446744073709551616)), if_neg (by omega)]
    exact (reads_many h _).put l rest ⟨rfl, hl.2⟩
  · unfold listP at hs
    obtain ⟨n, t, hp, hs⟩ := bind_is hs
    by_cases hn : most < n
    · rw [if_pos hn] at hs; cases hs
    · rw [if_neg hn] at hs
      obtain ⟨_, e1⟩ := reads_num.got _ _ _ hp
      obtain ⟨⟨hl, hA⟩, e2⟩ := (reads_many h n).got _ _ _ hs
      exact ⟨⟨by omega, hA⟩, by unfold listL; rw [e1, e2, hl, List.append_assoc]⟩
end Go.Proofs.Ytbbfnpfkbbpjgaa
