/- The short form of a number, as it is read: plain law. -/
import Derived.Test.YtbbfnpfkbbpjgaaOBMOf
namespace Go.Proofs.Ytbbfnpfkbbpjgaa
open Go.RowKit Go.Lib
set_option linter.unusedVariables false
set_option linter.unusedSimpArgs false

/-- What stands from the place i on, r bytes more at most, n having been read. -/
def takeF (s : List UInt8) : Nat → Nat → Nat → Option (Nat × Nat)
  | 0, _, _ => none
  | r + 1, i, n =>
    if s.length ≤ i then none
    else if r = 0 ∧ 1 < (s.getD i 0).toNat then none
    else if (s.getD i 0).toNat < 128 then (if (s.getD i 0).toNat = 0 ∧ 0 < i then none else some (n + (s.getD i 0).toNat % 128 * 128 ^ i, i + 1))
    else takeF s r (i + 1) (n + (s.getD i 0).toNat % 128 * 128 ^ i)
def takeO (s : List UInt8) : Option (Nat × Nat) := takeF s 10 0 0
theorem getD_mid (a b : List UInt8) (c : UInt8) (i : Nat) (h : a.length = i) : (a ++ c :: b).getD i 0 = c := by
  subst h
  rw [List.getD_eq_getElem?_getD, List.getElem?_append_right (Nat.le_refl _), Nat.sub_self]
  rfl
theorem u8_nat (n : Nat) (h : n < 256) : (UInt8.ofNat n).toNat = n := by rw [UInt8.toNat_ofNat']; exact Nat.mod_eq_of_lt h
theorem takeF_put (rest : List UInt8) : ∀ (r m i acc : Nat) (pre : List UInt8), pre.length = i → m < 2 ^ (7 * r + 1) → (0 < i → 0 < m) →
    takeF (pre ++ (putF (r + 1) m ++ rest)) (r + 1) i acc = some (acc + m * 128 ^ i, i + (putF (r + 1) m).length) := by
  intro r
  induction r with
  | zero =>
    intro m i acc pre hp hm h0
    have hm2 : m < 2 := by simpa using hm
    have e : putF 1 m = [UInt8.ofNat m] := by rw [putF, if_pos (by omega)]
    rw [e, List.singleton_append, takeF, if_neg (by simp; omega), getD_mid pre rest _ i hp, u8_nat m (by omega), if_neg (by omega), if_pos (by omega), if_neg (by omega), Nat.mod_eq_of_lt (by omega : m < 128)]
    rfl
  | succ r ih =>
    intro m i acc pre hp hm h0
    by_cases hlt : m < 128
    · have e : putF (r + 1 + 1) m = [UInt8.ofNat m] := by rw [putF, if_pos hlt]
      rw [e, List.singleton_append, takeF, if_neg (by simp; omega), getD_mid pre rest _ i hp, u8_nat m (by omega), if_neg (by omega), if_pos hlt, if_neg (by omega), Nat.mod_eq_of_lt hlt]
      rfl
    · have e : putF (r + 1 + 1) m = UInt8.ofNat (m % 128 + 128) :: putF (r + 1) (m / 128) := by rw [putF, if_neg hlt]
      have hx : pre ++ (UInt8.ofNat (m % 128 + 128) :: putF (r + 1) (m / 128) ++ rest) = (pre ++ [UInt8.ofNat (m % 128 + 128)]) ++ (putF (r + 1) (m / 128) ++ rest) := by simp
      have hi := ih (m / 128) (i + 1) (acc + m % 128 * 128 ^ i) (pre ++ [UInt8.ofNat (m % 128 + 128)]) (by simp [hp]) (by
        have h1 : (2 : Nat) ^ (7 * (r + 1) + 1) = 2 ^ (7 * r + 1) * 128 := by rw [show 7 * (r + 1) + 1 = 7 * r + 1 + 7 by omega, Nat.pow_add]
        rw [h1] at hm
        omega) (fun _ => by omega)
      rw [e, takeF, if_neg (by simp; omega), List.cons_append, getD_mid pre _ _ i hp, u8_nat _ (by omega), if_neg (by omega), if_neg (by omega), show (m % 128 + 128) % 128 = m % 128 by omega]
      rw [← List.cons_append, hx, hi, List.length_cons, Nat.pow_succ]
      have hd : m = m / 128 * 128 + m % 128 := by omega
      congr 2
      · rw [Nat.add_assoc]
        congr 1
        calc m % 128 * 128 ^ i + m / 128 * (128 ^ i * 128) = (m / 128 * 128 + m % 128) * 128 ^ i := by rw [Nat.add_mul, Nat.add_comm, Nat.mul_assoc, Nat.mul_comm (128 ^ i) 128]
          _ = m * 128 ^ i := by rw [← hd]
      · omega
/-- What was put is read. -/
theorem takeO_put (n : Nat) (hn : n < 18446744073709551616) (rest : List UInt8) : takeO (putL n ++ rest) = some (n, (putL n).length) := by
  have := takeF_put rest 9 n 0 0 [] rfl (by simpa using hn) (by omega)
  simpa [takeO, putL] using this
theorem takeF_is (s : List UInt8) : ∀ (r i acc v k : Nat), takeF s (r + 1) i acc = some (v, k) →
    ∃ m, v = acc + m * 128 ^ i ∧ k = i + (putF (r + 1) m).length ∧ (s.drop i).take (putF (r + 1) m).length = putF (r + 1) m ∧ m < 2 ^ (7 * r + 1) ∧ (0 < i → 0 < m) := by
  intro r
  induction r with
  | zero =>
    intro i acc v k h
    rw [takeF] at h
    by_cases h1 : s.length ≤ i
    · rw [if_pos h1] at h; cases h
    rw [if_neg h1] at h
    have hd : s.drop i = s.getD i 0 :: s.drop (i + 1) := by
      rw [List.drop_eq_getElem_cons (by omega), List.getD_eq_getElem?_getD, List.getElem?_eq_getElem (by omega), Option.getD_some]
    generalize s.getD i 0 = c at *
    by_cases h2 : 1 < c.toNat
    · rw [if_pos ⟨rfl, h2⟩] at h; cases h
    rw [if_neg (by omega), if_pos (by omega)] at h
    split at h
    · cases h
    · simp only [Option.some.injEq, Prod.mk.injEq] at h
      have e : putF (0 + 1) c.toNat = [c] := by rw [putF, if_pos (by omega)]; simp
      refine ⟨c.toNat, ?_, ?_, ?_, by simp; omega, by omega⟩
      · rw [← h.1, Nat.mod_eq_of_lt (by omega)]
      · rw [e]; exact h.2.symm
      · rw [e, hd]; rfl
  | succ r ih =>
    intro i acc v k h
    rw [takeF] at h
    by_cases h1 : s.length ≤ i
    · rw [if_pos h1] at h; cases h
    rw [if_neg h1, if_neg (by omega)] at h
    have hd : s.drop i = s.getD i 0 :: s.drop (i + 1) := by
      rw [List.drop_eq_getElem_cons (by omega), List.getD_eq_getElem?_getD, List.getElem?_eq_getElem (by omega), Option.getD_some]
    generalize s.getD i 0 = c at *
    have hc := c.toNat_lt
    by_cases h2 : c.toNat < 128
    · rw [if_pos h2] at h
      split at h
      · cases h
      · simp only [Option.some.injEq, Prod.mk.injEq] at h
        have e : putF (r + 1 + 1) c.toNat = [c] := by rw [putF, if_pos h2]; simp
        refine ⟨c.toNat, ?_, ?_, ?_, ?_, by omega⟩
        · rw [← h.1, Nat.mod_eq_of_lt h2]
        · rw [e]; exact h.2.symm
        · rw [e, hd]; rfl
        · have : (2 : Nat) ^ 8 ≤ 2 ^ (7 * (r + 1) + 1) := Nat.pow_le_pow_right (by omega) (by omega)
          omega
    · rw [if_neg h2] at h
      obtain ⟨m, e1, e2, e3, e4, e5⟩ := ih (i + 1) _ v k h
      have m0 := e5 (by omega)
      have q1 : ¬ m * 128 + c.toNat % 128 < 128 := by omega
      have q2 : (m * 128 + c.toNat % 128) / 128 = m := by omega
      have q3 : (m * 128 + c.toNat % 128) % 128 + 128 = c.toNat := by omega
      have e : putF (r + 1 + 1) (m * 128 + c.toNat % 128) = c :: putF (r + 1) m := by
        rw [putF, if_neg q1, q2, q3]; simp
      refine ⟨m * 128 + c.toNat % 128, ?_, ?_, ?_, ?_, by omega⟩
      · rw [e1, Nat.pow_succ, Nat.add_assoc]
        congr 1
        rw [Nat.add_mul, Nat.add_comm, Nat.mul_assoc, Nat.mul_comm (128 ^ i) 128]
      · rw [e, e2, List.length_cons]; omega
      · rw [e, List.length_cons, hd, List.take_succ_cons, e3]
      · have h1 : (2 : Nat) ^ (7 * (r + 1) + 1) = 2 ^ (7 * r + 1) * 128 := by rw [show 7 * (r + 1) + 1 = 7 * r + 1 + 7 by omega, Nat.pow_add]
        rw [h1]
        omega
/-- What is read was put. -/
theorem takeO_is {s : List UInt8} {n k : Nat} (h : takeO s = some (n, k)) : n < 18446744073709551616 ∧ k = (putL n).length ∧ s = putL n ++ s.drop k ∧ k ≤ s.length := by
  obtain ⟨m, e1, e2, e3, e4, _⟩ := takeF_is s 9 0 0 n k h
  have hm : m = n := by simpa using e1.symm
  subst hm
  rw [Nat.zero_add] at e2
  rw [List.drop_zero] at e3
  have e6 : s = putL m ++ s.drop k := by
    conv => lhs; rw [← List.take_append_drop k s]
    rw [e2]
    unfold putL
    rw [e3]
  refine ⟨by simpa using e4, e2, e6, ?_⟩
  have h9 := congrArg List.length e3
  rw [List.length_take] at h9
  rw [e2]
  omega
end Go.Proofs.Ytbbfnpfkbbpjgaa

/- Deeds: what they are, their bytes, how these are read. Plain law. -/
namespace Go.Proofs.Ytbbfnpfkbbpjgaa
open Go.RowKit Go.Lib
set_option linter.unusedVariables false
set_option linter.unusedSimpArgs false

/-- What is read of bytes: a thing, and what stands behind it. -/
abbrev Rdr (α : Type) := List UInt8 → Option (α × List UInt8)
def pureP {α : Type} (a : α) : Rdr α := fun s => some (a, s)
def bindP {α β : Type} (p : Rdr α) (f : α → Rdr β) : Rdr β := fun s => match p s with | none => none | some (a, r) => f a r
theorem bind_some {α β : Type} {p : Rdr α} {f : α → Rdr β} {s r : List UInt8} {a : α} (h : p s = some (a, r)) : bindP p f s = f a r := by unfold bindP; rw [h]
theorem bind_none {α β : Type} {p : Rdr α} {f : α → Rdr β} {s : List UInt8} (h : p s = none) : bindP p f s = none := by unfold bindP; rw [h]
theorem bind_is {α β : Type} {p : Rdr α} {f : α → Rdr β} {s r : List UInt8} {b : β} (h : bindP p f s = some (b, r)) : ∃ a t, p s = some (a, t) ∧ f a t = some (b, r) := by
  cases hp : p s with
  | none => rw [bind_none hp] at h; cases h
  | some x => obtain ⟨a, t⟩ := x; rw [bind_some hp] at h; exact ⟨a, t, rfl, h⟩
def numP : Rdr Nat := fun s => match takeO s with | none => none | some (n, k) => some (n, s.drop k)
def textP (n : Nat) : Rdr (List UInt8) := fun s => if s.length < n then none else some (s.take n, s.drop n)
/-- n things, one behind the other. -/
def manyP {α : Type} (p : Rdr α) : Nat → Rdr (List α)
  | 0 => pureP []
  | n + 1 => bindP p fun a => bindP (manyP p n) fun l => pureP (a :: l)
def listP {α : Type} (most : Nat) (p : Rdr α) : Rdr (List α) := bindP numP fun n => if most < n then (fun _ => none) else manyP p n
/-- p reads what f puts of things that may be, and nothing else. -/
structure Reads {α : Type} (p : Rdr α) (f : α → List UInt8) (Ok : α → Prop) : Prop where
  put : ∀ a rest, Ok a → p (f a ++ rest) = some (a, rest)
  got : ∀ s a r, p s = some (a, r) → Ok a ∧ s = f a ++ r
theorem reads_num : Reads numP putL (fun n => n < 18446744073709551616) := by
  refine ⟨fun n rest h => ?_, fun s a r h => ?_⟩
  · unfold numP
    rw [takeO_put n h rest]
    simp
  · unfold numP at h
    cases hq : takeO s with
    | none => rw [hq] at h; cases h
    | some x =>
      obtain ⟨n, k⟩ := x
      rw [hq] at h
      simp only [Option.some.injEq, Prod.mk.injEq] at h
      obtain ⟨rfl, rfl⟩ := h
      obtain ⟨h1, h2, h3, h4⟩ := takeO_is hq
      exact ⟨h1, h3⟩
theorem reads_text (n : Nat) : Reads (textP n) (fun l => l) (fun l => l.length = n) := by
  refine ⟨fun l rest h => ?_, fun s a r h => ?_⟩
  · unfold textP
    rw [if_neg (by rw [List.length_append, h]; omega)]
    subst h
    simp
  · unfold textP at h
    split at h
    · cases h
    · simp only [Option.some.injEq, Prod.mk.injEq] at h
      obtain ⟨rfl, rfl⟩ := h
      exact ⟨by rw [List.length_take]; omega, (List.take_append_drop n s).symm⟩
theorem reads_many {α : Type} {p : Rdr α} {f : α → List UInt8} {A : α → Prop} (h : Reads p f A) : ∀ n, Reads (manyP p n) (fun l => l.flatMap f) (fun l => l.length = n ∧ ∀ a ∈ l, A a)
  | 0 => ⟨fun l rest hl => by
        have : l = [] := List.eq_nil_of_length_eq_zero hl.1
        subst this; rfl, fun s l r hs => by
        simp only [manyP, pureP, Option.some.injEq, Prod.mk.injEq] at hs
        obtain ⟨rfl, rfl⟩ := hs
        exact ⟨⟨rfl, by simp⟩, rfl⟩⟩
  | n + 1 => by
    have ih := reads_many h n
    refine ⟨fun l rest hl => ?_, fun s l r hs => ?_⟩
    · cases l with
      | nil => simp at hl
      | cons a t =>
        have h1 := h.put a (t.flatMap f ++ rest) (hl.2 a (by simp))
        have h2 := ih.put t rest ⟨by simpa using hl.1, fun x hx => hl.2 x (by simp [hx])⟩
        show bindP p _ _ = _
        rw [List.flatMap_cons, List.append_assoc, bind_some h1, bind_some h2]
        rfl
    · obtain ⟨a, t, hp, hs⟩ := bind_is (p := p) hs
      obtain ⟨l', u, hm, hs⟩ := bind_is hs
      simp only [pureP, Option.some.injEq, Prod.mk.injEq] at hs
      obtain ⟨rfl, rfl⟩ := hs
      obtain ⟨ha, e1⟩ := h.got _ _ _ hp
      obtain ⟨⟨hl, hA⟩, e2⟩ := ih.got _ _ _ hm
      refine ⟨⟨by simp [hl], fun x hx => ?_⟩, by rw [e1, e2, List.flatMap_cons, List.append_assoc]⟩
      rcases List.mem_cons.1 hx with rfl | hx
      · exact ha
      · exact hA x hx
def listL {α : Type} (f : α → List UInt8) (l : List α) : List UInt8 := putL l.length ++ l.flatMap f
theorem reads_list {α : Type} {p : Rdr α} {f : α → List UInt8} {A : α → Prop} (h : Reads p f A) (most : Nat) (hm : most < 18446744073709551616) : Reads (listP most p) (listL f) (fun l => l.length ≤ most ∧ ∀ a ∈ l, A a) := by
  refine ⟨fun l rest hl => ?_, fun s l r hs => ?_⟩
  · unfold listP listL
    rw [List.append_assoc, bind_some (reads_num.put _ _ (by omega : l.length < 18446744073709551616)), if_neg (by omega)]
    exact (reads_many h _).put l rest ⟨rfl, hl.2⟩
  · unfold listP at hs
    obtain ⟨n, t, hp, hs⟩ := bind_is hs
    by_cases hn : most < n
    · rw [if_pos hn] at hs; cases hs
    · rw [if_neg hn] at hs
      obtain ⟨_, e1⟩ := reads_num.got _ _ _ hp
      obtain ⟨⟨hl, hA⟩, e2⟩ := (reads_many h n).got _ _ _ hs
      exact ⟨⟨by omega, hA⟩, by unfold listL; rw [e1, e2, hl, List.append_assoc]⟩
end Go.Proofs.Ytbbfnpfkbbpjgaa

/- Deeds: their parts, their bytes, when they may be, when they are one. Plain law. -/
namespace Go.Proofs.Ytbbfnpfkbbpjgaa
open Go.RowKit Go.Lib
set_option linter.unusedVariables false
set_option linter.unusedSimpArgs false

structure InT where
  tx : List UInt8
  index : Nat
structure OutT where
  dst : List UInt8
  stake : List UInt8
  amount : Nat
structure CertT where
  kind : Nat
  key : List UInt8
  pool : List UInt8
  a : Nat
  b : Nat
  c : Nat
structure PayT where
  key : List UInt8
  amount : Nat
structure WitT where
  key : List UInt8
  sig : ByteArray
abbrev U64 (n : Nat) : Prop := n < 18446744073709551616
def InT.Ok (x : InT) : Prop := x.tx.length = 32 ∧ U64 x.index
def OutT.Ok (x : OutT) : Prop := x.dst.length = 32 ∧ x.stake.length = 32 ∧ U64 x.amount
def CertT.Ok (x : CertT) : Prop := x.kind < 256 ∧ x.key.length = 32 ∧ x.pool.length = 32 ∧ U64 x.a ∧ U64 x.b ∧ U64 x.c
def PayT.Ok (x : PayT) : Prop := x.key.length = 32 ∧ U64 x.amount
def WitT.Ok (x : WitT) : Prop := x.key.length = 32
/-! ### Bytes -/
def outtL (x : OutT) : List UInt8 := x.dst ++ (x.stake ++ putL x.amount)
/-! ### Reading -/
def outP : Rdr OutT := bindP (textP 32) fun t => bindP (textP 32) fun u => bindP numP fun n => pureP ⟨t, u, n⟩
theorem pure_is {α : Type} {a b : α} {s r : List UInt8} (h : pureP a s = some (b, r)) : a = b ∧ s = r := by
  simp only [pureP, Option.some.injEq, Prod.mk.injEq] at h; exact h
theorem reads_out : Reads outP outtL OutT.Ok := by
  refine ⟨fun x rest hx => ?_, fun s x r h => ?_⟩
  · unfold outP outtL
    rw [List.append_assoc, List.append_assoc, bind_some ((reads_text 32).put _ _ hx.1), bind_some ((reads_text 32).put _ _ hx.2.1), bind_some (reads_num.put _ _ hx.2.2)]; rfl
  · obtain ⟨t, s1, h1, h⟩ := bind_is h
    obtain ⟨u, s2, h2, h⟩ := bind_is h
    obtain ⟨n, s3, h3, h⟩ := bind_is h
    obtain ⟨rfl, rfl⟩ := pure_is h
    obtain ⟨o1, e1⟩ := (reads_text 32).got _ _ _ h1
    obtain ⟨o2, e2⟩ := (reads_text 32).got _ _ _ h2
    obtain ⟨o3, e3⟩ := reads_num.got _ _ _ h3
    exact ⟨⟨o1, o2, o3⟩, by rw [e1, e2, e3]; simp [outtL]⟩
/-! ### When a deed may be -/
def risesB {α : Type} (f : α → List UInt8) : List α → Bool
  | [] => true
  | [_] => true
  | a :: b :: l => Op.bytesLess (f a) (f b) && risesB f (b :: l)
/-! ### When two are one -/
end Go.Proofs.Ytbbfnpfkbbpjgaa

/- What a reader has read, that may have met what is wrong. Plain law. -/
namespace Go.Proofs.Ytbbfnpfkbbpjgaa
open Go.RowKit Go.Lib
set_option linter.unusedVariables false
set_option linter.unusedSimpArgs false

/-- With st ahead (none: something was wrong) p has read v, and st' is ahead. -/
def Got {α : Type} (p : Rdr α) (st : Option (List UInt8)) (v : α) (st' : Option (List UInt8)) : Prop :=
  (∀ s, st = some s → (∃ r, p s = some (v, r) ∧ st' = some r) ∨ (p s = none ∧ st' = none)) ∧ (st = none → st' = none)
theorem got_pure {α : Type} (a : α) (st : Option (List UInt8)) : Got (pureP a) st a st := ⟨fun s h => .inl ⟨s, rfl, h⟩, fun h => h⟩
theorem Got.bind {α β : Type} {p : Rdr α} {q : α → Rdr β} {st st1 st2 : Option (List UInt8)} {a : α} {b : β} (h : Got p st a st1) (k : Got (q a) st1 b st2) : Got (bindP p q) st b st2 := by
  refine ⟨fun s hs => ?_, fun hs => k.2 (h.2 hs)⟩
  rcases h.1 s hs with ⟨r, h1, h2⟩ | ⟨h1, h2⟩
  · rw [bind_some h1]; exact k.1 r h2
  · rw [bind_none h1]; exact .inr ⟨rfl, k.2 h2⟩
theorem Got.last {α β : Type} {p : Rdr α} {f : α → β} {st st1 : Option (List UInt8)} {a : α} (h : Got p st a st1) : Got (bindP p fun a => pureP (f a)) st (f a) st1 := h.bind (got_pure _ _)
/-- Too many. -/
theorem got_over {α : Type} (v : α) (st : Option (List UInt8)) : Got (fun _ => none) st v none := ⟨fun _ _ => .inr ⟨rfl, rfl⟩, fun _ => rfl⟩
theorem got_bad {α : Type} (p : Rdr α) (v : α) : Got p none v none := ⟨fun _ h => (by cases h), fun _ => rfl⟩
/-- n things more. -/
theorem got_none {α : Type} (p : Rdr α) (st : Option (List UInt8)) : Got (manyP p 0) st [] st := got_pure _ _
theorem manyP_snoc {α : Type} (p : Rdr α) : ∀ n s, manyP p (n + 1) s = bindP (manyP p n) (fun l => bindP p fun a => pureP (l ++ [a])) s
  | 0, s => by
    show bindP p _ s = bindP (pureP []) _ s
    rw [bind_some (show pureP [] s = some ([], s) from rfl)]
    cases h : p s with
    | none => rw [bind_none h, bind_none h]
    | some x => obtain ⟨a, r⟩ := x; rw [bind_some h, bind_some h]; rfl
  | n + 1, s => by
    show bindP p (fun a => bindP (manyP p (n + 1)) fun l => pureP (a :: l)) s = bindP (bindP p fun a => bindP (manyP p n) fun l => pureP (a :: l)) _ s
    cases h : p s with
    | none => rw [bind_none h, bind_none (bind_none h)]
    | some x =>
      obtain ⟨a, r⟩ := x
      rw [bind_some h]
      have e := manyP_snoc p n r
      cases hm : manyP p n r with
      | none =>
        rw [bind_none hm] at e
        rw [bind_none e, bind_none (by rw [bind_some h, bind_none hm])]
      | some y =>
        obtain ⟨l, t⟩ := y
        rw [bind_some hm] at e
        have e2 : bindP p (fun a => bindP (manyP p n) fun l => pureP (a :: l)) s = some (a :: l, t) := by rw [bind_some h, bind_some hm]; rfl
        rw [bind_some e2]
        cases hp : p t with
        | none => rw [bind_none hp] at e; rw [bind_none e, bind_none hp]
        | some z =>
          obtain ⟨b, u⟩ := z
          rw [bind_some hp] at e
          rw [bind_some e, bind_some hp]
          rfl
theorem Got.snoc {α : Type} {p : Rdr α} {n : Nat} {st st1 st2 : Option (List UInt8)} {l : List α} {a : α} (h : Got (manyP p n) st l st1) (k : Got p st1 a st2) : Got (manyP p (n + 1)) st (l ++ [a]) st2 := by
  have e : manyP p (n + 1) = bindP (manyP p n) (fun l => bindP p fun a => pureP (l ++ [a])) := funext (manyP_snoc p n)
  rw [e]
  exact h.bind k.last
theorem Got.list {α : Type} {p : Rdr α} {most n : Nat} {st st1 st2 : Option (List UInt8)} {l : List α} (h : Got numP st n st1) (hn : ¬ most < n) (k : Got (manyP p n) st1 l st2) : Got (listP most p) st l st2 :=
  h.bind (by rw [if_neg hn]; exact k)
theorem Got.over {α : Type} {p : Rdr α} {most n : Nat} {st st1 : Option (List UInt8)} (h : Got numP st n st1) (hn : most < n) (l : List α) : Got (listP most p) st l none :=
  h.bind (by rw [if_pos hn]; exact got_over l st1)
/-- What was begun, and was wrong. -/
theorem Got.stop {α : Type} {p : Rdr α} {n k : Nat} {st : Option (List UInt8)} {l : List α} (h : Got (manyP p n) st l none) (m : List α) : Got (manyP p (n + k)) st m none := by
  induction k with
  | zero => exact ⟨fun s hs => by
      rcases h.1 s hs with ⟨r, _, h2⟩ | h2
      · cases h2
      · exact .inr h2, fun _ => rfl⟩
  | succ k ih =>
    refine ⟨fun s hs => .inr ⟨?_, rfl⟩, fun _ => rfl⟩
    rcases ih.1 s hs with ⟨r, _, h2⟩ | ⟨h2, _⟩
    · cases h2
    · show manyP p (n + k + 1) s = none
      rw [manyP_snoc, bind_none h2]
end Go.Proofs.Ytbbfnpfkbbpjgaa
