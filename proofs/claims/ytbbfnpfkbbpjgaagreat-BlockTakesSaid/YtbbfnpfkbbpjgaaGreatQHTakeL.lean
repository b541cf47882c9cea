/- The short form of a number, as it is read: plain law. -/
import Derived.Test.YtbbfnpfkbbpjgaaGreatQHMOf
import Derived.Test.YtbbfnpfkbbpjgaaGreatQHHdAt
import Derived.Laws.StructEq
namespace Go.Proofs.YtbbfnpfkbbpjgaaGreat
open Go.RowKit Go.Lib
set_option linter.unusedVariables false
set_option linter.unusedSimpArgs false
set_option maxRecDepth 100000
set_option maxHeartbeats 4000000
/-- What stands from the place i on, r bytes more at most, n having been read. -/
def takeF (s : List UInt8) : Nat → Nat → Nat → Option (Nat × Nat)
 | 0, _, _ => none
 | r + 1, i, n =>
  if s.length ≤ i then none
  else if r = 0 ∧ 1 < (s.getD i 0).toNat then none
  else if (s.getD i 0).toNat < 128 then (if (s.getD i 0).toNat = 0 ∧ 0 < i then none else some (n + (s.getD i 0).toNat % 128 * 128 ^ i, i + 1))
  else takeF s r (i + 1) (n + (s.getD i 0).toNat % 128 * 128 ^ i)
def takeO (s : List UInt8) : Option (Nat × Nat) := takeF s 10 0 0
theorem x4a (r m : Nat) (hr : 0 < r) : ∃ c t, putF r m = c :: t := by
 obtain ⟨r, rfl⟩ : ∃ q, r = q + 1 := ⟨r - 1, by omega⟩
 rw [putF]
 split
 ·exact ⟨_, _, rfl⟩
 ·exact ⟨_, _, rfl⟩
theorem j6o (a b : List UInt8) (c : UInt8) (i : Nat) (h : a.length = i) : (a ++ c :: b).getD i 0 = c := by
 subst h
 rw [List.getD_eq_getElem?_getD, List.getElem?_append_right (Nat.le_refl _), Nat.sub_self]
 rfl
theorem x1t (n : Nat) (h : n < 256) : (UInt8.ofNat n).toNat = n := by rw [UInt8.toNat_ofNat']; exact Nat.mod_eq_of_lt h
theorem x5q (rest : List UInt8) : ∀ (r m i acc : Nat) (pre : List UInt8), pre.length = i → m < 2 ^ (7 * r + 1) → (0 < i → 0 < m) →
  takeF (pre ++ (putF (r + 1) m ++ rest)) (r + 1) i acc = some (acc + m * 128 ^ i, i + (putF (r + 1) m).length) := by
 intro r
 induction r with
 | zero =>
  intro m i acc pre hp hm h0
  have hm2 : m < 2 := by simpa using hm
  have e : putF 1 m = [UInt8.ofNat m] := by rw [putF, if_pos (by omega)]
  rw [e, List.singleton_append, takeF, if_neg (by simp; omega), j6o pre rest _ i hp, x1t m (by omega), if_neg (by omega), if_pos (by omega), if_neg (by omega), Nat.mod_eq_of_lt (by omega : m < 128)]
  rfl
 | succ r ih =>
  intro m i acc pre hp hm h0
  by_cases hlt : m < 128
  ·have e : putF (r + 1 + 1) m = [UInt8.ofNat m] := by rw [putF, if_pos hlt]
   rw [e, List.singleton_append, takeF, if_neg (by simp; omega), j6o pre rest _ i hp, x1t m (by omega), if_neg (by omega), if_pos hlt, if_neg (by omega), Nat.mod_eq_of_lt hlt]
   rfl
  ·have e : putF (r + 1 + 1) m = UInt8.ofNat (m % 128 + 128) :: putF (r + 1) (m / 128) := by rw [putF, if_neg hlt]
   have hx : pre ++ (UInt8.ofNat (m % 128 + 128) :: putF (r + 1) (m / 128) ++ rest) = (pre ++ [UInt8.ofNat (m % 128 + 128)]) ++ (putF (r + 1) (m / 128) ++ rest) := by simp
   have hi := ih (m / 128) (i + 1) (acc + m % 128 * 128 ^ i) (pre ++ [UInt8.ofNat (m % 128 + 128)]) (by simp [hp]) (by
    have h1 : (2 : Nat) ^ (7 * (r + 1) + 1) = 2 ^ (7 * r + 1) * 128 := by rw [show 7 * (r + 1) + 1 = 7 * r + 1 + 7 by omega, Nat.pow_add]
    rw [h1] at hm
    omega) (fun _ => by omega)
   rw [e, takeF, if_neg (by simp; omega), List.cons_append, j6o pre _ _ i hp, x1t _ (by omega), if_neg (by omega), if_neg (by omega), show (m % 128 + 128) % 128 = m % 128 by omega]
   rw [← List.cons_append, hx, hi, List.length_cons, Nat.pow_succ]
   have hd : m = m / 128 * 128 + m % 128 := by omega
   congr 2
   ·rw [Nat.add_assoc]
    congr 1
    calc m % 128 * 128 ^ i + m / 128 * (128 ^ i * 128) = (m / 128 * 128 + m % 128) * 128 ^ i := by rw [Nat.add_mul, Nat.add_comm, Nat.mul_assoc, Nat.mul_comm (128 ^ i) 128]
     _ = m * 128 ^ i := by rw [← hd]
   ·omega
/-- What was put is read. -/
theorem j2v (n : Nat) (hn : n < 18446744073709551616) (rest : List UInt8) : takeO (putL n ++ rest) = some (n, (putL n).length) := by
 have := x5q rest 9 n 0 0 [] rfl (by simpa using hn) (by omega)
 simpa [takeO, putL] using this
theorem x8o (s : List UInt8) : ∀ (r i acc v k : Nat), takeF s (r + 1) i acc = some (v, k) →
  ∃ m, v = acc + m * 128 ^ i ∧ k = i + (putF (r + 1) m).length ∧ (s.drop i).take (putF (r + 1) m).length = putF (r + 1) m ∧ m < 2 ^ (7 * r + 1) ∧ (0 < i → 0 < m) := by
 intro r
 induction r with
 | zero =>
  intro i acc v k h
  rw [takeF] at h
  by_cases h1 : s.length ≤ i
  ·rw [if_pos h1] at h; cases h
  rw [if_neg h1] at h
  have hd : s.drop i = s.getD i 0 :: s.drop (i + 1) := by
   rw [List.drop_eq_getElem_cons (by omega), List.getD_eq_getElem?_getD, List.getElem?_eq_getElem (by omega), Option.getD_some]
  generalize s.getD i 0 = c at *
  by_cases h2 : 1 < c.toNat
  ·rw [if_pos ⟨rfl, h2⟩] at h; cases h
  rw [if_neg (by omega), if_pos (by omega)] at h
  split at h
  ·cases h
  ·simp only [Option.some.injEq, Prod.mk.injEq] at h
   have e : putF (0 + 1) c.toNat = [c] := by rw [putF, if_pos (by omega)]; simp
   refine ⟨c.toNat, ?_, ?_, ?_, by simp; omega, by omega⟩
   ·rw [← h.1, Nat.mod_eq_of_lt (by omega)]
   ·rw [e]; exact h.2.symm
   ·rw [e, hd]; rfl
 | succ r ih =>
  intro i acc v k h
  rw [takeF] at h
  by_cases h1 : s.length ≤ i
  ·rw [if_pos h1] at h; cases h
  rw [if_neg h1, if_neg (by omega)] at h
  have hd : s.drop i = s.getD i 0 :: s.drop (i + 1) := by
   rw [List.drop_eq_getElem_cons (by omega), List.getD_eq_getElem?_getD, List.getElem?_eq_getElem (by omega), Option.getD_some]
  generalize s.getD i 0 = c at *
  have hc := c.toNat_lt
  by_cases h2 : c.toNat < 128
  ·rw [if_pos h2] at h
   split at h
   ·cases h
   ·simp only [Option.some.injEq, Prod.mk.injEq] at h
    have e : putF (r + 1 + 1) c.toNat = [c] := by rw [putF, if_pos h2]; simp
    refine ⟨c.toNat, ?_, ?_, ?_, ?_, by omega⟩
    ·rw [← h.1, Nat.mod_eq_of_lt h2]
    ·rw [e]; exact h.2.symm
    ·rw [e, hd]; rfl
    ·have : (2 : Nat) ^ 8 ≤ 2 ^ (7 * (r + 1) + 1) := Nat.pow_le_pow_right (by omega) (by omega)
     omega
  ·rw [if_neg h2] at h
   obtain ⟨m, e1, e2, e3, e4, e5⟩ := ih (i + 1) _ v k h
   have m0 := e5 (by omega)
   have q1 : ¬ m * 128 + c.toNat % 128 < 128 := by omega
   have q2 : (m * 128 + c.toNat % 128) / 128 = m := by omega
   have q3 : (m * 128 + c.toNat % 128) % 128 + 128 = c.toNat := by omega
   have e : putF (r + 1 + 1) (m * 128 + c.toNat % 128) = c :: putF (r + 1) m := by
    rw [putF, if_neg q1, q2, q3]; simp
   refine ⟨m * 128 + c.toNat % 128, ?_, ?_, ?_, ?_, by omega⟩
   ·rw [e1, Nat.pow_succ, Nat.add_assoc]
    congr 1
    rw [Nat.add_mul, Nat.add_comm, Nat.mul_assoc, Nat.mul_comm (128 ^ i) 128]
   ·rw [e, e2, List.length_cons]; omega
   ·rw [e, List.length_cons, hd, List.take_succ_cons, e3]
   ·have h1 : (2 : Nat) ^ (7 * (r + 1) + 1) = 2 ^ (7 * r + 1) * 128 := by rw [show 7 * (r + 1) + 1 = 7 * r + 1 + 7 by omega, Nat.pow_add]
    rw [h1]
    omega
/-- What is read was put. -/
theorem q6n {s : List UInt8} {n k : Nat} (h : takeO s = some (n, k)) : n < 18446744073709551616 ∧ k = (putL n).length ∧ s = putL n ++ s.drop k ∧ k ≤ s.length := by
 obtain ⟨m, e1, e2, e3, e4, _⟩ := x8o s 9 0 0 n k h
 have hm : m = n := by simpa using e1.symm
 subst hm
 rw [Nat.zero_add] at e2
 rw [List.drop_zero] at e3
 have e6 : s = putL m ++ s.drop k := by
  conv => lhs; rw [← List.take_append_drop k s]
  rw [e2]
  unfold putL
  rw [e3]
 refine ⟨by simpa using e4, e2, e6, ?_⟩
 have h9 := congrArg List.length e3
 rw [List.length_take] at h9
 rw [e2]
 omega
theorem x1h (n : Nat) : 0 < (putL n).length := by
 obtain ⟨c, t, h⟩ := x4a 10 n (by omega)
 unfold putL
 rw [h]
 simp
/-- What is read of bytes: a thing, and what stands behind it. -/
abbrev Rdr (α : Type) := List UInt8 → Option (α × List UInt8)
def pureP {α : Type} (a : α) : Rdr α := fun s => some (a, s)
def bindP {α β : Type} (p : Rdr α) (f : α → Rdr β) : Rdr β := fun s => match p s with | none => none | some (a, r) => f a r
theorem q0l {α β : Type} {p : Rdr α} {f : α → Rdr β} {s r : List UInt8} {a : α} (h : p s = some (a, r)) : bindP p f s = f a r := by unfold bindP; rw [h]
theorem q2t {α β : Type} {p : Rdr α} {f : α → Rdr β} {s : List UInt8} (h : p s = none) : bindP p f s = none := by unfold bindP; rw [h]
theorem q2k {α β : Type} {p : Rdr α} {f : α → Rdr β} {s r : List UInt8} {b : β} (h : bindP p f s = some (b, r)) : ∃ a t, p s = some (a, t) ∧ f a t = some (b, r) := by
 cases hp : p s with
 | none => rw [q2t hp] at h; cases h
 | some x => obtain ⟨a, t⟩ := x; rw [q0l hp] at h; exact ⟨a, t, rfl, h⟩
def numP : Rdr Nat := fun s => match takeO s with | none => none | some (n, k) => some (n, s.drop k)
def textP (n : Nat) : Rdr (List UInt8) := fun s => if s.length < n then none else some (s.take n, s.drop n)
/-- n things, one behind the other. -/
def manyP {α : Type} (p : Rdr α) : Nat → Rdr (List α)
 | 0 => pureP []
 | n + 1 => bindP p fun a => bindP (manyP p n) fun l => pureP (a :: l)
def listP {α : Type} (most : Nat) (p : Rdr α) : Rdr (List α) := bindP numP fun n => if most < n then (fun _ => none) else manyP p n
/-- p reads what f puts of things that may be, and nothing else. -/
structure Reads {α : Type} (p : Rdr α) (f : α → List UInt8) (Ok : α → Prop) : Prop where
 put : ∀ a rest, Ok a → p (f a ++ rest) = some (a, rest)
 got : ∀ s a r, p s = some (a, r) → Ok a ∧ s = f a ++ r
theorem reads_num : Reads numP putL (fun n => n < 18446744073709551616) := by
 refine ⟨fun n rest h => ?_, fun s a r h => ?_⟩
 ·unfold numP
  rw [j2v n h rest]
  simp
 ·unfold numP at h
  cases hq : takeO s with
  | none => rw [hq] at h; cases h
  | some x =>
   obtain ⟨n, k⟩ := x
   rw [hq] at h
   simp only [Option.some.injEq, Prod.mk.injEq] at h
   obtain ⟨rfl, rfl⟩ := h
   obtain ⟨h1, h2, h3, h4⟩ := q6n hq
   exact ⟨h1, h3⟩
theorem q1s (n : Nat) : Reads (textP n) (fun l => l) (fun l => l.length = n) := by
 refine ⟨fun l rest h => ?_, fun s a r h => ?_⟩
 ·unfold textP
  rw [if_neg (by rw [List.length_append, h]; omega)]
  subst h
  simp
 ·unfold textP at h
  split at h
  ·cases h
  ·simp only [Option.some.injEq, Prod.mk.injEq] at h
   obtain ⟨rfl, rfl⟩ := h
   exact ⟨by rw [List.length_take]; omega, (List.take_append_drop n s).symm⟩
theorem j1f {α : Type} {p : Rdr α} {f : α → List UInt8} {A : α → Prop} (h : Reads p f A) : ∀ n, Reads (manyP p n) (fun l => l.flatMap f) (fun l => l.length = n ∧ ∀ a ∈ l, A a)
  | 0 => ⟨fun l rest hl => by
        have : l = [] := List.eq_nil_of_length_eq_zero hl.1
        subst this; rfl, fun s l r hs => by
        simp only [manyP, pureP, Option.some.injEq, Prod.mk.injEq] at hs
        obtain ⟨rfl, rfl⟩ := hs
        exact ⟨⟨rfl, by simp⟩, rfl⟩⟩
  | n + 1 => by
    have ih := j1f h n
    refine ⟨fun l rest hl => ?_, fun s l r hs => ?_⟩
    · cases l with
      | nil => simp at hl
      | cons a t =>
        have h1 := h.put a (t.flatMap f ++ rest) (hl.2 a (by simp))
        have h2 := ih.put t rest ⟨by simpa using hl.1, fun x hx => hl.2 x (by simp [hx])⟩
        show bindP p _ _ = _
        rw [List.flatMap_cons, List.append_assoc, q0l h1, q0l h2]
        rfl
    · obtain ⟨a, t, hp, hs⟩ := q2k (p := p) hs
      obtain ⟨l', u, hm, hs⟩ := q2k hs
      simp only [pureP, Option.some.injEq, Prod.mk.injEq] at hs
      obtain ⟨rfl, rfl⟩ := hs
      obtain ⟨ha, e1⟩ := h.got _ _ _ hp
      obtain ⟨⟨hl, hA⟩, e2⟩ := ih.got _ _ _ hm
      refine ⟨⟨by simp [hl], fun x hx => ?_⟩, by rw [e1, e2, List.flatMap_cons, List.append_assoc]⟩
      rcases List.mem_cons.1 hx with rfl | hx
      · exact ha
      · exact hA x hx
def listL {α : Type} (f : α → List UInt8) (l : List α) : List UInt8 := putL l.length ++ l.flatMap f
theorem q3v {α : Type} {p : Rdr α} {f : α → List UInt8} {A : α → Prop} (h : Reads p f A) (most : Nat) (hm : most < 18446744073709551616) : Reads (listP most p) (listL f) (fun l => l.length ≤ most ∧ ∀ a ∈ l, A a) := by
 refine ⟨fun l rest hl => ?_, fun s l r hs => ?_⟩
 ·unfold listP listL
  rw [List.append_assoc, q0l (reads_num.put _ _ (by omega : l.length < 18446744073709551616)), if_neg (by omega)]
  exact (j1f h _).put l rest ⟨rfl, hl.2⟩
 ·unfold listP at hs
  obtain ⟨n, t, hp, hs⟩ := q2k hs
  by_cases hn : most < n
  ·rw [if_pos hn] at hs; cases hs
  ·rw [if_neg hn] at hs
   obtain ⟨_, e1⟩ := reads_num.got _ _ _ hp
   obtain ⟨⟨hl, hA⟩, e2⟩ := (j1f h n).got _ _ _ hs
   exact ⟨⟨by omega, hA⟩, by unfold listL; rw [e1, e2, hl, List.append_assoc]⟩
structure InT where
 tx : List UInt8
 index : Nat
structure OutT where
 dst : List UInt8
 stake : List UInt8
 amount : Nat
structure CertT where
 kind : Nat
 key : List UInt8
 pool : List UInt8
 a : Nat
 b : Nat
 c : Nat
structure PayT where
 key : List UInt8
 amount : Nat
structure WitT where
 key : List UInt8
 sig : ByteArray
structure Deed where
 ins : List InT
 outs : List OutT
 fee : Nat
 frm : Nat
 til : Nat
 certs : List CertT
 pays : List PayT
 wits : List WitT
abbrev U64 (n : Nat) : Prop := n < 18446744073709551616
def InT.Ok (x : InT) : Prop := x.tx.length = 32 ∧ U64 x.index
def OutT.Ok (x : OutT) : Prop := x.dst.length = 32 ∧ x.stake.length = 32 ∧ U64 x.amount
def CertT.Ok (x : CertT) : Prop := x.kind < 256 ∧ x.key.length = 32 ∧ x.pool.length = 32 ∧ U64 x.a ∧ U64 x.b ∧ U64 x.c
def PayT.Ok (x : PayT) : Prop := x.key.length = 32 ∧ U64 x.amount
def WitT.Ok (x : WitT) : Prop := x.key.length = 32
structure Deed.Ok (d : Deed) : Prop where
 ins : ∀ x ∈ d.ins, x.Ok
 outs : ∀ x ∈ d.outs, x.Ok
 fee : U64 d.fee
 frm : U64 d.frm
 til : U64 d.til
 certs : ∀ x ∈ d.certs, x.Ok
 pays : ∀ x ∈ d.pays, x.Ok
 wits : ∀ x ∈ d.wits, x.Ok
/-! ### Bytes -/
def inL (x : InT) : List UInt8 := x.tx ++ putL x.index
def outtL (x : OutT) : List UInt8 := x.dst ++ (x.stake ++ putL x.amount)
def certL (x : CertT) : List UInt8 := UInt8.ofNat x.kind :: (x.key ++ (x.pool ++ (putL x.a ++ (putL x.b ++ putL x.c))))
def payL (x : PayT) : List UInt8 := x.key ++ putL x.amount
def witL (x : WitT) : List UInt8 := x.key ++ x.sig.data.toList
def bodyL (d : Deed) : List UInt8 := listL inL d.ins ++ (listL outtL d.outs ++ (putL d.fee ++ (putL d.frm ++ (putL d.til ++ (listL certL d.certs ++ listL payL d.pays)))))
def fullL (d : Deed) : List UInt8 := bodyL d ++ listL witL d.wits
/-! ### Reading -/
def inP : Rdr InT := bindP (textP 32) fun t => bindP numP fun n => pureP ⟨t, n⟩
def outP : Rdr OutT := bindP (textP 32) fun t => bindP (textP 32) fun u => bindP numP fun n => pureP ⟨t, u, n⟩
def certP : Rdr CertT := bindP (textP 1) fun k => bindP (textP 32) fun t => bindP (textP 32) fun u => bindP numP fun a => bindP numP fun b => bindP numP fun c => pureP ⟨(k.getD 0 0).toNat, t, u, a, b, c⟩
def payP : Rdr PayT := bindP (textP 32) fun t => bindP numP fun n => pureP ⟨t, n⟩
def witP : Rdr WitT := bindP (textP 32) fun t => bindP (textP 1024) fun s => pureP ⟨t, ⟨s.toArray⟩⟩
def bodyP : Rdr Deed := bindP (listP 8 inP) fun i => bindP (listP 8 outP) fun o => bindP numP fun f => bindP numP fun s => bindP numP fun t => bindP (listP 4 certP) fun c => bindP (listP 4 payP) fun p => pureP ⟨i, o, f, s, t, c, p, []⟩
def deedP : Rdr Deed := bindP bodyP fun d => bindP (listP 8 witP) fun w => pureP { d with wits := w }
theorem q7w {α : Type} {a b : α} {s r : List UInt8} (h : pureP a s = some (b, r)) : a = b ∧ s = r := by
 simp only [pureP, Option.some.injEq, Prod.mk.injEq] at h; exact h
theorem x1p : Reads inP inL InT.Ok := by
 refine ⟨fun x rest hx => ?_, fun s x r h => ?_⟩
 ·unfold inP inL
  rw [List.append_assoc, q0l ((q1s 32).put _ _ hx.1), q0l (reads_num.put _ _ hx.2)]; rfl
 ·obtain ⟨t, s1, h1, h⟩ := q2k h
  obtain ⟨n, s2, h2, h⟩ := q2k h
  obtain ⟨rfl, rfl⟩ := q7w h
  obtain ⟨o1, e1⟩ := (q1s 32).got _ _ _ h1
  obtain ⟨o2, e2⟩ := reads_num.got _ _ _ h2
  exact ⟨⟨o1, o2⟩, by rw [e1, e2]; simp [inL]⟩
theorem j8y : Reads payP payL PayT.Ok := by
 refine ⟨fun x rest hx => ?_, fun s x r h => ?_⟩
 ·unfold payP payL
  rw [List.append_assoc, q0l ((q1s 32).put _ _ hx.1), q0l (reads_num.put _ _ hx.2)]; rfl
 ·obtain ⟨t, s1, h1, h⟩ := q2k h
  obtain ⟨n, s2, h2, h⟩ := q2k h
  obtain ⟨rfl, rfl⟩ := q7w h
  obtain ⟨o1, e1⟩ := (q1s 32).got _ _ _ h1
  obtain ⟨o2, e2⟩ := reads_num.got _ _ _ h2
  exact ⟨⟨o1, o2⟩, by rw [e1, e2]; simp [payL]⟩
theorem j8a : Reads outP outtL OutT.Ok := by
 refine ⟨fun x rest hx => ?_, fun s x r h => ?_⟩
 ·unfold outP outtL
  rw [List.append_assoc, List.append_assoc, q0l ((q1s 32).put _ _ hx.1), q0l ((q1s 32).put _ _ hx.2.1), q0l (reads_num.put _ _ hx.2.2)]; rfl
 ·obtain ⟨t, s1, h1, h⟩ := q2k h
  obtain ⟨u, s2, h2, h⟩ := q2k h
  obtain ⟨n, s3, h3, h⟩ := q2k h
  obtain ⟨rfl, rfl⟩ := q7w h
  obtain ⟨o1, e1⟩ := (q1s 32).got _ _ _ h1
  obtain ⟨o2, e2⟩ := (q1s 32).got _ _ _ h2
  obtain ⟨o3, e3⟩ := reads_num.got _ _ _ h3
  exact ⟨⟨o1, o2, o3⟩, by rw [e1, e2, e3]; simp [outtL]⟩
theorem j7m : Reads witP witL (fun x => x.Ok ∧ x.sig.size = 1024) := by
 refine ⟨fun x rest hx => ?_, fun s x r h => ?_⟩
 ·unfold witP witL
  rw [List.append_assoc, q0l ((q1s 32).put _ _ hx.1), q0l ((q1s 1024).put _ _ (by have := hx.2; simpa using this))]; rfl
 ·obtain ⟨t, s1, h1, h⟩ := q2k h
  obtain ⟨u, s2, h2, h⟩ := q2k h
  obtain ⟨rfl, rfl⟩ := q7w h
  obtain ⟨o1, e1⟩ := (q1s 32).got _ _ _ h1
  obtain ⟨o2, e2⟩ := (q1s 1024).got _ _ _ h2
  exact ⟨⟨o1, by show u.toArray.size = 1024; rw [List.size_toArray]; exact o2⟩, by rw [e1, e2]; simp [witL]⟩
theorem j5v : Reads certP certL CertT.Ok := by
 refine ⟨fun x rest hx => ?_, fun s x r h => ?_⟩
 ·unfold certP certL
  have h1 : textP 1 (UInt8.ofNat x.kind :: (x.key ++ (x.pool ++ (putL x.a ++ (putL x.b ++ putL x.c)))) ++ rest) = some ([UInt8.ofNat x.kind], x.key ++ (x.pool ++ (putL x.a ++ (putL x.b ++ (putL x.c ++ rest))))) := by
   have := (q1s 1).put [UInt8.ofNat x.kind] (x.key ++ (x.pool ++ (putL x.a ++ (putL x.b ++ (putL x.c ++ rest))))) rfl
   simpa using this
  rw [q0l h1, q0l ((q1s 32).put _ _ hx.2.1), q0l ((q1s 32).put _ _ hx.2.2.1), q0l (reads_num.put _ _ hx.2.2.2.1), q0l (reads_num.put _ _ hx.2.2.2.2.1), q0l (reads_num.put _ _ hx.2.2.2.2.2)]
  show some (CertT.mk (UInt8.ofNat x.kind).toNat _ _ _ _ _, rest) = _
  rw [x1t _ hx.1]
 ·obtain ⟨k, s1, h1, h⟩ := q2k h
  obtain ⟨t, s2, h2, h⟩ := q2k h
  obtain ⟨u, s3, h3, h⟩ := q2k h
  obtain ⟨a, s4, h4, h⟩ := q2k h
  obtain ⟨b, s5, h5, h⟩ := q2k h
  obtain ⟨c, s6, h6, h⟩ := q2k h
  obtain ⟨rfl, rfl⟩ := q7w h
  obtain ⟨o1, e1⟩ := (q1s 1).got _ _ _ h1
  obtain ⟨o2, e2⟩ := (q1s 32).got _ _ _ h2
  obtain ⟨o3, e3⟩ := (q1s 32).got _ _ _ h3
  obtain ⟨o4, e4⟩ := reads_num.got _ _ _ h4
  obtain ⟨o5, e5⟩ := reads_num.got _ _ _ h5
  obtain ⟨o6, e6⟩ := reads_num.got _ _ _ h6
  have hk : k = [k.getD 0 0] := by
   cases k with
   | nil => simp at o1
   | cons x y => cases y with
    | nil => rfl
    | cons => simp at o1
  refine ⟨⟨UInt8.toNat_lt _, o2, o3, o4, o5, o6⟩, ?_⟩
  rw [e1, e2, e3, e4, e5, e6, hk]
  simp [certL]
/-- A deed's parts, of which there are not too many. -/
structure Deed.Few (d : Deed) : Prop where
 ok : d.Ok
 ins : d.ins.length ≤ 8
 outs : d.outs.length ≤ 8
 certs : d.certs.length ≤ 4
 pays : d.pays.length ≤ 4
theorem reads_body : Reads bodyP bodyL (fun d => d.Few ∧ d.wits = []) := by
 refine ⟨fun d rest hd => ?_, fun s d r h => ?_⟩
 ·obtain ⟨⟨ok, h1, h2, h3, h4⟩, h5⟩ := hd
  unfold bodyP bodyL
  simp only [List.append_assoc]
  rw [q0l ((q3v x1p 8 (by decide)).put d.ins _ ⟨h1, ok.ins⟩), q0l ((q3v j8a 8 (by decide)).put d.outs _ ⟨h2, ok.outs⟩), q0l (reads_num.put d.fee _ ok.fee), q0l (reads_num.put d.frm _ ok.frm), q0l (reads_num.put d.til _ ok.til),
   q0l ((q3v j5v 4 (by decide)).put d.certs _ ⟨h3, ok.certs⟩), q0l ((q3v j8y 4 (by decide)).put d.pays _ ⟨h4, ok.pays⟩)]
  show some (Deed.mk _ _ _ _ _ _ _ [], rest) = _
  rw [← h5]
 ·obtain ⟨x1, s1, h1, h⟩ := q2k h
  obtain ⟨x2, s2, h2, h⟩ := q2k h
  obtain ⟨x3, s3, h3, h⟩ := q2k h
  obtain ⟨x4, s4, h4, h⟩ := q2k h
  obtain ⟨x5, s5, h5, h⟩ := q2k h
  obtain ⟨x6, s6, h6, h⟩ := q2k h
  obtain ⟨x7, s7, h7, h⟩ := q2k h
  obtain ⟨rfl, rfl⟩ := q7w h
  obtain ⟨o1, e1⟩ := (q3v x1p 8 (by decide)).got _ _ _ h1
  obtain ⟨o2, e2⟩ := (q3v j8a 8 (by decide)).got _ _ _ h2
  obtain ⟨o3, e3⟩ := reads_num.got _ _ _ h3
  obtain ⟨o4, e4⟩ := reads_num.got _ _ _ h4
  obtain ⟨o5, e5⟩ := reads_num.got _ _ _ h5
  obtain ⟨o6, e6⟩ := (q3v j5v 4 (by decide)).got _ _ _ h6
  obtain ⟨o7, e7⟩ := (q3v j8y 4 (by decide)).got _ _ _ h7
  refine ⟨⟨⟨⟨o1.2, o2.2, o3, o4, o5, o6.2, o7.2, by simp⟩, o1.1, o2.1, o6.1, o7.1⟩, rfl⟩, ?_⟩
  rw [e1, e2, e3, e4, e5, e6, e7]
  simp [bodyL]
structure Deed.FewW (d : Deed) : Prop where
 few : d.Few
 wits : d.wits.length ≤ 8
 sigs : ∀ x ∈ d.wits, x.sig.size = 1024
theorem x6v (d : Deed) (w : List WitT) : bodyL { d with wits := w } = bodyL d := rfl
theorem x1o {d : Deed} (h : d.Few) (w : List WitT) (hw : ∀ x ∈ w, x.Ok) : Deed.Few { d with wits := w } := ⟨⟨h.ok.ins, h.ok.outs, h.ok.fee, h.ok.frm, h.ok.til, h.ok.certs, h.ok.pays, hw⟩, h.ins, h.outs, h.certs, h.pays⟩
theorem reads_deed : Reads deedP fullL Deed.FewW := by
 refine ⟨fun d rest hd => ?_, fun s d r h => ?_⟩
 ·obtain ⟨hf, h1, h2⟩ := hd
  have hb := reads_body.put { d with wits := [] } (listL witL d.wits ++ rest) ⟨x1o hf [] (by simp), rfl⟩
  rw [x6v] at hb
  unfold deedP fullL
  rw [List.append_assoc, q0l hb, q0l ((q3v j7m 8 (by decide)).put d.wits _ ⟨h1, fun x hx => ⟨hf.ok.wits x hx, h2 x hx⟩⟩)]
  rfl
 ·obtain ⟨x1, s1, h1, h⟩ := q2k h
  obtain ⟨x2, s2, h2, h⟩ := q2k h
  obtain ⟨rfl, rfl⟩ := q7w h
  obtain ⟨⟨o1, o0⟩, e1⟩ := reads_body.got _ _ _ h1
  obtain ⟨o2, e2⟩ := (q3v j7m 8 (by decide)).got _ _ _ h2
  exact ⟨⟨x1o o1 x2 (fun x hx => (o2.2 x hx).1), o2.1, fun x hx => (o2.2 x hx).2⟩, by rw [e1, e2]; unfold fullL; rw [List.append_assoc]; rfl⟩
/-! ### When a deed may be -/
def risesB {α : Type} (f : α → List UInt8) : List α → Bool
 | [] => true
 | [_] => true
 | a :: b :: l => Op.bytesLess (f a) (f b) && risesB f (b :: l)
def amountB (n : Nat) : Bool := decide (0 < n) && decide (n < 9223372036854775808)
def certB (c : CertT) : Bool :=
 if c.kind = 1 ∨ c.kind = 2 then decide (c.pool = zero32) && (decide (c.a = 0) && (decide (c.b = 0) && decide (c.c = 0)))
 else if c.kind = 3 then decide (c.a = 0) && (decide (c.b = 0) && decide (c.c = 0))
 else if c.kind = 4 then decide (c.a < 9223372036854775808) && (decide (c.b < 9223372036854775808) && decide (c.c ≤ 1000))
 else if c.kind = 5 then decide (c.key = zero32) && (decide (c.b = 0) && decide (c.c = 0))
 else if c.kind = 6 then decide (c.key = zero32) && decide (c.c = 0)
 else false
def spotL (x : InT) : List UInt8 := x.tx ++ eightL x.index
def mayI (d : Deed) : Bool := decide (0 < d.ins.length) && (decide (d.ins.length ≤ 8) && (risesB spotL d.ins && d.ins.all fun x => decide (x.index < 8)))
def mayO (d : Deed) : Bool := decide (d.outs.length ≤ 8) && d.outs.all fun x => amountB x.amount
def mayC (d : Deed) : Bool := decide (d.certs.length ≤ 4) && d.certs.all certB
def mayP (d : Deed) : Bool := decide (d.pays.length ≤ 4) && (risesB PayT.key d.pays && d.pays.all fun x => amountB x.amount)
def mayW (d : Deed) : Bool := decide (d.wits.length ≤ 8) && (risesB WitT.key d.wits && d.wits.all fun x => decide (x.sig.size = 1024))
def mayD (d : Deed) : Bool := mayI d && (mayO d && (decide (d.fee < 9223372036854775808) && (decide (d.frm ≤ d.til) && (mayC d && (mayP d && mayW d)))))
theorem q7k {d : Deed} (ok : d.Ok) (h : mayD d = true) : d.FewW := by
 simp only [mayD, mayI, mayO, mayC, mayP, mayW, Bool.and_eq_true, decide_eq_true_eq, List.all_eq_true] at h
 obtain ⟨⟨_, h1, _⟩, ⟨h2, _⟩, _, _, ⟨h3, _⟩, ⟨h4, _⟩, h5, _, h6⟩ := h
 exact ⟨⟨ok, h1, h2, h3, h4⟩, h5, h6⟩
def deed0 : Deed := ⟨[], [], 0, 0, 0, [], [], []⟩
theorem x8p : deed0.Ok := ⟨by simp [deed0], by simp [deed0], by decide, by decide, by decide, by simp [deed0], by simp [deed0], by simp [deed0]⟩
/-- Take. -/
def takeD (s : List UInt8) : Deed × Int := match deedP s with
 | some (d, []) => if mayD d = true then (d, 0) else (deed0, 6)
 | _ => (deed0, 6)
theorem x4n {d : Deed} (ok : d.Ok) (h : mayD d = true) : takeD (fullL d) = (d, 0) := by
 have := reads_deed.put d [] (q7k ok h)
 rw [List.append_nil] at this
 unfold takeD
 rw [this]
 exact if_pos h
theorem z0n {s : List UInt8} (h : (takeD s).2 = 0) : mayD (takeD s).1 = true ∧ (takeD s).1.Ok ∧ s = fullL (takeD s).1 := by
 unfold takeD at h ⊢
 split
 ·rename_i d hq
  rw [hq] at h
  simp only at h
  by_cases hm : mayD d = true
  ·rw [if_pos hm]
   obtain ⟨o, e⟩ := reads_deed.got _ _ _ hq
   exact ⟨hm, o.few.ok, by rw [e, List.append_nil]⟩
  ·rw [if_neg hm] at h; cases h
 ·rename_i hq
  split at h
  ·rename_i d hq2
   exact absurd hq2 (hq d)
  ·cases h
/-! ### When two are one -/
def sameIn (a b : InT) : Bool := decide (a.tx = b.tx) && decide (a.index = b.index)
def sameOut (a b : OutT) : Bool := decide (a.dst = b.dst) && (decide (a.stake = b.stake) && decide (a.amount = b.amount))
def sameCert (a b : CertT) : Bool := decide (a.kind = b.kind) && (decide (a.key = b.key) && (decide (a.pool = b.pool) && (decide (a.a = b.a) && (decide (a.b = b.b) && decide (a.c = b.c)))))
def samePay (a b : PayT) : Bool := decide (a.key = b.key) && decide (a.amount = b.amount)
def sameWit (a b : WitT) : Bool := decide (a.key = b.key) && decide (a.sig = b.sig)
/-- Lists of one length, of which the like places are one. -/
def sameL {α : Type} (f : α → α → Bool) : List α → List α → Bool
 | [], [] => true
 | a :: l, b :: m => f a b && sameL f l m
 | _, _ => false
theorem q7j {α : Type} {f : α → α → Bool} (h : ∀ a b, f a b = true ↔ a = b) : ∀ l m, sameL f l m = true ↔ l = m
 | [], [] => by simp [sameL]
 | [], b :: m => by simp [sameL]
 | a :: l, [] => by simp [sameL]
 | a :: l, b :: m => by simp [sameL, h, q7j h l m]
def sameD (a b : Deed) : Bool := sameL sameIn a.ins b.ins && (sameL sameOut a.outs b.outs && (decide (a.fee = b.fee) && (decide (a.frm = b.frm) && (decide (a.til = b.til) && (sameL sameCert a.certs b.certs && (sameL samePay a.pays b.pays && sameL sameWit a.wits b.wits))))))
theorem x7o (a b : InT) : sameIn a b = true ↔ a = b := by cases a; cases b; simp [sameIn]
theorem x3m (a b : OutT) : sameOut a b = true ↔ a = b := by cases a; cases b; simp [sameOut]
theorem j3m (a b : CertT) : sameCert a b = true ↔ a = b := by cases a; cases b; simp [sameCert]
theorem x1z (a b : PayT) : samePay a b = true ↔ a = b := by cases a; cases b; simp [samePay]
theorem x2v (a b : WitT) : sameWit a b = true ↔ a = b := by cases a; cases b; simp [sameWit]
theorem x1y (a b : Deed) : sameD a b = true ↔ a = b := by
 cases a; cases b
 simp [sameD, q7j x7o, q7j x3m, q7j j3m, q7j x1z, q7j x2v]
theorem drop_left {α : Type} {xs ys : List α} {n : Nat} (h : xs.length = n) : (xs ++ ys).drop n = ys := by subst h; exact List.drop_left
theorem take_left {α : Type} {xs ys : List α} {n : Nat} (h : xs.length = n) : (xs ++ ys).take n = xs := by subst h; exact List.take_left
theorem z1l {cs l : List Value} {off n : Nat} (h : (cs.drop off).take n = l) : cs.toArray.extract off (off + n) = l.toArray := by
 apply Array.toList_inj.1
 rw [Array.toList_extract, ← h]
 simp [List.extract]
theorem q1o {cs : List Value} {off : Nat} {l : List UInt8} (h : (cs.drop off).take 32 = bvs l) (w : World) : (Go.part 34 cs.toArray off).run Tryz.prog w = .ok (hv l) w := by
 unfold Go.part
 simp only [Sem.run_bind, Tryz.isAgg34, Result.andThen_ok]
 have := z1l h
 simp [this, hv]
 exact h
theorem x4z {cs : List Value} {off : Nat} {r : Rt} (h : (cs.drop off).take 35 = rtCs r) (w : World) : (Go.part 47 cs.toArray off).run Tryz.prog w = .ok (rtV r) w := by
 unfold Go.part
 simp only [Sem.run_bind, Tryz.isAgg47, Result.andThen_ok]
 have := z1l h
 simp [this, rtV]
 exact h
theorem q1l : Tryz.prog.plainKey 24 = true := by kernel_rfl
theorem q7a : Tryz.prog.plainKey 9 = true := by kernel_rfl
theorem j6t (d : Hd) : (hdCs d).drop 2 = bvs d.prev ++ (bvs d.pool ++ (bvs d.body ++ (.int .u64 d.size :: .int .u64 d.many :: (rtCs d.right ++ [.string d.sig])))) := rfl
theorem j3s {d : Hd} (h : d.Ok) : (hdCs d).drop 34 = bvs d.pool ++ (bvs d.body ++ (.int .u64 d.size :: .int .u64 d.many :: (rtCs d.right ++ [.string d.sig]))) := by
 rw [show 34 = 2 + 32 by rfl, ← List.drop_drop, j6t, drop_left (by rw [q0c, h.prev])]
theorem j3w {d : Hd} (h : d.Ok) : (hdCs d).drop 66 = bvs d.body ++ (.int .u64 d.size :: .int .u64 d.many :: (rtCs d.right ++ [.string d.sig])) := by
 rw [show 66 = 34 + 32 by rfl, ← List.drop_drop, j3s h, drop_left (by rw [q0c, h.pool])]
theorem q7y {d : Hd} (h : d.Ok) : (hdCs d).drop 98 = .int .u64 d.size :: .int .u64 d.many :: (rtCs d.right ++ [.string d.sig]) := by
 rw [show 98 = 66 + 32 by rfl, ← List.drop_drop, j3w h, drop_left (by rw [q0c, h.body])]
theorem j1m {d : Hd} (h : d.Ok) : (hdCs d).drop 100 = rtCs d.right ++ [.string d.sig] := by
 rw [show 100 = 98 + 2 by rfl, ← List.drop_drop, q7y h]; rfl
theorem j5i {d : Hd} (h : d.Ok) : (hdCs d).drop 135 = [.string d.sig] := by
 rw [show 135 = 100 + 35 by rfl, ← List.drop_drop, j1m h, drop_left (q1j h.right)]
theorem q5o {cs l : List Value} {off : Nat} {v : Value} (h : cs.drop off = v :: l) : cs.toArray[off]? = some v := by
 have h1 : (cs.drop off)[0]? = some v := by rw [h]; rfl
 rw [List.getElem?_drop, Nat.add_zero] at h1
 rw [List.getElem?_toArray]
 exact h1
end Go.Proofs.YtbbfnpfkbbpjgaaGreat
