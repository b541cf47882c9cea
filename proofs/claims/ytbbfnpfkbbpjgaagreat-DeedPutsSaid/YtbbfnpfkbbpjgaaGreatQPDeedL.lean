/- Deeds: what they are, their bytes, how these are read. Plain law. -/
import Derived.Test.YtbbfnpfkbbpjgaaGreatQPDeed6
namespace Go.Proofs.YtbbfnpfkbbpjgaaGreat
open Go.RowKit Go.Lib
set_option linter.unusedVariables false
set_option linter.unusedSimpArgs false

/-- What is read of bytes: a thing, and what stands behind it. -/
abbrev Rdr (α : Type) := List UInt8 → Option (α × List UInt8)
def pureP {α : Type} (a : α) : Rdr α := fun s => some (a, s)
def bindP {α β : Type} (p : Rdr α) (f : α → Rdr β) : Rdr β := fun s => match p s with | none => none | some (a, r) => f a r
theorem bind_some {α β : Type} {p : Rdr α} {f : α → Rdr β} {s r : List UInt8} {a : α} (h : p s = some (a, r)) : bindP p f s = f a r := by unfold bindP; rw [h]
theorem bind_none {α β : Type} {p : Rdr α} {f : α → Rdr β} {s : List UInt8} (h : p s = none) : bindP p f s = none := by unfold bindP; rw [h]
theorem bind_is {α β : Type} {p : Rdr α} {f : α → Rdr β} {s r : List UInt8} {b : β} (h : bindP p f s = some (b, r)) : ∃ a t, p s = some (a, t) ∧ f a t = some (b, r) := by
  cases hp : p s with
  | none => rw [bind_none hp] at h; cases h
  | some x => obtain ⟨a, t⟩ := x; rw [bind_some hp] at h; exact ⟨a, t, rfl, h⟩
def numP : Rdr Nat := fun s => match takeO s with | none => none | some (n, k) => some (n, s.drop k)
def textP (n : Nat) : Rdr (List UInt8) := fun s => if s.length < n then none else some (s.take n, s.drop n)
/-- n things, one behind the other. -/
def manyP {α : Type} (p : Rdr α) : Nat → Rdr (List α)
  | 0 => pureP []
  | n + 1 => bindP p fun a => bindP (manyP p n) fun l => pureP (a :: l)
def listP {α : Type} (most : Nat) (p : Rdr α) : Rdr (List α) := bindP numP fun n => if most < n then (fun _ => none) else manyP p n
/-- p reads what f puts of things that may be, and nothing else. -/
structure Reads {α : Type} (p : Rdr α) (f : α → List UInt8) (Ok : α → Prop) : Prop where
  put : ∀ a rest, Ok a → p (f a ++ rest) = some (a, rest)
  got : ∀ s a r, p s = some (a, r) → Ok a ∧ s = f a ++ r
theorem reads_num : Reads numP putL (fun n => n < 18446744073709551616) := by
  refine ⟨fun n rest h => ?_, fun s a r h => ?_⟩
  · unfold numP
    rw [takeO_put n h rest]
    simp
  · unfold numP at h
    cases hq : takeO s with
    | none => rw [hq] at h; cases h
    | some x =>
      obtain ⟨n, k⟩ := x
      rw [hq] at h
      simp only [Option.some.injEq, Prod.mk.injEq] at h
      obtain ⟨rfl, rfl⟩ := h
      obtain ⟨h1, h2, h3, h4⟩ := takeO_is hq
      exact ⟨h1, h3⟩
theorem reads_text (n : Nat) : Reads (textP n) (fun l => l) (fun l => l.length = n) := by
  refine ⟨fun l rest h => ?_, fun s a r h => ?_⟩
  · unfold textP
    rw [if_neg (by rw [List.length_append, h]; omega)]
    subst h
    simp
  · unfold textP at h
    split at h
    · cases h
    · simp only [Option.some.injEq, Prod.mk.injEq] at h
      obtain ⟨rfl, rfl⟩ := h
      exact ⟨by rw [List.length_take]; omega, (List.take_append_drop n s).symm⟩
theorem reads_many {α : Type} {p : Rdr α} {f : α → List UInt8} {A : α → Prop} (h : Reads p f A) : ∀ n, Reads (manyP p n) (fun l => l.flatMap f) (fun l => l.length = n ∧ ∀ a ∈ l, A a)
  | 0 => ⟨fun l rest hl => by
        have : l = [] := List.eq_nil_of_length_eq_zero hl.1
        subst this; rfl, fun s l r hs => by
        simp only [manyP, pureP, Option.some.injEq, Prod.mk.injEq] at hs
        obtain ⟨rfl, rfl⟩ := hs
        exact ⟨⟨rfl, by simp⟩, rfl⟩⟩
  | n + 1 => by
    have ih := reads_many h n
    refine ⟨fun l rest hl => ?_, fun s l r hs => ?_⟩
    · cases l with
      | nil => simp at hl
      | cons a t =>
        have h1 := h.put a (t.flatMap f ++ rest) (hl.2 a (by simp))
        have h2 := ih.put t rest ⟨by simpa using hl.1, fun x hx => hl.2 x (by simp [hx])⟩
        show bindP p _ _ = _
        rw [List.flatMap_cons, List.append_assoc, bind_some h1, bind_some h2]
        rfl
    · obtain ⟨a, t, hp, hs⟩ := bind_is (p := p) hs
      obtain ⟨l', u, hm, hs⟩ := bind_is hs
      simp only [pureP, Option.some.injEq, Prod.mk.injEq] at hs
      obtain ⟨rfl, rfl⟩ := hs
      obtain ⟨ha, e1⟩ := h.got _ _ _ hp
      obtain ⟨⟨hl, hA⟩, e2⟩ := ih.got _ _ _ hm
      refine ⟨⟨by simp [hl], fun x hx => ?_⟩, by rw [e1, e2, List.flatMap_cons, List.append_assoc]⟩
      rcases List.mem_cons.1 hx with rfl | hx
      · exact ha
      · exact hA x hx
def listL {α : Type} (f : α → List UInt8) (l : List α) : List UInt8 := putL l.length ++ l.flatMap f
theorem reads_list {α : Type} {p : Rdr α} {f : α → List UInt8} {A : α → Prop} (h : Reads p f A) (most : Nat) (hm : most < 18446744073709551616) : Reads (listP most p) (listL f) (fun l => l.length ≤ most ∧ ∀ a ∈ l, A a) := by
  refine ⟨fun l rest hl => ?_, fun s l r hs => ?_⟩
  · unfold listP listL
    rw [List.append_assoc, bind_some (reads_num.put _ _ (by omega : l.length < 18446744073709551616)), if_neg (by omega)]
    exact (reads_many h _).put l rest ⟨rfl, hl.2⟩
  · unfold listP at hs
    obtain ⟨n, t, hp, hs⟩ := bind_is hs
    by_cases hn : most < n
    · rw [if_pos hn] at hs; cases hs
    · rw [if_neg hn] at hs
      obtain ⟨_, e1⟩ := reads_num.got _ _ _ hp
      obtain ⟨⟨hl, hA⟩, e2⟩ := (reads_many h n).got _ _ _ hs
      exact ⟨⟨by omega, hA⟩, by unfold listL; rw [e1, e2, hl, List.append_assoc]⟩
end Go.Proofs.YtbbfnpfkbbpjgaaGreat

/- Deeds: their parts, their bytes, when they may be, when they are one. Plain law. -/
namespace Go.Proofs.YtbbfnpfkbbpjgaaGreat
open Go.RowKit Go.Lib
set_option linter.unusedVariables false
set_option linter.unusedSimpArgs false

structure InT where
  tx : List UInt8
  index : Nat
structure OutT where
  dst : List UInt8
  stake : List UInt8
  amount : Nat
structure CertT where
  kind : Nat
  key : List UInt8
  pool : List UInt8
  a : Nat
  b : Nat
  c : Nat
structure PayT where
  key : List UInt8
  amount : Nat
structure WitT where
  key : List UInt8
  sig : ByteArray
structure Deed where
  ins : List InT
  outs : List OutT
  fee : Nat
  frm : Nat
  til : Nat
  certs : List CertT
  pays : List PayT
  wits : List WitT
abbrev U64 (n : Nat) : Prop := n < 18446744073709551616
def InT.Ok (x : InT) : Prop := x.tx.length = 32 ∧ U64 x.index
def OutT.Ok (x : OutT) : Prop := x.dst.length = 32 ∧ x.stake.length = 32 ∧ U64 x.amount
def CertT.Ok (x : CertT) : Prop := x.kind < 256 ∧ x.key.length = 32 ∧ x.pool.length = 32 ∧ U64 x.a ∧ U64 x.b ∧ U64 x.c
def PayT.Ok (x : PayT) : Prop := x.key.length = 32 ∧ U64 x.amount
def WitT.Ok (x : WitT) : Prop := x.key.length = 32
structure Deed.Ok (d : Deed) : Prop where
  ins : ∀ x ∈ d.ins, x.Ok
  outs : ∀ x ∈ d.outs, x.Ok
  fee : U64 d.fee
  frm : U64 d.frm
  til : U64 d.til
  certs : ∀ x ∈ d.certs, x.Ok
  pays : ∀ x ∈ d.pays, x.Ok
  wits : ∀ x ∈ d.wits, x.Ok
/-! ### Bytes -/
def inL (x : InT) : List UInt8 := x.tx ++ putL x.index
def outtL (x : OutT) : List UInt8 := x.dst ++ (x.stake ++ putL x.amount)
def certL (x : CertT) : List UInt8 := UInt8.ofNat x.kind :: (x.key ++ (x.pool ++ (putL x.a ++ (putL x.b ++ putL x.c))))
def payL (x : PayT) : List UInt8 := x.key ++ putL x.amount
def witL (x : WitT) : List UInt8 := x.key ++ x.sig.data.toList
def bodyL (d : Deed) : List UInt8 := listL inL d.ins ++ (listL outtL d.outs ++ (putL d.fee ++ (putL d.frm ++ (putL d.til ++ (listL certL d.certs ++ listL payL d.pays)))))
def fullL (d : Deed) : List UInt8 := bodyL d ++ listL witL d.wits
/-! ### Reading -/
def inP : Rdr InT := bindP (textP 32) fun t => bindP numP fun n => pureP ⟨t, n⟩
def outP : Rdr OutT := bindP (textP 32) fun t => bindP (textP 32) fun u => bindP numP fun n => pureP ⟨t, u, n⟩
def certP : Rdr CertT := bindP (textP 1) fun k => bindP (textP 32) fun t => bindP (textP 32) fun u => bindP numP fun a => bindP numP fun b => bindP numP fun c => pureP ⟨(k.getD 0 0).toNat, t, u, a, b, c⟩
def payP : Rdr PayT := bindP (textP 32) fun t => bindP numP fun n => pureP ⟨t, n⟩
def witP : Rdr WitT := bindP (textP 32) fun t => bindP (textP 1024) fun s => pureP ⟨t, ⟨s.toArray⟩⟩
def bodyP : Rdr Deed := bindP (listP 8 inP) fun i => bindP (listP 8 outP) fun o => bindP numP fun f => bindP numP fun s => bindP numP fun t => bindP (listP 4 certP) fun c => bindP (listP 4 payP) fun p => pureP ⟨i, o, f, s, t, c, p, []⟩
def deedP : Rdr Deed := bindP bodyP fun d => bindP (listP 8 witP) fun w => pureP { d with wits := w }
theorem pure_is {α : Type} {a b : α} {s r : List UInt8} (h : pureP a s = some (b, r)) : a = b ∧ s = r := by
  simp only [pureP, Option.some.injEq, Prod.mk.injEq] at h; exact h
theorem reads_in : Reads inP inL InT.Ok := by
  refine ⟨fun x rest hx => ?_, fun s x r h => ?_⟩
  · unfold inP inL
    rw [List.append_assoc, bind_some ((reads_text 32).put _ _ hx.1), bind_some (reads_num.put _ _ hx.2)]; rfl
  · obtain ⟨t, s1, h1, h⟩ := bind_is h
    obtain ⟨n, s2, h2, h⟩ := bind_is h
    obtain ⟨rfl, rfl⟩ := pure_is h
    obtain ⟨o1, e1⟩ := (reads_text 32).got _ _ _ h1
    obtain ⟨o2, e2⟩ := reads_num.got _ _ _ h2
    exact ⟨⟨o1, o2⟩, by rw [e1, e2]; simp [inL]⟩
theorem reads_pay : Reads payP payL PayT.Ok := by
  refine ⟨fun x rest hx => ?_, fun s x r h => ?_⟩
  · unfold payP payL
    rw [List.append_assoc, bind_some ((reads_text 32).put _ _ hx.1), bind_some (reads_num.put _ _ hx.2)]; rfl
  · obtain ⟨t, s1, h1, h⟩ := bind_is h
    obtain ⟨n, s2, h2, h⟩ := bind_is h
    obtain ⟨rfl, rfl⟩ := pure_is h
    obtain ⟨o1, e1⟩ := (reads_text 32).got _ _ _ h1
    obtain ⟨o2, e2⟩ := reads_num.got _ _ _ h2
    exact ⟨⟨o1, o2⟩, by rw [e1, e2]; simp [payL]⟩
theorem reads_out : Reads outP outtL OutT.Ok := by
  refine ⟨fun x rest hx => ?_, fun s x r h => ?_⟩
  · unfold outP outtL
    rw [List.append_assoc, List.append_assoc, bind_some ((reads_text 32).put _ _ hx.1), bind_some ((reads_text 32).put _ _ hx.2.1), bind_some (reads_num.put _ _ hx.2.2)]; rfl
  · obtain ⟨t, s1, h1, h⟩ := bind_is h
    obtain ⟨u, s2, h2, h⟩ := bind_is h
    obtain ⟨n, s3, h3, h⟩ := bind_is h
    obtain ⟨rfl, rfl⟩ := pure_is h
    obtain ⟨o1, e1⟩ := (reads_text 32).got _ _ _ h1
    obtain ⟨o2, e2⟩ := (reads_text 32).got _ _ _ h2
    obtain ⟨o3, e3⟩ := reads_num.got _ _ _ h3
    exact ⟨⟨o1, o2, o3⟩, by rw [e1, e2, e3]; simp [outtL]⟩
theorem reads_wit : Reads witP witL (fun x => x.Ok ∧ x.sig.size = 1024) := by
  refine ⟨fun x rest hx => ?_, fun s x r h => ?_⟩
  · unfold witP witL
    rw [List.append_assoc, bind_some ((reads_text 32).put _ _ hx.1), bind_some ((reads_text 1024).put _ _ (by have := hx.2; simpa using this))]; rfl
  · obtain ⟨t, s1, h1, h⟩ := bind_is h
    obtain ⟨u, s2, h2, h⟩ := bind_is h
    obtain ⟨rfl, rfl⟩ := pure_is h
    obtain ⟨o1, e1⟩ := (reads_text 32).got _ _ _ h1
    obtain ⟨o2, e2⟩ := (reads_text 1024).got _ _ _ h2
    exact ⟨⟨o1, by show u.toArray.size = 1024; rw [List.size_toArray]; exact o2⟩, by rw [e1, e2]; simp [witL]⟩
theorem reads_cert : Reads certP certL CertT.Ok := by
  refine ⟨fun x rest hx => ?_, fun s x r h => ?_⟩
  · unfold certP certL
    have h1 : textP 1 (UInt8.ofNat x.kind :: (x.key ++ (x.pool ++ (putL x.a ++ (putL x.b ++ putL x.c)))) ++ rest) = some ([UInt8.ofNat x.kind], x.key ++ (x.pool ++ (putL x.a ++ (putL x.b ++ (putL x.c ++ rest))))) := by
      have := (reads_text 1).put [UInt8.ofNat x.kind] (x.key ++ (x.pool ++ (putL x.a ++ (putL x.b ++ (putL x.c ++ rest))))) rfl
      simpa using this
    rw [bind_some h1, bind_some ((reads_text 32).put _ _ hx.2.1), bind_some ((reads_text 32).put _ _ hx.2.2.1), bind_some (reads_num.put _ _ hx.2.2.2.1), bind_some (reads_num.put _ _ hx.2.2.2.2.1), bind_some (reads_num.put _ _ hx.2.2.2.2.2)]
    show some (CertT.mk (UInt8.ofNat x.kind).toNat _ _ _ _ _, rest) = _
    rw [u8_nat _ hx.1]
  · obtain ⟨k, s1, h1, h⟩ := bind_is h
    obtain ⟨t, s2, h2, h⟩ := bind_is h
    obtain ⟨u, s3, h3, h⟩ := bind_is h
    obtain ⟨a, s4, h4, h⟩ := bind_is h
    obtain ⟨b, s5, h5, h⟩ := bind_is h
    obtain ⟨c, s6, h6, h⟩ := bind_is h
    obtain ⟨rfl, rfl⟩ := pure_is h
    obtain ⟨o1, e1⟩ := (reads_text 1).got _ _ _ h1
    obtain ⟨o2, e2⟩ := (reads_text 32).got _ _ _ h2
    obtain ⟨o3, e3⟩ := (reads_text 32).got _ _ _ h3
    obtain ⟨o4, e4⟩ := reads_num.got _ _ _ h4
    obtain ⟨o5, e5⟩ := reads_num.got _ _ _ h5
    obtain ⟨o6, e6⟩ := reads_num.got _ _ _ h6
    have hk : k = [k.getD 0 0] := by
      cases k with
      | nil => simp at o1
      | cons x y => cases y with
        | nil => rfl
        | cons => simp at o1
    refine ⟨⟨UInt8.toNat_lt _, o2, o3, o4, o5, o6⟩, ?_⟩
    rw [e1, e2, e3, e4, e5, e6, hk]
    simp [certL]
/-- A deed's parts, of which there are not too many. -/
structure Deed.Few (d : Deed) : Prop where
  ok : d.Ok
  ins : d.ins.length ≤ 8
  outs : d.outs.length ≤ 8
  certs : d.certs.length ≤ 4
  pays : d.pays.length ≤ 4
theorem reads_body : Reads bodyP bodyL (fun d => d.Few ∧ d.wits = []) := by
  refine ⟨fun d rest hd => ?_, fun s d r h => ?_⟩
  · obtain ⟨⟨ok, h1, h2, h3, h4⟩, h5⟩ := hd
    unfold bodyP bodyL
    simp only [List.append_assoc]
    rw [bind_some ((reads_list reads_in 8 (by decide)).put d.ins _ ⟨h1, ok.ins⟩), bind_some ((reads_list reads_out 8 (by decide)).put d.outs _ ⟨h2, ok.outs⟩), bind_some (reads_num.put d.fee _ ok.fee), bind_some (reads_num.put d.frm _ ok.frm), bind_some (reads_num.put d.til _ ok.til),
      bind_some ((reads_list reads_cert 4 (by decide)).put d.certs _ ⟨h3, ok.certs⟩), bind_some ((reads_list reads_pay 4 (by decide)).put d.pays _ ⟨h4, ok.pays⟩)]
    show some (Deed.mk _ _ _ _ _ _ _ [], rest) = _
    rw [← h5]
  · obtain ⟨x1, s1, h1, h⟩ := bind_is h
    obtain ⟨x2, s2, h2, h⟩ := bind_is h
    obtain ⟨x3, s3, h3, h⟩ := bind_is h
    obtain ⟨x4, s4, h4, h⟩ := bind_is h
    obtain ⟨x5, s5, h5, h⟩ := bind_is h
    obtain ⟨x6, s6, h6, h⟩ := bind_is h
    obtain ⟨x7, s7, h7, h⟩ := bind_is h
    obtain ⟨rfl, rfl⟩ := pure_is h
    obtain ⟨o1, e1⟩ := (reads_list reads_in 8 (by decide)).got _ _ _ h1
    obtain ⟨o2, e2⟩ := (reads_list reads_out 8 (by decide)).got _ _ _ h2
    obtain ⟨o3, e3⟩ := reads_num.got _ _ _ h3
    obtain ⟨o4, e4⟩ := reads_num.got _ _ _ h4
    obtain ⟨o5, e5⟩ := reads_num.got _ _ _ h5
    obtain ⟨o6, e6⟩ := (reads_list reads_cert 4 (by decide)).got _ _ _ h6
    obtain ⟨o7, e7⟩ := (reads_list reads_pay 4 (by decide)).got _ _ _ h7
    refine ⟨⟨⟨⟨o1.2, o2.2, o3, o4, o5, o6.2, o7.2, by simp⟩, o1.1, o2.1, o6.1, o7.1⟩, rfl⟩, ?_⟩
    rw [e1, e2, e3, e4, e5, e6, e7]
    simp [bodyL]
structure Deed.FewW (d : Deed) : Prop where
  few : d.Few
  wits : d.wits.length ≤ 8
  sigs : ∀ x ∈ d.wits, x.sig.size = 1024
theorem body_wits (d : Deed) (w : List WitT) : bodyL { d with wits := w } = bodyL d := rfl
theorem few_wits {d : Deed} (h : d.Few) (w : List WitT) (hw : ∀ x ∈ w, x.Ok) : Deed.Few { d with wits := w } := ⟨⟨h.ok.ins, h.ok.outs, h.ok.fee, h.ok.frm, h.ok.til, h.ok.certs, h.ok.pays, hw⟩, h.ins, h.outs, h.certs, h.pays⟩
theorem reads_deed : Reads deedP fullL Deed.FewW := by
  refine ⟨fun d rest hd => ?_, fun s d r h => ?_⟩
  · obtain ⟨hf, h1, h2⟩ := hd
    have hb := reads_body.put { d with wits := [] } (listL witL d.wits ++ rest) ⟨few_wits hf [] (by simp), rfl⟩
    rw [body_wits] at hb
    unfold deedP fullL
    rw [List.append_assoc, bind_some hb, bind_some ((reads_list reads_wit 8 (by decide)).put d.wits _ ⟨h1, fun x hx => ⟨hf.ok.wits x hx, h2 x hx⟩⟩)]
    rfl
  · obtain ⟨x1, s1, h1, h⟩ := bind_is h
    obtain ⟨x2, s2, h2, h⟩ := bind_is h
    obtain ⟨rfl, rfl⟩ := pure_is h
    obtain ⟨⟨o1, o0⟩, e1⟩ := reads_body.got _ _ _ h1
    obtain ⟨o2, e2⟩ := (reads_list reads_wit 8 (by decide)).got _ _ _ h2
    exact ⟨⟨few_wits o1 x2 (fun x hx => (o2.2 x hx).1), o2.1, fun x hx => (o2.2 x hx).2⟩, by rw [e1, e2]; unfold fullL; rw [List.append_assoc]; rfl⟩
/-! ### When a deed may be -/
def risesB {α : Type} (f : α → List UInt8) : List α → Bool
  | [] => true
  | [_] => true
  | a :: b :: l => Op.bytesLess (f a) (f b) && risesB f (b :: l)
def amountB (n : Nat) : Bool := decide (0 < n) && decide (n < 9223372036854775808)
def certB (c : CertT) : Bool :=
  if c.kind = 1 ∨ c.kind = 2 then decide (c.pool = zero32) && (decide (c.a = 0) && (decide (c.b = 0) && decide (c.c = 0)))
  else if c.kind = 3 then decide (c.a = 0) && (decide (c.b = 0) && decide (c.c = 0))
  else if c.kind = 4 then decide (c.a < 9223372036854775808) && (decide (c.b < 9223372036854775808) && decide (c.c ≤ 1000))
  else if c.kind = 5 then decide (c.key = zero32) && (decide (c.b = 0) && decide (c.c = 0))
  else if c.kind = 6 then decide (c.key = zero32) && decide (c.c = 0)
  else false
def spotL (x : InT) : List UInt8 := x.tx ++ eightL x.index
def mayI (d : Deed) : Bool := decide (0 < d.ins.length) && (decide (d.ins.length ≤ 8) && (risesB spotL d.ins && d.ins.all fun x => decide (x.index < 8)))
def mayO (d : Deed) : Bool := decide (d.outs.length ≤ 8) && d.outs.all fun x => amountB x.amount
def mayC (d : Deed) : Bool := decide (d.certs.length ≤ 4) && d.certs.all certB
def mayP (d : Deed) : Bool := decide (d.pays.length ≤ 4) && (risesB PayT.key d.pays && d.pays.all fun x => amountB x.amount)
def mayW (d : Deed) : Bool := decide (d.wits.length ≤ 8) && (risesB WitT.key d.wits && d.wits.all fun x => decide (x.sig.size = 1024))
def mayD (d : Deed) : Bool := mayI d && (mayO d && (decide (d.fee < 9223372036854775808) && (decide (d.frm ≤ d.til) && (mayC d && (mayP d && mayW d)))))
theorem mayD_few {d : Deed} (ok : d.Ok) (h : mayD d = true) : d.FewW := by
  simp only [mayD, mayI, mayO, mayC, mayP, mayW, Bool.and_eq_true, decide_eq_true_eq, List.all_eq_true] at h
  obtain ⟨⟨_, h1, _⟩, ⟨h2, _⟩, _, _, ⟨h3, _⟩, ⟨h4, _⟩, h5, _, h6⟩ := h
  exact ⟨⟨ok, h1, h2, h3, h4⟩, h5, h6⟩
def deed0 : Deed := ⟨[], [], 0, 0, 0, [], [], []⟩
theorem deed0_ok : deed0.Ok := ⟨by simp [deed0], by simp [deed0], by decide, by decide, by decide, by simp [deed0], by simp [deed0], by simp [deed0]⟩
/-- Take. -/
def takeD (s : List UInt8) : Deed × Int := match deedP s with
  | some (d, []) => if mayD d = true then (d, 0) else (deed0, 6)
  | _ => (deed0, 6)
theorem takeD_put {d : Deed} (ok : d.Ok) (h : mayD d = true) : takeD (fullL d) = (d, 0) := by
  have := reads_deed.put d [] (mayD_few ok h)
  rw [List.append_nil] at this
  unfold takeD
  rw [this]
  exact if_pos h
/-! ### When two are one -/
def sameIn (a b : InT) : Bool := decide (a.tx = b.tx) && decide (a.index = b.index)
def sameOut (a b : OutT) : Bool := decide (a.dst = b.dst) && (decide (a.stake = b.stake) && decide (a.amount = b.amount))
def sameCert (a b : CertT) : Bool := decide (a.kind = b.kind) && (decide (a.key = b.key) && (decide (a.pool = b.pool) && (decide (a.a = b.a) && (decide (a.b = b.b) && decide (a.c = b.c)))))
def samePay (a b : PayT) : Bool := decide (a.key = b.key) && decide (a.amount = b.amount)
def sameWit (a b : WitT) : Bool := decide (a.key = b.key) && decide (a.sig = b.sig)
/-- Lists of one length, of which the like places are one. -/
def sameL {α : Type} (f : α → α → Bool) : List α → List α → Bool
  | [], [] => true
  | a :: l, b :: m => f a b && sameL f l m
  | _, _ => false
theorem sameL_eq {α : Type} {f : α → α → Bool} (h : ∀ a b, f a b = true ↔ a = b) : ∀ l m, sameL f l m = true ↔ l = m
  | [], [] => by simp [sameL]
  | [], b :: m => by simp [sameL]
  | a :: l, [] => by simp [sameL]
  | a :: l, b :: m => by simp [sameL, h, sameL_eq h l m]
def sameD (a b : Deed) : Bool := sameL sameIn a.ins b.ins && (sameL sameOut a.outs b.outs && (decide (a.fee = b.fee) && (decide (a.frm = b.frm) && (decide (a.til = b.til) && (sameL sameCert a.certs b.certs && (sameL samePay a.pays b.pays && sameL sameWit a.wits b.wits))))))
theorem sameIn_eq (a b : InT) : sameIn a b = true ↔ a = b := by cases a; cases b; simp [sameIn]
theorem sameOut_eq (a b : OutT) : sameOut a b = true ↔ a = b := by cases a; cases b; simp [sameOut]
theorem sameCert_eq (a b : CertT) : sameCert a b = true ↔ a = b := by cases a; cases b; simp [sameCert]
theorem samePay_eq (a b : PayT) : samePay a b = true ↔ a = b := by cases a; cases b; simp [samePay]
theorem sameWit_eq (a b : WitT) : sameWit a b = true ↔ a = b := by cases a; cases b; simp [sameWit]
theorem sameD_eq (a b : Deed) : sameD a b = true ↔ a = b := by
  cases a; cases b
  simp [sameD, sameL_eq sameIn_eq, sameL_eq sameOut_eq, sameL_eq sameCert_eq, sameL_eq samePay_eq, sameL_eq sameWit_eq]
theorem sameD_self (a : Deed) : sameD a a = true := (sameD_eq a a).2 rfl
end Go.Proofs.YtbbfnpfkbbpjgaaGreat
