/- api.In: one field stored. -/
import Derived.Test.YtbbfnpfkbbpjgaaKTElIn
import Derived.Test.YtbbfnpfkbbpjgaaKTDig8
import Derived.Test.YtbbfnpfkbbpjgaaKTElCert
import Derived.Test.YtbbfnpfkbbpjgaaKTElWit
namespace Go.Proofs.Ytbbfnpfkbbpjgaa
open Go.RowKit Go.Lib
set_option linter.unusedVariables false
set_option linter.unusedSimpArgs false

section
variable {ops : Array Oper} {rest : List Oper} {o : Oper} {a : Act} {w w0 : World} {Q : Exit → Act → World → Prop} {K : Act → Prop}
theorem wpl_set_in_tx (hgd : o.guard = none) (x y : Operand) (ho : o.op = .store 27 x y) {g : Nat} {d : InT} {l : List UInt8} (hx : a.eval x = .pointer (some ⟨g, 0, none⟩)) (hy : a.eval y = hv l) (hl : l.length = 32) (h : InAt w g d)
    (hk : ∀ w2, InAt w2 g { d with tx := l } → Touch (fun b => b = g) w w2 → wpList Try.prog ops Q rest (a.put o.dst undef) w2) : wpList Try.prog ops Q (o :: rest) a w :=
  wpl_put_at hgd 27 x y ho hx hy h.arr (by rw [bvs_length, hl]; exact hashSz32) (by rw [inCs_length h.ok, bvs_length, hl]; omega) (fun v hv => List.all_eq_true.1 (bvs_one l) v hv) (inCs { d with tx := l }) (by
    rw [put_mid (A := ([] : List Value)) (X := bvs d.tx) (B := [.int .u64 d.index]) (by simp [inCs]) (by simp [bvs_length]) (by rw [bvs_length, bvs_length, hl, show d.tx.length = 32 from h.ok.1])]
    simp [inCs]) (fun w2 ha ht => hk w2 ⟨⟨hl, h.ok.2⟩, ha⟩ ht)
theorem wpl_set_in_index (hgd : o.guard = none) (x y : Operand) (ho : o.op = .store 23 x y) {g : Nat} {d : InT} {n : Nat} (hx : a.eval x = .pointer (some ⟨g, 32, none⟩)) (hy : a.eval y = .int .u64 n) (hl : U64 n) (h : InAt w g d)
    (hk : ∀ w2, InAt w2 g { d with index := n } → Touch (fun b => b = g) w w2 → wpList Try.prog ops Q rest (a.put o.dst undef) w2) : wpList Try.prog ops Q (o :: rest) a w :=
  wpl_set_one hgd 23 x y ho hx hy h.arr (by rw [inCs_length h.ok]; omega) u64Sz rfl rfl (fun w2 ha ht => hk w2 ⟨⟨h.ok.1, hl⟩, by
    rw [set_mid (A := bvs d.tx) (B := []) (by simp [inCs] <;> rfl) (by simp [bvs_length, show d.tx.length = 32 from h.ok.1])] at ha
    simpa [inCs] using ha⟩ ht)
end
end Go.Proofs.Ytbbfnpfkbbpjgaa

/- api.Out: one field stored. -/
namespace Go.Proofs.Ytbbfnpfkbbpjgaa
open Go.RowKit Go.Lib
set_option linter.unusedVariables false
set_option linter.unusedSimpArgs false

section
variable {ops : Array Oper} {rest : List Oper} {o : Oper} {a : Act} {w w0 : World} {Q : Exit → Act → World → Prop} {K : Act → Prop}
theorem wpl_set_out_dst (hgd : o.guard = none) (x y : Operand) (ho : o.op = .store 27 x y) {g : Nat} {d : OutT} {l : List UInt8} (hx : a.eval x = .pointer (some ⟨g, 0, none⟩)) (hy : a.eval y = hv l) (hl : l.length = 32) (h : OutAt w g d)
    (hk : ∀ w2, OutAt w2 g { d with dst := l } → Touch (fun b => b = g) w w2 → wpList Try.prog ops Q rest (a.put o.dst undef) w2) : wpList Try.prog ops Q (o :: rest) a w :=
  wpl_put_at hgd 27 x y ho hx hy h.arr (by rw [bvs_length, hl]; exact hashSz32) (by rw [outCs_length h.ok, bvs_length, hl]; omega) (fun v hv => List.all_eq_true.1 (bvs_one l) v hv) (outCs { d with dst := l }) (by
    rw [put_mid (A := ([] : List Value)) (X := bvs d.dst) (B := bvs d.stake ++ ([.int .u64 d.amount])) (by simp [outCs]) (by simp [bvs_length]) (by rw [bvs_length, bvs_length, hl, show d.dst.length = 32 from h.ok.1])]
    simp [outCs]) (fun w2 ha ht => hk w2 ⟨⟨hl, h.ok.2.1, h.ok.2.2⟩, ha⟩ ht)
theorem wpl_set_out_stake (hgd : o.guard = none) (x y : Operand) (ho : o.op = .store 27 x y) {g : Nat} {d : OutT} {l : List UInt8} (hx : a.eval x = .pointer (some ⟨g, 32, none⟩)) (hy : a.eval y = hv l) (hl : l.length = 32) (h : OutAt w g d)
    (hk : ∀ w2, OutAt w2 g { d with stake := l } → Touch (fun b => b = g) w w2 → wpList Try.prog ops Q rest (a.put o.dst undef) w2) : wpList Try.prog ops Q (o :: rest) a w :=
  wpl_put_at hgd 27 x y ho hx hy h.arr (by rw [bvs_length, hl]; exact hashSz32) (by rw [outCs_length h.ok, bvs_length, hl]; omega) (fun v hv => List.all_eq_true.1 (bvs_one l) v hv) (outCs { d with stake := l }) (by
    rw [put_mid (A := bvs d.dst) (X := bvs d.stake) (B := [.int .u64 d.amount]) (by simp [outCs]) (by simp [bvs_length, show d.dst.length = 32 from h.ok.1]) (by rw [bvs_length, bvs_length, hl, show d.stake.length = 32 from h.ok.2.1])]
    simp [outCs]) (fun w2 ha ht => hk w2 ⟨⟨h.ok.1, hl, h.ok.2.2⟩, ha⟩ ht)
theorem wpl_set_out_amount (hgd : o.guard = none) (x y : Operand) (ho : o.op = .store 23 x y) {g : Nat} {d : OutT} {n : Nat} (hx : a.eval x = .pointer (some ⟨g, 64, none⟩)) (hy : a.eval y = .int .u64 n) (hl : U64 n) (h : OutAt w g d)
    (hk : ∀ w2, OutAt w2 g { d with amount := n } → Touch (fun b => b = g) w w2 → wpList Try.prog ops Q rest (a.put o.dst undef) w2) : wpList Try.prog ops Q (o :: rest) a w :=
  wpl_set_one hgd 23 x y ho hx hy h.arr (by rw [outCs_length h.ok]; omega) u64Sz rfl rfl (fun w2 ha ht => hk w2 ⟨⟨h.ok.1, h.ok.2.1, hl⟩, by
    rw [set_mid (A := bvs d.dst ++ bvs d.stake) (B := []) (by simp [outCs] <;> rfl) (by simp [bvs_length, show d.dst.length = 32 from h.ok.1, show d.stake.length = 32 from h.ok.2.1])] at ha
    simpa [outCs] using ha⟩ ht)
end
end Go.Proofs.Ytbbfnpfkbbpjgaa

/- api.Pay: one field stored. -/
namespace Go.Proofs.Ytbbfnpfkbbpjgaa
open Go.RowKit Go.Lib
set_option linter.unusedVariables false
set_option linter.unusedSimpArgs false

section
variable {ops : Array Oper} {rest : List Oper} {o : Oper} {a : Act} {w w0 : World} {Q : Exit → Act → World → Prop} {K : Act → Prop}
theorem wpl_set_pay_key (hgd : o.guard = none) (x y : Operand) (ho : o.op = .store 27 x y) {g : Nat} {d : PayT} {l : List UInt8} (hx : a.eval x = .pointer (some ⟨g, 0, none⟩)) (hy : a.eval y = hv l) (hl : l.length = 32) (h : PayAt w g d)
    (hk : ∀ w2, PayAt w2 g { d with key := l } → Touch (fun b => b = g) w w2 → wpList Try.prog ops Q rest (a.put o.dst undef) w2) : wpList Try.prog ops Q (o :: rest) a w :=
  wpl_put_at hgd 27 x y ho hx hy h.arr (by rw [bvs_length, hl]; exact hashSz32) (by rw [payCs_length h.ok, bvs_length, hl]; omega) (fun v hv => List.all_eq_true.1 (bvs_one l) v hv) (payCs { d with key := l }) (by
    rw [put_mid (A := ([] : List Value)) (X := bvs d.key) (B := [.int .u64 d.amount]) (by simp [payCs]) (by simp [bvs_length]) (by rw [bvs_length, bvs_length, hl, show d.key.length = 32 from h.ok.1])]
    simp [payCs]) (fun w2 ha ht => hk w2 ⟨⟨hl, h.ok.2⟩, ha⟩ ht)
theorem wpl_set_pay_amount (hgd : o.guard = none) (x y : Operand) (ho : o.op = .store 23 x y) {g : Nat} {d : PayT} {n : Nat} (hx : a.eval x = .pointer (some ⟨g, 32, none⟩)) (hy : a.eval y = .int .u64 n) (hl : U64 n) (h : PayAt w g d)
    (hk : ∀ w2, PayAt w2 g { d with amount := n } → Touch (fun b => b = g) w w2 → wpList Try.prog ops Q rest (a.put o.dst undef) w2) : wpList Try.prog ops Q (o :: rest) a w :=
  wpl_set_one hgd 23 x y ho hx hy h.arr (by rw [payCs_length h.ok]; omega) u64Sz rfl rfl (fun w2 ha ht => hk w2 ⟨⟨h.ok.1, hl⟩, by
    rw [set_mid (A := bvs d.key) (B := []) (by simp [payCs] <;> rfl) (by simp [bvs_length, show d.key.length = 32 from h.ok.1])] at ha
    simpa [payCs] using ha⟩ ht)
end
end Go.Proofs.Ytbbfnpfkbbpjgaa

/- api.Wit: one field stored. -/
namespace Go.Proofs.Ytbbfnpfkbbpjgaa
open Go.RowKit Go.Lib
set_option linter.unusedVariables false
set_option linter.unusedSimpArgs false

section
variable {ops : Array Oper} {rest : List Oper} {o : Oper} {a : Act} {w w0 : World} {Q : Exit → Act → World → Prop} {K : Act → Prop}
theorem wpl_set_wit_key (hgd : o.guard = none) (x y : Operand) (ho : o.op = .store 27 x y) {g : Nat} {d : WitT} {l : List UInt8} (hx : a.eval x = .pointer (some ⟨g, 0, none⟩)) (hy : a.eval y = hv l) (hl : l.length = 32) (h : WitAt w g d)
    (hk : ∀ w2, WitAt w2 g { d with key := l } → Touch (fun b => b = g) w w2 → wpList Try.prog ops Q rest (a.put o.dst undef) w2) : wpList Try.prog ops Q (o :: rest) a w :=
  wpl_put_at hgd 27 x y ho hx hy h.arr (by rw [bvs_length, hl]; exact hashSz32) (by rw [witCs_length h.ok, bvs_length, hl]; omega) (fun v hv => List.all_eq_true.1 (bvs_one l) v hv) (witCs { d with key := l }) (by
    rw [put_mid (A := ([] : List Value)) (X := bvs d.key) (B := [.string d.sig]) (by simp [witCs]) (by simp [bvs_length]) (by rw [bvs_length, bvs_length, hl, show d.key.length = 32 from h.ok])]
    simp [witCs]) (fun w2 ha ht => hk w2 ⟨hl, ha⟩ ht)
theorem wpl_set_wit_sig (hgd : o.guard = none) (x y : Operand) (ho : o.op = .store 9 x y) {g : Nat} {d : WitT} {s : ByteArray} (hx : a.eval x = .pointer (some ⟨g, 32, none⟩)) (hy : a.eval y = .string s) (h : WitAt w g d)
    (hk : ∀ w2, WitAt w2 g { d with sig := s } → Touch (fun b => b = g) w w2 → wpList Try.prog ops Q rest (a.put o.dst undef) w2) : wpList Try.prog ops Q (o :: rest) a w :=
  wpl_set_one hgd 9 x y ho hx hy h.arr (by rw [witCs_length h.ok]; omega) strSz rfl rfl (fun w2 ha ht => hk w2 ⟨h.ok, by
    rw [set_mid (A := bvs d.key) (B := []) (by simp [witCs] <;> rfl) (by simp [bvs_length, show d.key.length = 32 from h.ok])] at ha
    simpa [witCs] using ha⟩ ht)
end
end Go.Proofs.Ytbbfnpfkbbpjgaa
