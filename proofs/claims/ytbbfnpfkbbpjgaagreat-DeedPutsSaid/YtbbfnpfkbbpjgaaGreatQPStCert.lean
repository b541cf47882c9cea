/- api.Cert: one field stored. -/
import Derived.Test.YtbbfnpfkbbpjgaaGreatQPElCert
import Derived.Test.YtbbfnpfkbbpjgaaGreatQPElBase
namespace Go.Proofs.YtbbfnpfkbbpjgaaGreat
open Go.RowKit Go.Lib
set_option linter.unusedVariables false
set_option linter.unusedSimpArgs false

section
variable {ops : Array Oper} {rest : List Oper} {o : Oper} {a : Act} {w w0 : World} {Q : Exit → Act → World → Prop} {K : Act → Prop}
theorem wpl_set_cert_key (hgd : o.guard = none) (x y : Operand) (ho : o.op = .store 34 x y) {g : Nat} {d : CertT} {l : List UInt8} (hx : a.eval x = .pointer (some ⟨g, 1, none⟩)) (hy : a.eval y = hv l) (hl : l.length = 32) (h : CertAt w g d)
    (hk : ∀ w2, CertAt w2 g { d with key := l } → Touch (fun b => b = g) w w2 → wpList Tryz.prog ops Q rest (a.put o.dst undef) w2) : wpList Tryz.prog ops Q (o :: rest) a w :=
  wpl_put_at hgd 34 x y ho hx hy h.arr (by rw [bvs_length, hl]; exact hashSz32) (by rw [certCs_length h.ok, bvs_length, hl]; omega) (fun v hv => List.all_eq_true.1 (bvs_one l) v hv) (certCs { d with key := l }) (by
    rw [put_mid (A := [.int .u8 d.kind]) (X := bvs d.key) (B := bvs d.pool ++ (.int .u64 d.a :: (.int .u64 d.b :: ([.int .u64 d.c])))) (by simp [certCs]) (by simp [bvs_length]) (by rw [bvs_length, bvs_length, hl, show d.key.length = 32 from h.ok.2.1])]
    simp [certCs]) (fun w2 ha ht => hk w2 ⟨⟨h.ok.1, hl, h.ok.2.2.1, h.ok.2.2.2.1, h.ok.2.2.2.2.1, h.ok.2.2.2.2.2⟩, ha⟩ ht)
theorem wpl_set_cert_pool (hgd : o.guard = none) (x y : Operand) (ho : o.op = .store 34 x y) {g : Nat} {d : CertT} {l : List UInt8} (hx : a.eval x = .pointer (some ⟨g, 33, none⟩)) (hy : a.eval y = hv l) (hl : l.length = 32) (h : CertAt w g d)
    (hk : ∀ w2, CertAt w2 g { d with pool := l } → Touch (fun b => b = g) w w2 → wpList Tryz.prog ops Q rest (a.put o.dst undef) w2) : wpList Tryz.prog ops Q (o :: rest) a w :=
  wpl_put_at hgd 34 x y ho hx hy h.arr (by rw [bvs_length, hl]; exact hashSz32) (by rw [certCs_length h.ok, bvs_length, hl]; omega) (fun v hv => List.all_eq_true.1 (bvs_one l) v hv) (certCs { d with pool := l }) (by
    rw [put_mid (A := [.int .u8 d.kind] ++ bvs d.key) (X := bvs d.pool) (B := .int .u64 d.a :: (.int .u64 d.b :: ([.int .u64 d.c]))) (by simp [certCs]) (by simp [bvs_length, show d.key.length = 32 from h.ok.2.1]) (by rw [bvs_length, bvs_length, hl, show d.pool.length = 32 from h.ok.2.2.1])]
    simp [certCs]) (fun w2 ha ht => hk w2 ⟨⟨h.ok.1, h.ok.2.1, hl, h.ok.2.2.2.1, h.ok.2.2.2.2.1, h.ok.2.2.2.2.2⟩, ha⟩ ht)
theorem wpl_set_cert_a (hgd : o.guard = none) (x y : Operand) (ho : o.op = .store 24 x y) {g : Nat} {d : CertT} {n : Nat} (hx : a.eval x = .pointer (some ⟨g, 65, none⟩)) (hy : a.eval y = .int .u64 n) (hl : U64 n) (h : CertAt w g d)
    (hk : ∀ w2, CertAt w2 g { d with a := n } → Touch (fun b => b = g) w w2 → wpList Tryz.prog ops Q rest (a.put o.dst undef) w2) : wpList Tryz.prog ops Q (o :: rest) a w :=
  wpl_set_one hgd 24 x y ho hx hy h.arr (by rw [certCs_length h.ok]; omega) u64Sz rfl rfl (fun w2 ha ht => hk w2 ⟨⟨h.ok.1, h.ok.2.1, h.ok.2.2.1, hl, h.ok.2.2.2.2.1, h.ok.2.2.2.2.2⟩, by
    rw [set_mid (A := [.int .u8 d.kind] ++ bvs d.key ++ bvs d.pool) (B := .int .u64 d.b :: ([.int .u64 d.c])) (by simp [certCs] <;> rfl) (by simp [bvs_length, show d.key.length = 32 from h.ok.2.1, show d.pool.length = 32 from h.ok.2.2.1])] at ha
    simpa [certCs] using ha⟩ ht)
theorem wpl_set_cert_b (hgd : o.guard = none) (x y : Operand) (ho : o.op = .store 24 x y) {g : Nat} {d : CertT} {n : Nat} (hx : a.eval x = .pointer (some ⟨g, 66, none⟩)) (hy : a.eval y = .int .u64 n) (hl : U64 n) (h : CertAt w g d)
    (hk : ∀ w2, CertAt w2 g { d with b := n } → Touch (fun b => b = g) w w2 → wpList Tryz.prog ops Q rest (a.put o.dst undef) w2) : wpList Tryz.prog ops Q (o :: rest) a w :=
  wpl_set_one hgd 24 x y ho hx hy h.arr (by rw [certCs_length h.ok]; omega) u64Sz rfl rfl (fun w2 ha ht => hk w2 ⟨⟨h.ok.1, h.ok.2.1, h.ok.2.2.1, h.ok.2.2.2.1, hl, h.ok.2.2.2.2.2⟩, by
    rw [set_mid (A := [.int .u8 d.kind] ++ bvs d.key ++ bvs d.pool ++ [.int .u64 d.a]) (B := [.int .u64 d.c]) (by simp [certCs] <;> rfl) (by simp [bvs_length, show d.key.length = 32 from h.ok.2.1, show d.pool.length = 32 from h.ok.2.2.1])] at ha
    simpa [certCs] using ha⟩ ht)
end
end Go.Proofs.YtbbfnpfkbbpjgaaGreat
