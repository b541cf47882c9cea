/- Deeds in memory: made, filled, handed back; deeds that are one's own. -/
import Derived.Test.YtbbfnpfkbbpjgaaGreatQCElCert
import Derived.Test.YtbbfnpfkbbpjgaaGreatQCBlkS
import Derived.Test.YtbbfnpfkbbpjgaaGreatQCMBase
import Derived.Test.YtbbfnpfkbbpjgaaGreatQCDeed4
namespace Go.Proofs.YtbbfnpfkbbpjgaaGreat
open Go.RowKit Go.Lib
set_option linter.unusedVariables false
set_option linter.unusedSimpArgs false
set_option maxRecDepth 100000
set_option maxHeartbeats 4000000
def nilS : Value := .slice none 0 0
theorem deedZero : (Tryz.prog.info? 29).bind (·.zero) = some (deedV nilS nilS nilS nilS nilS 0 0 0) := by kernel_rfl
theorem deedBuilt0 : Tryz.prog.built 29 [] = some (deedCs nilS nilS nilS nilS nilS 0 0 0).toArray := by kernel_rfl
section
variable {ops : Array Oper} {rest : List Oper} {o : Oper} {a : Act} {w w0 : World} {Q : Exit → Act → World → Prop} {K : Act → Prop} {v1 v2 v3 v4 v5 u1 u2 u3 u4 u5 : Value} {f s t i j k : Nat}
theorem q2w (hw : Region.wanted o (yielded ops a.tmps) = true) (ho : o.op = .alloc 29)
  (hk : ∀ w2 g, w.heap.size ≤ g → DAt w2 g nilS nilS nilS nilS nilS 0 0 0 → Below w.heap.size w w2 → wpList Tryz.prog ops Q rest (a.put o.dst (.pointer (some ⟨g, 0, none⟩))) w2) : wpList Tryz.prog ops Q (o :: rest) a w :=
 q4z hw 29 ho deedZero (cs := deedCs nilS nilS nilS nilS nilS 0 0 0) (by simp [deedV, Value.cells]) (fun w2 g hg h hb => hk w2 g hg ⟨rfl, rfl, rfl, rfl, rfl, h⟩ hb)
theorem q1z (hgd : o.guard = none) (x y : Operand) (ho : o.op = .store 29 x y) {g : Nat} (hx : a.eval x = .pointer (some ⟨g, 0, none⟩)) (hy : a.eval y = deedV v1 v2 v3 v4 v5 f s t) (o1 : v1.oneCell' = true) (o2 : v2.oneCell' = true) (o3 : v3.oneCell' = true) (o4 : v4.oneCell' = true) (o5 : v5.oneCell' = true) (h : DAt w g u1 u2 u3 u4 u5 i j k)
  (hk : ∀ w2, DAt w2 g v1 v2 v3 v4 v5 f s t → Touch (fun b => b = g) w w2 → wpList Tryz.prog ops Q rest (a.put o.dst undef) w2) : wpList Tryz.prog ops Q (o :: rest) a w :=
 q5o hgd 29 x y ho hx hy h.arr deedSize rfl (by
  intro v hv
  simp only [deedCs, List.mem_cons, List.not_mem_nil, or_false] at hv
  rcases hv with rfl | rfl | rfl | rfl | rfl | rfl | rfl | rfl <;> first | assumption | rfl) (fun w2 ha ht => hk w2 ⟨o1, o2, o3, o4, o5, ha⟩ ht)
theorem set1 {ty : TypeId} (hi : (Tryz.prog.info? ty).map (·.size) = some 1) (hgd : o.guard = none) (x y : Operand) (ho : o.op = .store ty x y) {g n : Nat} {v : Value} (hx : a.eval x = .pointer (some ⟨g, n, none⟩)) (hy : a.eval y = v) (h : DAt w g v1 v2 v3 v4 v5 f s t) (hn : n < 8) (hc : v.cells = #[v]) (hv : v.oneCell' = true)
  (hk : ∀ w2, Arr w2 g 29 ((deedCs v1 v2 v3 v4 v5 f s t).set n v) → Touch (fun b => b = g) w w2 → wpList Tryz.prog ops Q rest (a.put o.dst undef) w2) : wpList Tryz.prog ops Q (o :: rest) a w :=
 q0x hgd ty x y ho hx hy h.arr hn hi hc hv hk
theorem slSz1 : (Tryz.prog.info? 22).map (·.size) = some 1 := by kernel_rfl
theorem slSz2 : (Tryz.prog.info? 23).map (·.size) = some 1 := by kernel_rfl
theorem slSz3 : (Tryz.prog.info? 25).map (·.size) = some 1 := by kernel_rfl
theorem slSz4 : (Tryz.prog.info? 26).map (·.size) = some 1 := by kernel_rfl
theorem slSz5 : (Tryz.prog.info? 27).map (·.size) = some 1 := by kernel_rfl
theorem j7r (hgd : o.guard = none) (x y : Operand) (ho : o.op = .store 22 x y) {g : Nat} {v : Value} (hx : a.eval x = .pointer (some ⟨g, 0, none⟩)) (hy : a.eval y = v) (hc : v.cells = #[v]) (hv : v.oneCell' = true) (h : DAt w g v1 v2 v3 v4 v5 f s t)
  (hk : ∀ w2, DAt w2 g v v2 v3 v4 v5 f s t → Touch (fun b => b = g) w w2 → wpList Tryz.prog ops Q rest (a.put o.dst undef) w2) : wpList Tryz.prog ops Q (o :: rest) a w :=
 set1 slSz1 hgd x y ho hx hy h (by decide) hc hv (fun w2 ha ht => hk w2 ⟨hv, h.o2, h.o3, h.o4, h.o5, ha⟩ ht)
theorem j5a (hgd : o.guard = none) (x y : Operand) (ho : o.op = .store 23 x y) {g : Nat} {v : Value} (hx : a.eval x = .pointer (some ⟨g, 1, none⟩)) (hy : a.eval y = v) (hc : v.cells = #[v]) (hv : v.oneCell' = true) (h : DAt w g v1 v2 v3 v4 v5 f s t)
  (hk : ∀ w2, DAt w2 g v1 v v3 v4 v5 f s t → Touch (fun b => b = g) w w2 → wpList Tryz.prog ops Q rest (a.put o.dst undef) w2) : wpList Tryz.prog ops Q (o :: rest) a w :=
 set1 slSz2 hgd x y ho hx hy h (by decide) hc hv (fun w2 ha ht => hk w2 ⟨h.o1, hv, h.o3, h.o4, h.o5, ha⟩ ht)
theorem j3s (hgd : o.guard = none) (x y : Operand) (ho : o.op = .store 25 x y) {g : Nat} {v : Value} (hx : a.eval x = .pointer (some ⟨g, 5, none⟩)) (hy : a.eval y = v) (hc : v.cells = #[v]) (hv : v.oneCell' = true) (h : DAt w g v1 v2 v3 v4 v5 f s t)
  (hk : ∀ w2, DAt w2 g v1 v2 v v4 v5 f s t → Touch (fun b => b = g) w w2 → wpList Tryz.prog ops Q rest (a.put o.dst undef) w2) : wpList Tryz.prog ops Q (o :: rest) a w :=
 set1 slSz3 hgd x y ho hx hy h (by decide) hc hv (fun w2 ha ht => hk w2 ⟨h.o1, h.o2, hv, h.o4, h.o5, ha⟩ ht)
theorem j6a (hgd : o.guard = none) (x y : Operand) (ho : o.op = .store 26 x y) {g : Nat} {v : Value} (hx : a.eval x = .pointer (some ⟨g, 6, none⟩)) (hy : a.eval y = v) (hc : v.cells = #[v]) (hv : v.oneCell' = true) (h : DAt w g v1 v2 v3 v4 v5 f s t)
  (hk : ∀ w2, DAt w2 g v1 v2 v3 v v5 f s t → Touch (fun b => b = g) w w2 → wpList Tryz.prog ops Q rest (a.put o.dst undef) w2) : wpList Tryz.prog ops Q (o :: rest) a w :=
 set1 slSz4 hgd x y ho hx hy h (by decide) hc hv (fun w2 ha ht => hk w2 ⟨h.o1, h.o2, h.o3, hv, h.o5, ha⟩ ht)
theorem j6c (hgd : o.guard = none) (x y : Operand) (ho : o.op = .store 27 x y) {g : Nat} {v : Value} (hx : a.eval x = .pointer (some ⟨g, 7, none⟩)) (hy : a.eval y = v) (hc : v.cells = #[v]) (hv : v.oneCell' = true) (h : DAt w g v1 v2 v3 v4 v5 f s t)
  (hk : ∀ w2, DAt w2 g v1 v2 v3 v4 v f s t → Touch (fun b => b = g) w w2 → wpList Tryz.prog ops Q rest (a.put o.dst undef) w2) : wpList Tryz.prog ops Q (o :: rest) a w :=
 set1 slSz5 hgd x y ho hx hy h (by decide) hc hv (fun w2 ha ht => hk w2 ⟨h.o1, h.o2, h.o3, h.o4, hv, ha⟩ ht)
theorem j6v (hgd : o.guard = none) (x y : Operand) (ho : o.op = .store 24 x y) {g n : Nat} (hx : a.eval x = .pointer (some ⟨g, 2, none⟩)) (hy : a.eval y = .int .u64 n) (h : DAt w g v1 v2 v3 v4 v5 f s t)
  (hk : ∀ w2, DAt w2 g v1 v2 v3 v4 v5 n s t → Touch (fun b => b = g) w w2 → wpList Tryz.prog ops Q rest (a.put o.dst undef) w2) : wpList Tryz.prog ops Q (o :: rest) a w :=
 set1 u64Sz hgd x y ho hx hy h (by decide) rfl rfl (fun w2 ha ht => hk w2 ⟨h.o1, h.o2, h.o3, h.o4, h.o5, ha⟩ ht)
theorem j6g (hgd : o.guard = none) (x y : Operand) (ho : o.op = .store 24 x y) {g n : Nat} (hx : a.eval x = .pointer (some ⟨g, 3, none⟩)) (hy : a.eval y = .int .u64 n) (h : DAt w g v1 v2 v3 v4 v5 f s t)
  (hk : ∀ w2, DAt w2 g v1 v2 v3 v4 v5 f n t → Touch (fun b => b = g) w w2 → wpList Tryz.prog ops Q rest (a.put o.dst undef) w2) : wpList Tryz.prog ops Q (o :: rest) a w :=
 set1 u64Sz hgd x y ho hx hy h (by decide) rfl rfl (fun w2 ha ht => hk w2 ⟨h.o1, h.o2, h.o3, h.o4, h.o5, ha⟩ ht)
theorem j6k (hgd : o.guard = none) (x y : Operand) (ho : o.op = .store 24 x y) {g n : Nat} (hx : a.eval x = .pointer (some ⟨g, 4, none⟩)) (hy : a.eval y = .int .u64 n) (h : DAt w g v1 v2 v3 v4 v5 f s t)
  (hk : ∀ w2, DAt w2 g v1 v2 v3 v4 v5 f s n → Touch (fun b => b = g) w w2 → wpList Tryz.prog ops Q rest (a.put o.dst undef) w2) : wpList Tryz.prog ops Q (o :: rest) a w :=
 set1 u64Sz hgd x y ho hx hy h (by decide) rfl rfl (fun w2 ha ht => hk w2 ⟨h.o1, h.o2, h.o3, h.o4, h.o5, ha⟩ ht)
end
theorem q6t {fn : Func} {q u : Tmp} (hr : fn.results = #[.cell q 29, .tmp u]) (tmps : Array Value) (w : World) {g : Nat} {v1 v2 v3 v4 v5 : Value} {f s t : Nat} (v : Value) (hp : tmps.getD q undef = .pointer (some ⟨g, 0, none⟩)) (hu : tmps.getD u undef = v) (h : DAt w g v1 v2 v3 v4 v5 f s t) :
  (results fn tmps).run Tryz.prog w = .ok (.tuple #[deedV v1 v2 v3 v4 v5 f s t, v]) w :=
 q6h hr tmps w g 29 (deedCs v1 v2 v3 v4 v5 f s t).toArray (0, 0) _ v hp hu h.arr Tryz.underlying29 rfl deedSize
/-- A deed whose parts are one's own, from B on. -/
def DeedOwn (w : World) (B : Nat) (v : Value) (d : Deed) : Prop := ∃ v1 v2 v3 v4 v5, v = deedV v1 v2 v3 v4 v5 d.fee d.frm d.til ∧ OwnR w B 80 33 v1 (d.ins.map inCs) [] ∧ OwnR w B 84 65 v2 (d.outs.map outCs) [] ∧ OwnR w B 87 68 v3 (d.certs.map certCs) [] ∧ OwnR w B 89 33 v4 (d.pays.map payCs) [] ∧ OwnR w B 74 33 v5 (d.wits.map witCs) [] ∧ d.Ok
theorem DeedOwn.is {w : World} {B : Nat} {v : Value} {d : Deed} (h : DeedOwn w B v d) : DeedIs w v d := by
 obtain ⟨v1, v2, v3, v4, v5, h0, h1, h2, h3, h4, h5, h6⟩ := h
 exact ⟨v1, v2, v3, v4, v5, h0, h1.sl, h2.sl, h3.sl, h4.sl, h5.sl, h6⟩
theorem DeedOwn.later {w w' : World} {B : Nat} {v : Value} {d : Deed} (h : DeedOwn w B v d) (hb : Below w.heap.size w w') : DeedOwn w' B v d := by
 obtain ⟨v1, v2, v3, v4, v5, h0, h1, h2, h3, h4, h5, h6⟩ := h
 exact ⟨v1, v2, v3, v4, v5, h0, h1.later hb, h2.later hb, h3.later hb, h4.later hb, h5.later hb, h6⟩
theorem DeedOwn.tt {w w' : World} {B g : Nat} {v : Value} {d : Deed} (h : DeedOwn w B v d) (ht : Touch (fun b => b = g) w w') (hg : g < B) : DeedOwn w' B v d := by
 obtain ⟨v1, v2, v3, v4, v5, h0, h1, h2, h3, h4, h5, h6⟩ := h
 exact ⟨v1, v2, v3, v4, v5, h0, h1.tg ht hg, h2.tg ht hg, h3.tg ht hg, h4.tg ht hg, h5.tg ht hg, h6⟩
theorem DeedOwn.nil (w : World) (B : Nat) : DeedOwn w B (deedV nilS nilS nilS nilS nilS 0 0 0) deed0 := ⟨nilS, nilS, nilS, nilS, nilS, rfl, OwnR.nil _ _ _ _, OwnR.nil _ _ _ _, OwnR.nil _ _ _ _, OwnR.nil _ _ _ _, OwnR.nil _ _ _ _, x9l⟩
theorem DeedIs.ok {w : World} {v : Value} {d : Deed} (h : DeedIs w v d) : d.Ok := by obtain ⟨_, _, _, _, _, _, _, _, _, _, _, ok⟩ := h; exact ok
theorem q4t {P : Program} {ops : Array Oper} {rest : List Oper} {o : Oper} {a : Act} {w : World} {Q : Exit → Act → World → Prop} (hw : Region.wanted o (yielded ops a.tmps) = true) {t u : TypeId} (x y : Operand) (ho : o.op = .binOp .eql t x y u) {k : IntKind} {m n : Int} (hx : a.eval x = .int k m) (hy : a.eval y = .int k n) {B : Bool} (hB : (m == n) = B) (hk : wpList P ops Q rest (a.put o.dst (.bool B)) w) : wpList P ops Q (o :: rest) a w :=
 q3v hw _ (by
  unfold execOp
  simp only [ho, hx, hy, Sem.run_bind]
  subst hB
  simp [eqGuard, binOp, Op.intCmp]) hk
theorem q3y {ops : Array Oper} {rest : List Oper} {o : Oper} {a : Act} {w : World} {Q : Exit → Act → World → Prop} (hw : Region.wanted o (yielded ops a.tmps) = true) (x y : Operand) (ho : o.op = .binOp .eql 34 x y 34) {k l : List UInt8} (hx : a.eval x = hv k) (hy : a.eval y = hv l) (h1 : k.length = 32) (h2 : l.length = 32) {B : Bool} (hB : decide (k = l) = B) (hk : wpList Tryz.prog ops Q rest (a.put o.dst (.bool B)) w) : wpList Tryz.prog ops Q (o :: rest) a w :=
 q3v hw _ (by
  rw [← hB]
  exact j9n 34 x y ho hx hy (by kernel_rfl) (fun w => q2i 9998 k l h1 h2 w) w) hk
theorem refCertK (k : Nat) (key pool : List UInt8) (x y z : Nat) (w : World) (hc : CertT.Ok ⟨k, key, pool, x, y, z⟩) (K0 P0 X0 Y0 Z0 X1 Y1 Z1 : Bool) (h1 : decide (key = zero32) = K0) (h2 : decide (pool = zero32) = P0) (h3 : ((x : Int) == 0) = X0) (h4 : ((y : Int) == 0) = Y0) (h5 : ((z : Int) == 0) = Z0) (h6 : decide ((x : Int) ≤ 9223372036854775807) = X1) (h7 : decide ((y : Int) ≤ 9223372036854775807) = Y1) (h8 : decide ((z : Int) ≤ 1000) = Z1) :
  Calls Tryz.prog 52 #[certV ⟨k, key, pool, x, y, z⟩] w fun e w' => e = .returned (.bool (if k = 1 ∨ k = 2 then P0 && (X0 && (Y0 && Z0)) else if k = 3 then X0 && (Y0 && Z0) else if k = 4 then X1 && (Y1 && Z1) else if k = 5 then K0 && (Y0 && Z0) else if k = 6 then K0 && Z0 else false)) ∧ Below w.heap.size w w' := by
 have HX := hide hc
 have HK : Hid (key.length = 32) := hc.2.1
 have HL : Hid (pool.length = 32) := hc.2.2.1
 have H0 : Hid (zero32.length = 32) := rfl
 have H1 := hide h1
 have H2 := hide h2
 have H3 := hide h3
 have H4 := hide h4
 have H5 := hide h5
 have H6 := hide h6
 have H7 := hide h7
 have H8 := hide h8
 have b := Below.refl w.heap.size w
 clear hc h1 h2 h3 h4 h5 h6 h7 h8
 have mF1 := True.intro
 have mF2 := True.intro
 by_cases k1 : k = 1
 ·subst k1
  rw [if_pos (by decide)]
  cases P0 <;> cases X0 <;> cases Y0
  all_goals
   go_enter Tryz.func52, Tryz.ntmps52
   go_wp2_with (first | (with_reducible refine w2g ?_; clear mF1; refine q1r rfl _ rfl rfl HX.out ?_; intro _ g1 hg1 F1 hb; (try have := F1.lt); (try have := F2.lt); (try have := z.lt); (try have := b.size); (try replace b := later b hb); clear hb) | ((with_reducible refine w5g ?_); refine q1i rfl 34 rfl (cs := bvs zero32) hashBuilt ?_) | (with_reducible refine w3g ?_; clear mF2; refine q0j rfl rfl ?_; intro _ g3 hg3 F2 hb; (try have := F1.lt); (try have := F2.lt); (try have := z.lt); (try have := b.size); (try replace F1 := F1.later hb); (try replace b := later b hb); clear hb) | (with_reducible refine w4g ?_; refine q0g rfl _ _ rfl rfl rfl H0.out F2 ?_; intro _ t1 ht; (try replace F1 := F1.tt ht); (try replace b := q0b b ht (by omega) (by omega)); replace F2 := t1; clear ht) | (with_reducible refine w0g ?_; refine q0a rfl 5 _ rfl rfl (CertAt.kind F1) (by kernel_rfl) ?_) | (with_reducible refine w0g ?_; refine q0i rfl _ rfl rfl ((CertAt.key F1)) (HK.out) ?_) | (with_reducible refine w0g ?_; refine q0i rfl _ rfl rfl ((CertAt.pool F1)) (HL.out) ?_) | (with_reducible refine w0g ?_; refine q0w rfl _ rfl rfl F2 ?_) | (with_reducible refine w8g ?_; first | refine q3y rfl _ _ rfl rfl rfl HK.out H0.out H1.out ?_ | refine q3y rfl _ _ rfl rfl rfl HL.out H0.out H2.out ?_) | (with_reducible refine w0g ?_; refine q0a rfl 24 _ rfl rfl (CertAt.a F1) (by kernel_rfl) ?_) | (with_reducible refine w0g ?_; refine q0a rfl 24 _ rfl rfl (CertAt.b F1) (by kernel_rfl) ?_) | (with_reducible refine w0g ?_; refine q0a rfl 24 _ rfl rfl (CertAt.c F1) (by kernel_rfl) ?_) | (with_reducible refine w8g ?_; first | refine q4t rfl _ _ rfl rfl rfl H3.out ?_ | refine q4t rfl _ _ rfl rfl rfl H4.out ?_ | refine q4t rfl _ _ rfl rfl rfl H5.out ?_))
   go_ret
   exact ⟨rfl, b⟩
 ·by_cases k2 : k = 2
  ·subst k2
   rw [if_pos (by decide)]
   cases P0 <;> cases X0 <;> cases Y0
   all_goals
    go_enter Tryz.func52, Tryz.ntmps52
    go_wp2_with (first | (with_reducible refine w2g ?_; clear mF1; refine q1r rfl _ rfl rfl HX.out ?_; intro _ g1 hg1 F1 hb; (try have := F1.lt); (try have := F2.lt); (try have := z.lt); (try have := b.size); (try replace b := later b hb); clear hb) | ((with_reducible refine w5g ?_); refine q1i rfl 34 rfl (cs := bvs zero32) hashBuilt ?_) | (with_reducible refine w3g ?_; clear mF2; refine q0j rfl rfl ?_; intro _ g3 hg3 F2 hb; (try have := F1.lt); (try have := F2.lt); (try have := z.lt); (try have := b.size); (try replace F1 := F1.later hb); (try replace b := later b hb); clear hb) | (with_reducible refine w4g ?_; refine q0g rfl _ _ rfl rfl rfl H0.out F2 ?_; intro _ t1 ht; (try replace F1 := F1.tt ht); (try replace b := q0b b ht (by omega) (by omega)); replace F2 := t1; clear ht) | (with_reducible refine w0g ?_; refine q0a rfl 5 _ rfl rfl (CertAt.kind F1) (by kernel_rfl) ?_) | (with_reducible refine w0g ?_; refine q0i rfl _ rfl rfl ((CertAt.key F1)) (HK.out) ?_) | (with_reducible refine w0g ?_; refine q0i rfl _ rfl rfl ((CertAt.pool F1)) (HL.out) ?_) | (with_reducible refine w0g ?_; refine q0w rfl _ rfl rfl F2 ?_) | (with_reducible refine w8g ?_; first | refine q3y rfl _ _ rfl rfl rfl HK.out H0.out H1.out ?_ | refine q3y rfl _ _ rfl rfl rfl HL.out H0.out H2.out ?_) | (with_reducible refine w0g ?_; refine q0a rfl 24 _ rfl rfl (CertAt.a F1) (by kernel_rfl) ?_) | (with_reducible refine w0g ?_; refine q0a rfl 24 _ rfl rfl (CertAt.b F1) (by kernel_rfl) ?_) | (with_reducible refine w0g ?_; refine q0a rfl 24 _ rfl rfl (CertAt.c F1) (by kernel_rfl) ?_) | (with_reducible refine w8g ?_; first | refine q4t rfl _ _ rfl rfl rfl H3.out ?_ | refine q4t rfl _ _ rfl rfl rfl H4.out ?_ | refine q4t rfl _ _ rfl rfl rfl H5.out ?_))
    go_ret
    exact ⟨rfl, b⟩
  ·rw [if_neg (fun h => h.elim k1 k2)]
   by_cases k3 : k = 3
   ·subst k3
    rw [if_pos rfl]
    cases X0 <;> cases Y0
    all_goals
     go_enter Tryz.func52, Tryz.ntmps52
     go_wp2_with (first | (with_reducible refine w2g ?_; clear mF1; refine q1r rfl _ rfl rfl HX.out ?_; intro _ g1 hg1 F1 hb; (try have := F1.lt); (try have := F2.lt); (try have := z.lt); (try have := b.size); (try replace b := later b hb); clear hb) | ((with_reducible refine w5g ?_); refine q1i rfl 34 rfl (cs := bvs zero32) hashBuilt ?_) | (with_reducible refine w3g ?_; clear mF2; refine q0j rfl rfl ?_; intro _ g3 hg3 F2 hb; (try have := F1.lt); (try have := F2.lt); (try have := z.lt); (try have := b.size); (try replace F1 := F1.later hb); (try replace b := later b hb); clear hb) | (with_reducible refine w4g ?_; refine q0g rfl _ _ rfl rfl rfl H0.out F2 ?_; intro _ t1 ht; (try replace F1 := F1.tt ht); (try replace b := q0b b ht (by omega) (by omega)); replace F2 := t1; clear ht) | (with_reducible refine w0g ?_; refine q0a rfl 5 _ rfl rfl (CertAt.kind F1) (by kernel_rfl) ?_) | (with_reducible refine w0g ?_; refine q0i rfl _ rfl rfl ((CertAt.key F1)) (HK.out) ?_) | (with_reducible refine w0g ?_; refine q0i rfl _ rfl rfl ((CertAt.pool F1)) (HL.out) ?_) | (with_reducible refine w0g ?_; refine q0w rfl _ rfl rfl F2 ?_) | (with_reducible refine w8g ?_; first | refine q3y rfl _ _ rfl rfl rfl HK.out H0.out H1.out ?_ | refine q3y rfl _ _ rfl rfl rfl HL.out H0.out H2.out ?_) | (with_reducible refine w0g ?_; refine q0a rfl 24 _ rfl rfl (CertAt.a F1) (by kernel_rfl) ?_) | (with_reducible refine w0g ?_; refine q0a rfl 24 _ rfl rfl (CertAt.b F1) (by kernel_rfl) ?_) | (with_reducible refine w0g ?_; refine q0a rfl 24 _ rfl rfl (CertAt.c F1) (by kernel_rfl) ?_) | (with_reducible refine w8g ?_; first | refine q4t rfl _ _ rfl rfl rfl H3.out ?_ | refine q4t rfl _ _ rfl rfl rfl H4.out ?_ | refine q4t rfl _ _ rfl rfl rfl H5.out ?_))
     go_ret
     exact ⟨rfl, b⟩
   ·rw [if_neg k3]
    by_cases k4 : k = 4
    ·subst k4
     rw [if_pos rfl]
     cases X1 <;> cases Y1
     all_goals
      go_enter Tryz.func52, Tryz.ntmps52
      go_wp2_with (first | (with_reducible refine w2g ?_; clear mF1; refine q1r rfl _ rfl rfl HX.out ?_; intro _ g1 hg1 F1 hb; (try have := F1.lt); (try have := F2.lt); (try have := z.lt); (try have := b.size); (try replace b := later b hb); clear hb) | ((with_reducible refine w5g ?_); refine q1i rfl 34 rfl (cs := bvs zero32) hashBuilt ?_) | (with_reducible refine w3g ?_; clear mF2; refine q0j rfl rfl ?_; intro _ g3 hg3 F2 hb; (try have := F1.lt); (try have := F2.lt); (try have := z.lt); (try have := b.size); (try replace F1 := F1.later hb); (try replace b := later b hb); clear hb) | (with_reducible refine w4g ?_; refine q0g rfl _ _ rfl rfl rfl H0.out F2 ?_; intro _ t1 ht; (try replace F1 := F1.tt ht); (try replace b := q0b b ht (by omega) (by omega)); replace F2 := t1; clear ht) | (with_reducible refine w0g ?_; refine q0a rfl 5 _ rfl rfl (CertAt.kind F1) (by kernel_rfl) ?_) | (with_reducible refine w0g ?_; refine q0i rfl _ rfl rfl ((CertAt.key F1)) (HK.out) ?_) | (with_reducible refine w0g ?_; refine q0i rfl _ rfl rfl ((CertAt.pool F1)) (HL.out) ?_) | (with_reducible refine w0g ?_; refine q0w rfl _ rfl rfl F2 ?_) | (with_reducible refine w8g ?_; first | refine q3y rfl _ _ rfl rfl rfl HK.out H0.out H1.out ?_ | refine q3y rfl _ _ rfl rfl rfl HL.out H0.out H2.out ?_) | (with_reducible refine w0g ?_; refine q0a rfl 24 _ rfl rfl (CertAt.a F1) (by kernel_rfl) ?_) | (with_reducible refine w0g ?_; refine q0a rfl 24 _ rfl rfl (CertAt.b F1) (by kernel_rfl) ?_) | (with_reducible refine w0g ?_; refine q0a rfl 24 _ rfl rfl (CertAt.c F1) (by kernel_rfl) ?_) | (with_reducible refine w8g ?_; first | refine q9j rfl _ _ rfl rfl rfl H6.out ?_ | refine q9j rfl _ _ rfl rfl rfl H7.out ?_ | refine q9j rfl _ _ rfl rfl rfl H8.out ?_))
      go_ret
      exact ⟨rfl, b⟩
    ·rw [if_neg k4]
     by_cases k5 : k = 5
     ·subst k5
      rw [if_pos rfl]
      cases K0 <;> cases Y0
      all_goals
       go_enter Tryz.func52, Tryz.ntmps52
       go_wp2_with (first | (with_reducible refine w2g ?_; clear mF1; refine q1r rfl _ rfl rfl HX.out ?_; intro _ g1 hg1 F1 hb; (try have := F1.lt); (try have := F2.lt); (try have := z.lt); (try have := b.size); (try replace b := later b hb); clear hb) | ((with_reducible refine w5g ?_); refine q1i rfl 34 rfl (cs := bvs zero32) hashBuilt ?_) | (with_reducible refine w3g ?_; clear mF2; refine q0j rfl rfl ?_; intro _ g3 hg3 F2 hb; (try have := F1.lt); (try have := F2.lt); (try have := z.lt); (try have := b.size); (try replace F1 := F1.later hb); (try replace b := later b hb); clear hb) | (with_reducible refine w4g ?_; refine q0g rfl _ _ rfl rfl rfl H0.out F2 ?_; intro _ t1 ht; (try replace F1 := F1.tt ht); (try replace b := q0b b ht (by omega) (by omega)); replace F2 := t1; clear ht) | (with_reducible refine w0g ?_; refine q0a rfl 5 _ rfl rfl (CertAt.kind F1) (by kernel_rfl) ?_) | (with_reducible refine w0g ?_; refine q0i rfl _ rfl rfl ((CertAt.key F1)) (HK.out) ?_) | (with_reducible refine w0g ?_; refine q0i rfl _ rfl rfl ((CertAt.pool F1)) (HL.out) ?_) | (with_reducible refine w0g ?_; refine q0w rfl _ rfl rfl F2 ?_) | (with_reducible refine w8g ?_; first | refine q3y rfl _ _ rfl rfl rfl HK.out H0.out H1.out ?_ | refine q3y rfl _ _ rfl rfl rfl HL.out H0.out H2.out ?_) | (with_reducible refine w0g ?_; refine q0a rfl 24 _ rfl rfl (CertAt.b F1) (by kernel_rfl) ?_) | (with_reducible refine w0g ?_; refine q0a rfl 24 _ rfl rfl (CertAt.c F1) (by kernel_rfl) ?_) | (with_reducible refine w8g ?_; first | refine q4t rfl _ _ rfl rfl rfl H4.out ?_ | refine q4t rfl _ _ rfl rfl rfl H5.out ?_))
       go_ret
       exact ⟨rfl, b⟩
     ·rw [if_neg k5]
      by_cases k6 : k = 6
      ·subst k6
       rw [if_pos rfl]
       cases K0
       all_goals
        go_enter Tryz.func52, Tryz.ntmps52
        go_wp2_with (first | (with_reducible refine w2g ?_; clear mF1; refine q1r rfl _ rfl rfl HX.out ?_; intro _ g1 hg1 F1 hb; (try have := F1.lt); (try have := F2.lt); (try have := z.lt); (try have := b.size); (try replace b := later b hb); clear hb) | ((with_reducible refine w5g ?_); refine q1i rfl 34 rfl (cs := bvs zero32) hashBuilt ?_) | (with_reducible refine w3g ?_; clear mF2; refine q0j rfl rfl ?_; intro _ g3 hg3 F2 hb; (try have := F1.lt); (try have := F2.lt); (try have := z.lt); (try have := b.size); (try replace F1 := F1.later hb); (try replace b := later b hb); clear hb) | (with_reducible refine w4g ?_; refine q0g rfl _ _ rfl rfl rfl H0.out F2 ?_; intro _ t1 ht; (try replace F1 := F1.tt ht); (try replace b := q0b b ht (by omega) (by omega)); replace F2 := t1; clear ht) | (with_reducible refine w0g ?_; refine q0a rfl 5 _ rfl rfl (CertAt.kind F1) (by kernel_rfl) ?_) | (with_reducible refine w0g ?_; refine q0i rfl _ rfl rfl ((CertAt.key F1)) (HK.out) ?_) | (with_reducible refine w0g ?_; refine q0i rfl _ rfl rfl ((CertAt.pool F1)) (HL.out) ?_) | (with_reducible refine w0g ?_; refine q0w rfl _ rfl rfl F2 ?_) | (with_reducible refine w8g ?_; first | refine q3y rfl _ _ rfl rfl rfl HK.out H0.out H1.out ?_ | refine q3y rfl _ _ rfl rfl rfl HL.out H0.out H2.out ?_) | (with_reducible refine w0g ?_; refine q0a rfl 24 _ rfl rfl (CertAt.c F1) (by kernel_rfl) ?_) | (with_reducible refine w8g ?_; first | refine q4t rfl _ _ rfl rfl rfl H5.out ?_))
        go_ret
        exact ⟨rfl, b⟩
      ·rw [if_neg k6]
       have e1 : ((k : Int) == 1) = false := by rw [beq_eq_false_iff_ne]; omega
       have e2 : ((k : Int) == 2) = false := by rw [beq_eq_false_iff_ne]; omega
       have e3 : ((k : Int) == 3) = false := by rw [beq_eq_false_iff_ne]; omega
       have e4 : ((k : Int) == 4) = false := by rw [beq_eq_false_iff_ne]; omega
       have e5 : ((k : Int) == 5) = false := by rw [beq_eq_false_iff_ne]; omega
       have e6 : ((k : Int) == 6) = false := by rw [beq_eq_false_iff_ne]; omega
       clear k1 k2 k3 k4 k5 k6
       go_enter Tryz.func52, Tryz.ntmps52
       go_wp2_with (first | (with_reducible refine w2g ?_; clear mF1; refine q1r rfl _ rfl rfl HX.out ?_; intro _ g1 hg1 F1 hb; (try have := F1.lt); (try have := F2.lt); (try have := z.lt); (try have := b.size); (try replace b := later b hb); clear hb) | ((with_reducible refine w5g ?_); refine q1i rfl 34 rfl (cs := bvs zero32) hashBuilt ?_) | (with_reducible refine w3g ?_; clear mF2; refine q0j rfl rfl ?_; intro _ g3 hg3 F2 hb; (try have := F1.lt); (try have := F2.lt); (try have := z.lt); (try have := b.size); (try replace F1 := F1.later hb); (try replace b := later b hb); clear hb) | (with_reducible refine w4g ?_; refine q0g rfl _ _ rfl rfl rfl H0.out F2 ?_; intro _ t1 ht; (try replace F1 := F1.tt ht); (try replace b := q0b b ht (by omega) (by omega)); replace F2 := t1; clear ht) | (with_reducible refine w0g ?_; refine q0a rfl 5 _ rfl rfl (CertAt.kind F1) (by kernel_rfl) ?_) | (with_reducible refine w0g ?_; refine q0i rfl _ rfl rfl ((CertAt.key F1)) (HK.out) ?_) | (with_reducible refine w0g ?_; refine q0i rfl _ rfl rfl ((CertAt.pool F1)) (HL.out) ?_) | (with_reducible refine w0g ?_; refine q0w rfl _ rfl rfl F2 ?_) | (with_reducible refine w8g ?_; first | refine q3y rfl _ _ rfl rfl rfl HK.out H0.out H1.out ?_ | refine q3y rfl _ _ rfl rfl rfl HL.out H0.out H2.out ?_))
       go_ret
       exact ⟨rfl, b⟩
theorem j9s (c : CertT) (w : World) (hc : c.Ok) : Calls Tryz.prog 52 #[certV c] w fun e w' => e = .returned (.bool (certB c)) ∧ Below w.heap.size w w' := by
 obtain ⟨k, key, pool, x, y, z⟩ := c
 have e6 : decide ((x : Int) ≤ 9223372036854775807) = decide (x < 9223372036854775808) := decide_eq_decide.2 (by omega)
 have e7 : decide ((y : Int) ≤ 9223372036854775807) = decide (y < 9223372036854775808) := decide_eq_decide.2 (by omega)
 have e8 : decide ((z : Int) ≤ 1000) = decide (z ≤ 1000) := decide_eq_decide.2 (by omega)
 exact refCertK k key pool x y z w hc _ _ _ _ _ _ _ _ rfl rfl (q3a x 0) (q3a y 0) (q3a z 0) e6 e7 e8
end Go.Proofs.YtbbfnpfkbbpjgaaGreat
