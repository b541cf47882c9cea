/- deed.body. -/
import Derived.Test.YtbbfnpfkbbpjgaaGreatQHHd7
import Derived.Test.YtbbfnpfkbbpjgaaGreatQHElCert
namespace Go.Proofs.YtbbfnpfkbbpjgaaGreat
open Go.RowKit Go.Lib
set_option linter.unusedVariables false
set_option linter.unusedSimpArgs false
set_option maxRecDepth 100000
set_option maxHeartbeats 4000000
theorem q3m {α : Type} (f : α → List UInt8) (l : List α) (k : Nat) (x : α) (h : l[k]? = some x) : (l.take (k + 1)).flatMap f = (l.take k).flatMap f ++ f x := by
 obtain ⟨hk, rfl⟩ := List.getElem?_eq_some_iff.1 h
 rw [List.take_succ_eq_append_getElem hk, List.flatMap_append]
 simp
theorem q3g {α : Type} (f : α → List UInt8) : ∀ (l : List α) (c : Nat), (∀ x ∈ l, (f x).length ≤ c) → (l.flatMap f).length ≤ l.length * c
 | [], _, _ => by simp
 | x :: l, c, h => by
  have h1 := h x (by simp)
  have h2 := q3g f l c (fun y hy => h y (by simp [hy]))
  rw [List.flatMap_cons, List.length_append, List.length_cons, Nat.add_mul]
  omega
theorem z1p (x : InT) (h : x.Ok) : (inL x).length ≤ 80 := by have := q0g x.index; unfold inL; rw [List.length_append, h.1]; omega
theorem x7v (x : OutT) (h : x.Ok) : (outtL x).length ≤ 80 := by have := q0g x.amount; unfold outtL; rw [List.length_append, List.length_append, h.1, h.2.1]; omega
theorem x5b (x : PayT) (h : x.Ok) : (payL x).length ≤ 80 := by have := q0g x.amount; unfold payL; rw [List.length_append, h.1]; omega
theorem j6d (x : CertT) (h : x.Ok) : (certL x).length ≤ 160 := by
 have h1 := q0g x.a
 have h2 := q0g x.b
 have h3 := q0g x.c
 unfold certL
 simp only [List.length_cons, List.length_append, h.2.1, h.2.2.1]
 omega
theorem DAt.keep {w w' : World} {g k : Nat} {v1 v2 v3 v4 v5 : Value} {f s t : Nat} (h : DAt w k v1 v2 v3 v4 v5 f s t) (hk : KeepT g w w') (hn : k ≠ g) : DAt w' k v1 v2 v3 v4 v5 f s t := ⟨h.o1, h.o2, h.o3, h.o4, h.o5, hk k _ _ hn (by decide) h.arr⟩
theorem InAt.keep {w w' : World} {g k : Nat} {x : InT} (h : InAt w k x) (hk : KeepT g w w') (hn : k ≠ g) : InAt w' k x := ⟨h.ok, hk k _ _ hn (by decide) h.arr⟩
theorem OutAt.keep {w w' : World} {g k : Nat} {x : OutT} (h : OutAt w k x) (hk : KeepT g w w') (hn : k ≠ g) : OutAt w' k x := ⟨h.ok, hk k _ _ hn (by decide) h.arr⟩
theorem CertAt.keep {w w' : World} {g k : Nat} {x : CertT} (h : CertAt w k x) (hk : KeepT g w w') (hn : k ≠ g) : CertAt w' k x := ⟨h.ok, hk k _ _ hn (by decide) h.arr⟩
theorem PayAt.keep {w w' : World} {g k : Nat} {x : PayT} (h : PayAt w k x) (hk : KeepT g w w') (hn : k ≠ g) : PayAt w' k x := ⟨h.ok, hk k _ _ hn (by decide) h.arr⟩
theorem WitAt.keep {w w' : World} {g k : Nat} {x : WitT} (h : WitAt w k x) (hk : KeepT g w w') (hn : k ≠ g) : WitAt w' k x := ⟨h.ok, hk k _ _ hn (by decide) h.arr⟩
theorem wrtBuilt : Tryz.prog.built 170 [] = some #[.pointer none, .slice none 0 0] := by kernel_rfl
theorem j3e {ops : Array Oper} {rest : List Oper} {o : Oper} {a : Act} {w : World} {Q : Exit → Act → World → Prop} (hw : Region.wanted o (yielded ops a.tmps) = true) (x : Operand) (ho : o.op = .box 170 x) (hx : a.eval x = .agg #[.pointer none, .slice none 0 0])
  (hk : ∀ w2 g, w.heap.size ≤ g → Wrt w2 g [] → Below w.heap.size w w2 → wpList Tryz.prog ops Q rest (a.put o.dst (.pointer (some ⟨g, 0, none⟩))) w2) : wpList Tryz.prog ops Q (o :: rest) a w :=
 q4j hw 170 x ho hx (cs := [.pointer none, .slice none 0 0]) rfl (fun w2 g hg h hb => hk w2 g hg (Or.inl ⟨Nat.le_refl _, .slice none 0 0, h, World.ownsRow_nil _ _ _ _, by simp [Value.ownBlock]⟩) hb)
def numCs (L : List Nat) : List Value := L.map fun (n : Nat) => Value.int .u64 (n : Int)
theorem j7x : ∀ L, (numCs L).flatMap (fun v => v.cells.toList) = numCs L
 | [] => rfl
 | x :: r => by
  have ih := j7x r
  unfold numCs at ih ⊢
  rw [List.map_cons, List.flatMap_cons, ih]; rfl
/-- A row of numbers. -/
structure NAt (w : World) (g : Nat) (L : List Nat) : Prop where
 arr : Arr w g 24 (numCs L)
theorem NAt.later {w w' : World} {g : Nat} {L : List Nat} (h : NAt w g L) (hb : Below w.heap.size w w') : NAt w' g L := ⟨h.arr.later hb⟩
theorem NAt.lt {w : World} {g : Nat} {L : List Nat} (h : NAt w g L) : g < w.heap.size := Arr.lt h.arr
theorem NAt.keep {w w' : World} {g k : Nat} {L : List Nat} (h : NAt w k L) (hk : KeepT g w w') (hn : k ≠ g) : NAt w' k L := ⟨hk k _ _ hn (by decide) h.arr⟩
theorem NAt.cell {w : World} {g k x : Nat} {L : List Nat} (h : NAt w g L) (hx : L[k]? = some x) : w.cell? ⟨g, k, none⟩ = some (.int .u64 x) := by
 obtain ⟨hk, rfl⟩ := List.getElem?_eq_some_iff.1 hx
 have := Arr.cell h.arr (i := k) (by unfold numCs; rw [List.length_map]; exact hk)
 rw [this]
 simp [numCs, hk]
theorem u64Info : ∃ i z, Tryz.prog.info? 24 = some i ∧ i.size = 1 ∧ i.zero = some z ∧ z.cells.size = 1 := by
 obtain ⟨i, hi, h1⟩ := Option.map_eq_some_iff.1 (show (Tryz.prog.info? 24).map (fun i => (i.size, i.zero)) = some (1, some (.int .u64 0)) by kernel_rfl)
 simp only [Prod.mk.injEq] at h1
 exact ⟨i, _, hi, h1.1, h1.2, rfl⟩
theorem x1m {ops : Array Oper} {rest : List Oper} {o : Oper} {a : Act} {w : World} {Q : Exit → Act → World → Prop} (hw : Region.wanted o (yielded ops a.tmps) = true) (n : Nat) (parts : Array (Nat × Operand)) (ho : o.op = .buildSlice 173 n parts) (L : List Nat) (hn : L.length = n)
  (hp : (parts.map fun (i, x) => (i, a.eval x)).toList = (numCs L).zipIdx.map fun x => (x.2, x.1)) (h0 : 0 < n) (h1 : n ≤ 1000)
  (hk : ∀ w2 g, w.heap.size ≤ g → NAt w2 g L → Below w.heap.size w w2 → wpList Tryz.prog ops Q rest (a.put o.dst (.slice (some ⟨g, 0, none⟩) n n)) w2) : wpList Tryz.prog ops Q (o :: rest) a w := by
 subst hn
 obtain ⟨i, z, hi, hs, hz, hzs⟩ := u64Info
 refine BigFrame.wpList_want hw fun _ hK => ?_
 have hlen : (numCs L).length = L.length := by simp [numCs]
 have hr := q9w (P := Tryz.prog) w 173 24 1 (numCs L) _ hp i Tryz.underlying173 hi hs z hz (by intro v hv; obtain ⟨x, hx, rfl⟩ := List.mem_map.1 hv; rfl) (by rw [hlen]; omega) (by rw [hlen]; omega)
 have ef := j7x L
 rw [ef, hlen] at hr
 unfold Oper.wp execOp
 simp only [ho, Sem.run_bind, hr, Result.andThen_ok]
 exact hK _ _ (hk _ _ (Nat.le_refl _) ⟨by simpa using Arr.new w (numCs L) 24⟩ (below1 _ _))
theorem x9u (v : Value) (d : Deed) (w : World) (h : DeedIs w v d) (hf : d.Few) :
  Calls Tryz.prog 59 #[v] w fun e w' => e = .returned (.string ⟨(bodyL d).toArray⟩) ∧ Below w.heap.size w w' := by
 obtain ⟨v1, v2, v3, v4, v5, rfl, h1, h2, h3, h4, h5, ok⟩ := h
 obtain ⟨a1, c1, rfl, _⟩ := h1.shape
 obtain ⟨a2, c2, rfl, _⟩ := h2.shape
 obtain ⟨a3, c3, rfl, _⟩ := h3.shape
 obtain ⟨a4, c4, rfl, _⟩ := h4.shape
 obtain ⟨a5, c5, rfl, _⟩ := h5.shape
 have h1o := hide ok.ins
 have h2o := hide ok.outs
 have h3o := hide ok.certs
 have h4o := hide ok.pays
 have h1l : ∀ x : InT, x.Ok → (inL x).length ≤ 160 := fun x hx => Nat.le_trans (z1p x hx) (by decide)
 have h2l : ∀ x : OutT, x.Ok → (outtL x).length ≤ 160 := fun x hx => Nat.le_trans (x7v x hx) (by decide)
 have h3l := j6d
 have h4l : ∀ x : PayT, x.Ok → (payL x).length ≤ 160 := fun x hx => Nat.le_trans (x5b x hx) (by decide)
 obtain ⟨n1, hn1⟩ : ∃ n, n = d.ins.length := ⟨_, rfl⟩
 obtain ⟨n2, hn2⟩ : ∃ n, n = d.outs.length := ⟨_, rfl⟩
 obtain ⟨n3, hn3⟩ : ∃ n, n = d.certs.length := ⟨_, rfl⟩
 obtain ⟨n4, hn4⟩ : ∃ n, n = d.pays.length := ⟨_, rfl⟩
 obtain ⟨n5, hn5⟩ : ∃ n, n = d.wits.length := ⟨_, rfl⟩
 have h1n := hide hn1
 have h2n := hide hn2
 have h3n := hide hn3
 have h4n := hide hn4
 have l1 := hf.ins
 have l2 := hf.outs
 have l3 := hf.certs
 have l4 := hf.pays
 rw [← hn1] at h1 l1 ⊢
 rw [← hn2] at h2 l2 ⊢
 rw [← hn3] at h3 l3 ⊢
 rw [← hn4] at h4 l4 ⊢
 rw [← hn5]
 have U1 := hide ok.fee
 have U2 := hide ok.frm
 have U3 := hide ok.til
 generalize hR : bodyL d = R at *
 have HBODY := hide (fun _ : Unit => hR)
 unfold bodyL listL at HBODY
 generalize d.fee = f at *
 generalize d.frm = s at *
 generalize d.til = t at *
 have b := Below.refl w.heap.size w
 clear ok hf h5 hn1 hn2 hn3 hn4 hn5 hR
 have w1 : IntKind.u64.wrap (n1 : Int) = (n1 : Int) := by rw [IntKind.wrap_u64]; omega
 have w2 : IntKind.u64.wrap (n2 : Int) = (n2 : Int) := by rw [IntKind.wrap_u64]; omega
 have w3 : IntKind.u64.wrap (n3 : Int) = (n3 : Int) := by rw [IntKind.wrap_u64]; omega
 have w4 : IntKind.u64.wrap (n4 : Int) = (n4 : Int) := by rw [IntKind.wrap_u64]; omega
 have mF1 := True.intro
 have mF2 := True.intro
 go_enter Tryz.func59, Tryz.ntmps59
 go_wp2_with (first | (with_reducible refine w2g ?_; clear mF2; refine q0x rfl _ rfl rfl rfl rfl rfl rfl rfl ?_; intro _ g1 hg1 F2 hb; (try replace b := later b hb); clear hb) | ((with_reducible refine w5g ?_); refine q0q rfl 170 rfl (cs := [.pointer none, .slice none 0 0]) wrtBuilt ?_) | (with_reducible refine w2g ?_; clear mF1; refine j3e rfl _ rfl rfl ?_; intro _ g hg F1 hb; have q2 := F2.lt; have hgw : w.heap.size ≤ g := Nat.le_trans b.size hg; (try replace F2 := F2.later hb); (try replace b := later b hb); clear hb) | (with_reducible refine w0g ?_; first | refine q0a rfl 22 _ rfl rfl (DAt.c0 F2) (by kernel_rfl) ?_) | (go_at_call 133; refine (q4q g _ _ _ F1 (by first | omega) (by first | simp)).mono ?_; rintro _ _ ⟨rfl, h1, hc, hk⟩; clear F1; have F1 := h1; clear h1; replace F2 := F2.keep hk (by omega); replace b := q0u b hc hgw; clear hc hk))
 rw [List.nil_append] at F1
 have p1 := q0g n1
 go_loopw [27] (fun i wr => ∃ k : Nat, i = .int .i64 k ∧ k ≤ n1 ∧ Wrt wr g (putL n1 ++ (d.ins.take k).flatMap inL) ∧ DAt wr g1 (.slice a1 n1 c1) (.slice a2 n2 c2) (.slice a3 n3 c3) (.slice a4 n4 c4) (.slice a5 n5 c5) f s t ∧ Below w.heap.size w wr) (fun i _ => n1 - (RowKit.intOf i).toNat)
 case atStart => exact ⟨0, rfl, by omega, by simpa using F1, F2, b⟩
 clear F1 F2 b
 obtain ⟨k, rfl, hk, F1, F2, b⟩ := hrel
 rcases Nat.lt_or_ge k n1 with hlt | hge
 case inl =>
  obtain ⟨x, hx, okx⟩ := q1i h1o.out (k := k) (by rw [← h1n.out]; exact hlt)
  obtain ⟨bb, k0, c', he, _, hcs⟩ := (h1.later b).block (by rw [← h1n.out]; omega)
  have d1 := hcs k x hx
  have HNX := hide (q3m inL d.ins k x hx)
  have hX : (putL n1 ++ (d.ins.take k).flatMap inL).length ≤ 30000 := by
   have h1 := q3g inL (d.ins.take k) 160 (fun y hy => h1l y (h1o.out y (List.mem_of_mem_take hy)))
   have h2 : (d.ins.take k).length ≤ 8 := by rw [List.length_take]; omega
   have h3 : (d.ins.take k).length * 160 ≤ 8 * 160 := Nat.mul_le_mul_right _ h2
   rw [List.length_append]
   omega
  have OX := hide okx
  (try have OX1 := hide okx.1)
  simp only [Value.slice.injEq] at he
  obtain ⟨rfl, -, rfl⟩ := he
  clear hcs hx okx
  generalize hXe : (putL n1 ++ (d.ins.take k).flatMap inL) = X at *
  have HXE := hide hXe
  clear hXe
  go_wp2_with (first | (with_reducible refine w0g ?_; refine q8h rfl _ rfl rfl d1 OX.out ?_) | (with_reducible refine w3g ?_; refine j3u rfl rfl ?_; intro _ g5 hg5 F3 ha) | (with_reducible refine w4g ?_; refine j1h rfl _ _ rfl rfl rfl OX.out F3 ?_; intro _ t1 ht; have hb := q0b ha ht hg5 (Nat.le_refl _); clear F3; have F3 := t1; clear t1 ha ht; have q1 := F1.lt; have q2 := F2.lt; (try replace F1 := F1.later hb); (try replace F2 := F2.later hb); (try replace b := later b hb); clear hb) | (with_reducible refine w0g ?_; refine q0h rfl _ rfl rfl (InAt.tx F3) OX1.out ?_) | (with_reducible refine w0g ?_; refine q0a rfl 24 _ rfl rfl (InAt.index F3) (by kernel_rfl) ?_) | (go_at_call 133; refine (q4q g _ _ _ F1 (by have q := OX.out; simp only [InT.Ok] at q; omega) (by have q := OX.out; simp only [InT.Ok] at q; (try simp only [List.length_append]); omega)).mono ?_; rintro _ _ ⟨rfl, h1, hc, hk⟩; clear F1; have F1 := h1; clear h1; replace F2 := F2.keep hk (by omega); (try replace F3 := F3.keep hk (by omega)); replace b := q0u b hc hgw; clear hc hk) | (go_at_call 134; refine (q9s g _ _ _ F1 (by have q := OX.out; simp only [InT.Ok] at q; omega) (by have q := OX.out; simp only [InT.Ok] at q; omega)).mono ?_; rintro _ _ ⟨rfl, h1, hc, hk⟩; clear F1; have F1 := h1; clear h1; replace F2 := F2.keep hk (by omega); (try replace F3 := F3.keep hk (by omega)); replace b := q0u b hc hgw; clear hc hk))
  go_roundw
  case rel => exact ⟨k + 1, by simp, by omega, by rw [HNX.out, ← List.append_assoc, HXE.out]; unfold inL; simpa [List.append_assoc] using F1, F2, b⟩
  case measure => simp [RowKit.intOf]; omega
 obtain rfl : n1 = k := by omega
 rw [List.take_of_length_le (by rw [← h1n.out]; exact Nat.le_refl _)] at F1
 have x1 : (putL n1 ++ d.ins.flatMap inL).length ≤ 1300 := by
  have h1 := q3g inL d.ins 160 (fun y hy => h1l y (h1o.out y hy))
  have h2 := h1n.out
  have h3 : d.ins.length * 160 ≤ 8 * 160 := Nat.mul_le_mul_right _ (by omega)
  rw [List.length_append]
  omega
 obtain ⟨X1, eX1⟩ : ∃ X, X = putL n1 ++ d.ins.flatMap inL := ⟨_, rfl⟩
 rw [← eX1] at F1 x1
 have EX1 := hide eX1
 clear eX1
 go_wp2_with (first | (with_reducible refine w0g ?_; first | refine q0a rfl 23 _ rfl rfl (DAt.c1 F2) (by kernel_rfl) ?_) | (go_at_call 133; refine (q4q g _ _ _ F1 (by first | omega) (by first | omega)).mono ?_; rintro _ _ ⟨rfl, h1, hc, hk⟩; clear F1; have F1 := h1; clear h1; replace F2 := F2.keep hk (by omega); replace b := q0u b hc hgw; clear hc hk))
 have p2 := q0g n2
 have q2 : (X1 ++ putL n2).length ≤ 1310 := by rw [List.length_append]; omega
 go_loopw [49] (fun i wr => ∃ k : Nat, i = .int .i64 k ∧ k ≤ n2 ∧ Wrt wr g ((X1 ++ putL n2) ++ (d.outs.take k).flatMap outtL) ∧ DAt wr g1 (.slice a1 n1 c1) (.slice a2 n2 c2) (.slice a3 n3 c3) (.slice a4 n4 c4) (.slice a5 n5 c5) f s t ∧ Below w.heap.size w wr) (fun i _ => n2 - (RowKit.intOf i).toNat)
 case atStart => exact ⟨0, rfl, by omega, by simpa using F1, F2, b⟩
 clear F1 F2 b
 obtain ⟨k, rfl, hk, F1, F2, b⟩ := hrel
 rcases Nat.lt_or_ge k n2 with hlt | hge
 case inl =>
  obtain ⟨x, hx, okx⟩ := q1i h2o.out (k := k) (by rw [← h2n.out]; exact hlt)
  obtain ⟨bb, k0, c', he, _, hcs⟩ := (h2.later b).block (by rw [← h2n.out]; omega)
  have d1 := hcs k x hx
  have HNX := hide (q3m outtL d.outs k x hx)
  have hX : ((X1 ++ putL n2) ++ (d.outs.take k).flatMap outtL).length ≤ 30000 := by
   have h1 := q3g outtL (d.outs.take k) 160 (fun y hy => h2l y (h2o.out y (List.mem_of_mem_take hy)))
   have h2 : (d.outs.take k).length ≤ 8 := by rw [List.length_take]; omega
   have h3 : (d.outs.take k).length * 160 ≤ 8 * 160 := Nat.mul_le_mul_right _ h2
   rw [List.length_append]
   omega
  have OX := hide okx
  (try have OX1 := hide okx.1)
  (try have OX2 := hide okx.2.1)
  simp only [Value.slice.injEq] at he
  obtain ⟨rfl, -, rfl⟩ := he
  clear hcs hx okx
  generalize hXe : ((X1 ++ putL n2) ++ (d.outs.take k).flatMap outtL) = X at *
  have HXE := hide hXe
  clear hXe
  go_wp2_with (first | (with_reducible refine w0g ?_; refine q7d rfl _ rfl rfl d1 OX.out ?_) | (with_reducible refine w3g ?_; refine j1j rfl rfl ?_; intro _ g5 hg5 F3 ha) | (with_reducible refine w4g ?_; refine q9a rfl _ _ rfl rfl rfl OX.out F3 ?_; intro _ t1 ht; have hb := q0b ha ht hg5 (Nat.le_refl _); clear F3; have F3 := t1; clear t1 ha ht; have q1 := F1.lt; have q2 := F2.lt; (try replace F1 := F1.later hb); (try replace F2 := F2.later hb); (try replace b := later b hb); clear hb) | (with_reducible refine w0g ?_; first | refine q0h rfl _ rfl rfl (OutAt.dst F3) OX1.out ?_ | refine q0h rfl _ rfl rfl (OutAt.stake F3) OX2.out ?_) | (with_reducible refine w0g ?_; refine q0a rfl 24 _ rfl rfl (OutAt.amount F3) (by kernel_rfl) ?_) | (go_at_call 133; refine (q4q g _ _ _ F1 (by have q := OX.out; simp only [OutT.Ok] at q; omega) (by have q := OX.out; simp only [OutT.Ok] at q; (try simp only [List.length_append]); omega)).mono ?_; rintro _ _ ⟨rfl, h1, hc, hk⟩; clear F1; have F1 := h1; clear h1; replace F2 := F2.keep hk (by omega); (try replace F3 := F3.keep hk (by omega)); replace b := q0u b hc hgw; clear hc hk) | (go_at_call 134; refine (q9s g _ _ _ F1 (by have q := OX.out; simp only [OutT.Ok] at q; omega) (by have q := OX.out; simp only [OutT.Ok] at q; (try simp only [List.length_append]); omega)).mono ?_; rintro _ _ ⟨rfl, h1, hc, hk⟩; clear F1; have F1 := h1; clear h1; replace F2 := F2.keep hk (by omega); (try replace F3 := F3.keep hk (by omega)); replace b := q0u b hc hgw; clear hc hk))
  go_roundw
  case rel => exact ⟨k + 1, by simp, by omega, by rw [HNX.out, ← List.append_assoc, HXE.out]; unfold outtL; simpa [List.append_assoc] using F1, F2, b⟩
  case measure => simp [RowKit.intOf]; omega
 obtain rfl : n2 = k := by omega
 rw [List.take_of_length_le (by rw [← h2n.out]; exact Nat.le_refl _)] at F1
 have x2 : ((X1 ++ putL n2) ++ d.outs.flatMap outtL).length ≤ 2600 := by
  have h1 := q3g outtL d.outs 160 (fun y hy => h2l y (h2o.out y hy))
  have h2 := h2n.out
  have h3 : d.outs.length * 160 ≤ 8 * 160 := Nat.mul_le_mul_right _ (by omega)
  rw [List.length_append]
  omega
 obtain ⟨X2, eX2⟩ : ∃ X, X = (X1 ++ putL n2) ++ d.outs.flatMap outtL := ⟨_, rfl⟩
 rw [← eX2] at F1 x2
 have EX2 := hide eX2
 clear eX2
 obtain ⟨L, hL⟩ : ∃ L, L = [f, s, t, n3] := ⟨_, rfl⟩
 have HLE := hide hL
 have HU : Hid (∀ x ∈ L, U64 x) := by
  intro x hx
  rw [hL] at hx
  simp only [List.mem_cons, List.not_mem_nil, or_false] at hx
  rcases hx with rfl | rfl | rfl | rfl
  ·exact U1.out
  ·exact U2.out
  ·exact U3.out
  ·show _ < 18446744073709551616; omega
 have HUL : Hid (L.length = 4) := by rw [hL]; exact hide rfl
 have HP : Hid ([(0, Value.int .u64 (f : Int)), (1, .int .u64 (s : Int)), (2, .int .u64 (t : Int)), (3, .int .u64 (n3 : Int))] = (numCs L).zipIdx.map fun x => (x.2, x.1)) := by rw [hL]; exact hide rfl
 clear hL
 go_wp2_with (first | (with_reducible refine w0g ?_; first | ((with_reducible refine w6g ?_); first | refine q0a rfl 24 _ rfl rfl (DAt.c2 F2) (by kernel_rfl) ?_ | refine q0a rfl 24 _ rfl rfl (DAt.c3 F2) (by kernel_rfl) ?_ | refine q0a rfl 24 _ rfl rfl (DAt.c4 F2) (by kernel_rfl) ?_) | refine q0a rfl 25 _ rfl rfl (DAt.c5 F2) (by kernel_rfl) ?_) | ((with_reducible refine w7g ?_); (refine x1m rfl 4 _ rfl L HUL.out (by simp only [List.map_toArray, List.map_cons, List.map_nil]; exact HP.out) (by decide) (by decide) ?_; intro _ ga hga F4 hb; have q3 := F1.lt; have q4 := F2.lt; (try replace F1 := F1.later hb); (try replace F2 := F2.later hb); (try replace b := later b hb); clear hb)))
 go_loopw [78] (fun i wr => ∃ k : Nat, i = .int .i64 k ∧ k ≤ 4 ∧ Wrt wr g (X2 ++ (L.take k).flatMap putL) ∧ DAt wr g1 (.slice a1 n1 c1) (.slice a2 n2 c2) (.slice (a3) n3 c3) (.slice a4 n4 c4) (.slice a5 n5 c5) f s t ∧ NAt wr ga L ∧ Below w.heap.size w wr) (fun i _ => 4 - (RowKit.intOf i).toNat)
 case atStart => exact ⟨0, rfl, by omega, by simpa using F1, F2, F4, b⟩
 clear F1 F2 F4 b
 obtain ⟨k, rfl, hk, F1, F2, F4, b⟩ := hrel
 rcases Nat.lt_or_ge k 4 with hlt | hge
 case inl =>
  obtain ⟨x, hx, okx⟩ := q1i HU.out (k := k) (by rw [HUL.out]; exact hlt)
  have d1 := fun w' (h : NAt w' ga L) => h.cell hx
  have HD := hide d1
  have HNX := hide (q3m putL L k x hx)
  have hX : (X2 ++ (L.take k).flatMap putL).length ≤ 30000 := by
   have h1 := q3g putL (L.take k) 10 (fun y _ => q0g y)
   have h2 : (L.take k).length ≤ 8 := by rw [List.length_take]; omega
   have h3 : (L.take k).length * 10 ≤ 8 * 10 := Nat.mul_le_mul_right _ h2
   rw [List.length_append]
   omega
  have OX := hide okx
  clear hx okx d1
  generalize hXe : (X2 ++ (L.take k).flatMap putL) = X at *
  have HXE := hide hXe
  clear hXe
  go_wp2_with (first | (with_reducible refine w0g ?_; refine q0a rfl 24 _ rfl rfl (HD.out _ F4) (by kernel_rfl) ?_) | (go_at_call 133; refine (q4q g _ _ _ F1 (by first | exact OX.out) (by first | omega)).mono ?_; rintro _ _ ⟨rfl, h1, hc, hk⟩; clear F1; have F1 := h1; clear h1; replace F2 := F2.keep hk (by omega); (try replace F4 := F4.keep hk (by omega)); replace b := q0u b hc hgw; clear hc hk))
  go_roundw
  case rel => exact ⟨k + 1, by simp, by omega, by rw [HNX.out, ← List.append_assoc, HXE.out]; exact F1, F2, F4, b⟩
  case measure => simp [RowKit.intOf]; omega
 obtain rfl : 4 = k := by omega
 rw [List.take_of_length_le (by rw [HUL.out]; exact Nat.le_refl _)] at F1
 obtain ⟨X3, eX3⟩ : ∃ X, X = X2 ++ L.flatMap putL := ⟨_, rfl⟩
 have x3 : X3.length ≤ 2640 := by
  have h1 := q3g putL L 10 (fun y _ => q0g y)
  have h2 := HUL.out
  rw [eX3, List.length_append]
  omega
 rw [← eX3] at F1
 have EX3 := hide eX3
 clear eX3 HU HUL HP F4
 obtain ⟨Y3, hY3⟩ : ∃ Y, Y = X3 := ⟨_, rfl⟩
 rw [← hY3] at F1 EX3 x3
 clear hY3
 go_wp2_with ((with_reducible refine w0g ?_; first | refine q0a rfl 25 _ rfl rfl (DAt.c5 F2) (by kernel_rfl) ?_))
 go_loopw [89] (fun i wr => ∃ kk : Nat, i = .int .i64 kk ∧ kk ≤ n3 ∧ Wrt wr g (Y3 ++ (d.certs.take kk).flatMap certL) ∧ DAt wr g1 (.slice a1 n1 c1) (.slice a2 n2 c2) (.slice a3 n3 c3) (.slice a4 n4 c4) (.slice a5 n5 c5) f s t ∧ Below w.heap.size w wr) (fun i _ => n3 - (RowKit.intOf i).toNat)
 case atStart => exact ⟨0, rfl, by omega, by simpa using F1, F2, b⟩
 clear F1 F2 b
 obtain ⟨kk, rfl, hkk, F1, F2, b⟩ := hrel
 rcases Nat.lt_or_ge kk n3 with hltk | hgek
 case inl =>
  obtain ⟨xx, hx, okx⟩ := q1i h3o.out (k := kk) (by rw [← h3n.out]; exact hltk)
  obtain ⟨bb, k0, c', he, _, hcs⟩ := (h3.later b).block (by rw [← h3n.out]; omega)
  have d1 := hcs kk xx hx
  have HNX := hide (q3m certL d.certs kk xx hx)
  have hX : (Y3 ++ (d.certs.take kk).flatMap certL).length ≤ 10000 := by
   have h1 := q3g certL (d.certs.take kk) 160 (fun y hy => h3l y (h3o.out y (List.mem_of_mem_take hy)))
   have h2 : (d.certs.take kk).length ≤ 8 := by rw [List.length_take]; omega
   have h3 : (d.certs.take kk).length * 160 ≤ 8 * 160 := Nat.mul_le_mul_right _ h2
   rw [List.length_append]
   omega
  have OX := hide okx
  have OX2 := hide okx.2.1
  have OX3 := hide okx.2.2.1
  simp only [Value.slice.injEq] at he
  obtain ⟨rfl, -, rfl⟩ := he
  obtain ⟨L, hL⟩ : ∃ L, L = [xx.a, xx.b, xx.c] := ⟨_, rfl⟩
  have HLC := hide hL
  have HU : Hid (∀ y ∈ L, U64 y) := by
   intro y hy
   rw [hL] at hy
   simp only [List.mem_cons, List.not_mem_nil, or_false] at hy
   rcases hy with rfl | rfl | rfl
   ·exact okx.2.2.2.1
   ·exact okx.2.2.2.2.1
   ·exact okx.2.2.2.2.2
  have HUL : Hid (L.length = 3) := by rw [hL]; exact hide rfl
  have HP : Hid ([(0, Value.int .u64 (xx.a : Int)), (1, .int .u64 (xx.b : Int)), (2, .int .u64 (xx.c : Int))] = (numCs L).zipIdx.map fun x => (x.2, x.1)) := by rw [hL]; exact hide rfl
  have HKD : Hid (xx.kind < 256) := okx.1
  clear hcs hx okx hL
  generalize hXe : (Y3 ++ (d.certs.take kk).flatMap certL) = X at *
  have HXE := hide hXe
  clear hXe
  go_wp2_with (first | (with_reducible refine w0g ?_; refine q1k rfl _ rfl rfl d1 OX.out ?_) | (with_reducible refine w3g ?_; refine q3f rfl rfl ?_; intro _ g5 hg5 F3 ha) | (with_reducible refine w4g ?_; refine q2o rfl _ _ rfl rfl rfl OX.out F3 ?_; intro _ t1 ht; have hb := q0b ha ht hg5 (Nat.le_refl _); clear F3; have F3 := t1; clear t1 ha ht; have q1 := F1.lt; have q2 := F2.lt; (try replace F1 := F1.later hb); (try replace F2 := F2.later hb); (try replace b := later b hb); clear hb) | (with_reducible show Code.wp _ (Code.region _ _ true) _ _ _; (try simp only [pS]); refine q0n 5 (by kernel_rfl) (by kernel_rfl) ?_; simp only [List.take_succ_cons, List.take_zero]; (repeat ((go_big_quiet_want; first | ((with_reducible refine w28g ?_); first | (refine q0d 5 _ rfl rfl (CertAt.kind F3) (by kernel_rfl) ?_; simp only [pS]; go_big_quiet_on)) | (go_big_quiet_op; first | go_big_quiet_on)))); refine wpQuiet_nil ?_; intro _ hq; (try replace F1 := F1.later hq); (try replace F2 := F2.later hq); (try replace F3 := F3.later hq); (try replace b := later b hq); clear hq; simp only [List.drop_succ_cons, List.drop_zero]) | (go_at_call 135; refine (x8w g _ _ _ F1 HKD.out (by omega)).mono ?_; rintro _ _ ⟨rfl, h1, hc, hk⟩; clear F1; have F1 := h1; clear h1; replace F2 := F2.keep hk (by omega); (try replace F3 := F3.keep hk (by omega)); replace b := q0u b hc hgw; clear hc hk) | (with_reducible refine w0g ?_; first | refine q0h rfl _ rfl rfl (CertAt.key F3) OX2.out ?_ | refine q0h rfl _ rfl rfl (CertAt.pool F3) OX3.out ?_) | (with_reducible refine w0g ?_; refine q0a rfl 24 _ rfl rfl (CertAt.a F3) (by kernel_rfl) ?_) | (with_reducible refine w0g ?_; refine q0a rfl 24 _ rfl rfl (CertAt.b F3) (by kernel_rfl) ?_) | (with_reducible refine w0g ?_; refine q0a rfl 24 _ rfl rfl (CertAt.c F3) (by kernel_rfl) ?_) | (go_at_call 134; refine (q9s g _ _ _ F1 (by first | exact OX2.out | exact OX3.out) (by have q1 := OX2.out; have q2 := OX3.out; simp only [List.length_append, List.length_cons, List.length_nil]; omega)).mono ?_; rintro _ _ ⟨rfl, h1, hc, hk⟩; clear F1; have F1 := h1; clear h1; replace F2 := F2.keep hk (by omega); (try replace F3 := F3.keep hk (by omega)); replace b := q0u b hc hgw; clear hc hk) | ((with_reducible refine w7g ?_); refine x1m rfl 3 _ rfl L HUL.out (by simp only [List.map_toArray, List.map_cons, List.map_nil]; exact HP.out) (by decide) (by decide) ?_; intro _ ga hga F4 hb; have q3 := F1.lt; have q4 := F2.lt; (try replace F1 := F1.later hb); (try replace F2 := F2.later hb); (try replace F3 := F3.later hb); (try replace b := later b hb); clear hb))
  obtain ⟨Z, eZ⟩ : ∃ Z, Z = X ++ [UInt8.ofNat xx.kind] ++ xx.key ++ xx.pool := ⟨_, rfl⟩
  have hZ : Z.length ≤ 10100 := by
   have q1 := OX2.out
   have q2 := OX3.out
   rw [eZ]
   simp only [List.length_append, List.length_cons, List.length_nil]
   omega
  rw [← eZ] at F1
  have EZ := hide eZ
  clear eZ F3 d1
  go_loopw [115] (fun i wr => ∃ k : Nat, i = .int .i64 k ∧ k ≤ 3 ∧ Wrt wr g (Z ++ (L.take k).flatMap putL) ∧ DAt wr g1 (.slice a1 n1 c1) (.slice a2 n2 c2) (.slice (some ⟨bb, k0, none⟩) n3 c3) (.slice a4 n4 c4) (.slice a5 n5 c5) f s t ∧ NAt wr ga L ∧ Below w.heap.size w wr) (fun i _ => 3 - (RowKit.intOf i).toNat)
  case atStart => exact ⟨0, rfl, by omega, by simpa using F1, F2, F4, b⟩
  clear F1 F2 F4 b
  obtain ⟨k, rfl, hk, F1, F2, F4, b⟩ := hrel
  rcases Nat.lt_or_ge k 3 with hlt | hge
  case inl =>
   obtain ⟨x, hx, okx⟩ := q1i HU.out (k := k) (by rw [HUL.out]; exact hlt)
   have d1 := fun w' (h : NAt w' ga L) => h.cell hx
   have HD := hide d1
   have HNX := hide (q3m putL L k x hx)
   have hX : (Z ++ (L.take k).flatMap putL).length ≤ 30000 := by
    have h1 := q3g putL (L.take k) 10 (fun y _ => q0g y)
    have h2 : (L.take k).length ≤ 8 := by rw [List.length_take]; omega
    have h3 : (L.take k).length * 10 ≤ 8 * 10 := Nat.mul_le_mul_right _ h2
    rw [List.length_append]
    omega
   have OX := hide okx
   clear hx okx d1
   generalize hXe : (Z ++ (L.take k).flatMap putL) = X at *
   have HXE := hide hXe
   clear hXe
   go_wp2_with (first | (with_reducible refine w0g ?_; refine q0a rfl 24 _ rfl rfl (HD.out _ F4) (by kernel_rfl) ?_) | (go_at_call 133; refine (q4q g _ _ _ F1 (by first | exact OX.out) (by first | omega)).mono ?_; rintro _ _ ⟨rfl, h1, hc, hk⟩; clear F1; have F1 := h1; clear h1; replace F2 := F2.keep hk (by omega); (try replace F4 := F4.keep hk (by omega)); replace b := q0u b hc hgw; clear hc hk))
   go_roundw
   case rel => exact ⟨k + 1, by simp, by omega, by rw [HNX.out, ← List.append_assoc, HXE.out]; exact F1, F2, F4, b⟩
   case measure => simp [RowKit.intOf]; omega
  obtain rfl : 3 = k := by omega
  rw [List.take_of_length_le (by rw [HUL.out]; exact Nat.le_refl _)] at F1
  have HF : Hid (Y3 ++ (d.certs.take (kk + 1)).flatMap certL = Z ++ L.flatMap putL) := by
   rw [HNX.out, ← List.append_assoc, HXE.out, EZ.out, HLC.out]
   unfold certL
   exact hide (by simp)
  clear F4 EZ HLC HP HUL HU HNX HXE
  go_wp2_with fail
  go_roundw
  case rel => exact ⟨kk + 1, by simp, by omega, by rw [HF.out]; exact F1, F2, b⟩
  case measure => simp [RowKit.intOf]; omega
 obtain rfl : n3 = kk := by omega
 rw [List.take_of_length_le (by rw [← h3n.out]; exact Nat.le_refl _)] at F1
 have x4 : (Y3 ++ d.certs.flatMap certL).length ≤ 4000 := by
  have h1 := q3g certL d.certs 160 (fun y hy => h3l y (h3o.out y hy))
  have h2 := h3n.out
  have h3 : d.certs.length * 160 ≤ 8 * 160 := Nat.mul_le_mul_right _ (by omega)
  rw [List.length_append]
  omega
 obtain ⟨X4, eX4⟩ : ∃ X, X = Y3 ++ d.certs.flatMap certL := ⟨_, rfl⟩
 rw [← eX4] at F1 x4
 have EX4 := hide eX4
 clear eX4
 go_wp2_with (first | (with_reducible refine w0g ?_; first | refine q0a rfl 26 _ rfl rfl (DAt.c6 F2) (by kernel_rfl) ?_) | (go_at_call 133; refine (q4q g _ _ _ F1 (by first | omega) (by first | omega)).mono ?_; rintro _ _ ⟨rfl, h1, hc, hk⟩; clear F1; have F1 := h1; clear h1; replace F2 := F2.keep hk (by omega); replace b := q0u b hc hgw; clear hc hk))
 have p4 := q0g n4
 have q4 : (X4 ++ putL n4).length ≤ 4010 := by rw [List.length_append]; omega
 go_loopw [133] (fun i wr => ∃ k : Nat, i = .int .i64 k ∧ k ≤ n4 ∧ Wrt wr g ((X4 ++ putL n4) ++ (d.pays.take k).flatMap payL) ∧ DAt wr g1 (.slice a1 n1 c1) (.slice a2 n2 c2) (.slice a3 n3 c3) (.slice a4 n4 c4) (.slice a5 n5 c5) f s t ∧ Below w.heap.size w wr) (fun i _ => n4 - (RowKit.intOf i).toNat)
 case atStart => exact ⟨0, rfl, by omega, by simpa using F1, F2, b⟩
 clear F1 F2 b
 obtain ⟨k, rfl, hk, F1, F2, b⟩ := hrel
 rcases Nat.lt_or_ge k n4 with hlt | hge
 case inl =>
  obtain ⟨x, hx, okx⟩ := q1i h4o.out (k := k) (by rw [← h4n.out]; exact hlt)
  obtain ⟨bb, k0, c', he, _, hcs⟩ := (h4.later b).block (by rw [← h4n.out]; omega)
  have d1 := hcs k x hx
  have HNX := hide (q3m payL d.pays k x hx)
  have hX : ((X4 ++ putL n4) ++ (d.pays.take k).flatMap payL).length ≤ 30000 := by
   have h1 := q3g payL (d.pays.take k) 160 (fun y hy => h4l y (h4o.out y (List.mem_of_mem_take hy)))
   have h2 : (d.pays.take k).length ≤ 8 := by rw [List.length_take]; omega
   have h3 : (d.pays.take k).length * 160 ≤ 8 * 160 := Nat.mul_le_mul_right _ h2
   rw [List.length_append]
   omega
  have OX := hide okx
  (try have OX1 := hide okx.1)
  simp only [Value.slice.injEq] at he
  obtain ⟨rfl, -, rfl⟩ := he
  clear hcs hx okx
  generalize hXe : ((X4 ++ putL n4) ++ (d.pays.take k).flatMap payL) = X at *
  have HXE := hide hXe
  clear hXe
  go_wp2_with (first | (with_reducible refine w0g ?_; refine q7b rfl _ rfl rfl d1 OX.out ?_) | (with_reducible refine w3g ?_; refine j1a rfl rfl ?_; intro _ g5 hg5 F3 ha) | (with_reducible refine w4g ?_; refine q9d rfl _ _ rfl rfl rfl OX.out F3 ?_; intro _ t1 ht; have hb := q0b ha ht hg5 (Nat.le_refl _); clear F3; have F3 := t1; clear t1 ha ht; have q1 := F1.lt; have q2 := F2.lt; (try replace F1 := F1.later hb); (try replace F2 := F2.later hb); (try replace b := later b hb); clear hb) | (with_reducible refine w0g ?_; refine q0h rfl _ rfl rfl (PayAt.key F3) OX1.out ?_) | (with_reducible refine w0g ?_; refine q0a rfl 24 _ rfl rfl (PayAt.amount F3) (by kernel_rfl) ?_) | (go_at_call 133; refine (q4q g _ _ _ F1 (by have q := OX.out; simp only [PayT.Ok] at q; omega) (by have q := OX.out; simp only [PayT.Ok] at q; (try simp only [List.length_append]); omega)).mono ?_; rintro _ _ ⟨rfl, h1, hc, hk⟩; clear F1; have F1 := h1; clear h1; replace F2 := F2.keep hk (by omega); (try replace F3 := F3.keep hk (by omega)); replace b := q0u b hc hgw; clear hc hk) | (go_at_call 134; refine (q9s g _ _ _ F1 (by have q := OX.out; simp only [PayT.Ok] at q; omega) (by have q := OX.out; simp only [PayT.Ok] at q; omega)).mono ?_; rintro _ _ ⟨rfl, h1, hc, hk⟩; clear F1; have F1 := h1; clear h1; replace F2 := F2.keep hk (by omega); (try replace F3 := F3.keep hk (by omega)); replace b := q0u b hc hgw; clear hc hk))
  go_roundw
  case rel => exact ⟨k + 1, by simp, by omega, by rw [HNX.out, ← List.append_assoc, HXE.out]; unfold payL; simpa [List.append_assoc] using F1, F2, b⟩
  case measure => simp [RowKit.intOf]; omega
 obtain rfl : n4 = k := by omega
 rw [List.take_of_length_le (by rw [← h4n.out]; exact Nat.le_refl _)] at F1
 have x5 : ((X4 ++ putL n4) ++ d.pays.flatMap payL).length ≤ 5300 := by
  have h1 := q3g payL d.pays 160 (fun y hy => h4l y (h4o.out y hy))
  have h2 := h4n.out
  have h3 : d.pays.length * 160 ≤ 8 * 160 := Nat.mul_le_mul_right _ (by omega)
  rw [List.length_append]
  omega
 obtain ⟨X5, eX5⟩ : ∃ X, X = (X4 ++ putL n4) ++ d.pays.flatMap payL := ⟨_, rfl⟩
 rw [← eX5] at F1 x5
 have EX5 := hide eX5
 clear eX5
 have HF : Hid (X5 = R) := by
  rw [EX5.out, EX4.out, EX3.out, HLE.out, EX2.out, EX1.out, ← HBODY.out (), ← h1n.out, ← h2n.out, ← h3n.out, ← h4n.out]
  exact hide (by simp [List.append_assoc])
 have HNE : Hid (X5 ≠ []) := by
  rw [EX5.out]
  intro h0
  have := congrArg List.length h0
  have p := x1h n4
  simp only [List.length_append, List.length_nil] at this
  omega
 rw [HF.out] at F1 HNE
 go_wp2_with (go_at_call 78; refine (j5p g _ _ F1 HNE.out).mono ?_; rintro _ _ ⟨rfl, hc⟩; replace b := q0u b hc hgw; clear hc)
 go_ret
 exact ⟨rfl, b⟩
end Go.Proofs.YtbbfnpfkbbpjgaaGreat
