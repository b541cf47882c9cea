/- block.Body. -/
import Derived.Test.YtbbfnpfkbbpjgaaGreatQHBlk2
import Derived.Test.YtbbfnpfkbbpjgaaGreatQHElCert
import Derived.Test.YtbbfnpfkbbpjgaaGreatQHRowE
import Derived.Test.YtbbfnpfkbbpjgaaGreatQHStep
namespace Go.Proofs.YtbbfnpfkbbpjgaaGreat
open Go.RowKit Go.Lib
set_option linter.unusedVariables false
set_option linter.unusedSimpArgs false
set_option maxRecDepth 100000
set_option maxHeartbeats 4000000
theorem j0o {fn : Func} {p t1 t2 t3 : Tmp} {ty : TypeId} (h : fn.results = #[.cell p ty, .tmp t1, .tmp t2, .tmp t3]) (tmps : Array Value) (P : Program) (w : World) :
  (results fn tmps).run P w = ((asAddr (tmps.getD p undef)).run P w).andThen fun a w₁ => ((loadVar ty a).run P w₁).andThen fun v w₂ => .ok (.tuple #[v, tmps.getD t1 undef, tmps.getD t2 undef, tmps.getD t3 undef]) w₂ := by
 simp only [results, h]
 simp [Sem.run_bind, Result.andThen]
theorem j2a {P : Program} {fn : Func} {p t1 t2 t3 : Tmp} {ty : TypeId} (h : fn.results = #[.cell p ty, .tmp t1, .tmp t2, .tmp t3]) (tmps : Array Value) (w : World) (g : Nat) (t : TypeId) (cs : Array Value) (fr : Nat × Nat) (d : TypeDesc) (v1 v2 v3 : Value)
  (hp : tmps.getD p undef = .pointer (some ⟨g, 0, none⟩)) (h1 : tmps.getD t1 undef = v1) (h2 : tmps.getD t2 undef = v2) (h3 : tmps.getD t3 undef = v3) (hg : w.heap[g]? = some (.cells cs t fr))
  (hu : P.underlying ty = some d) (hd : (match d with | .struct _ | .array _ _ => true | _ => false) = true) (hi : (P.info? ty).map (·.size) = some cs.size) :
  (results fn tmps).run P w = .ok (.tuple #[.agg cs, v1, v2, v3]) w := by
 rw [j0o h, hp, h1, h2, h3]
 simp [asAddr, run_loadVar_row w g t ty cs fr d hg hu hd hi]
theorem q3d {fn : Func} {p t1 t2 t3 : Tmp} (hr : fn.results = #[.cell p 34, .tmp t1, .tmp t2, .tmp t3]) (tmps : Array Value) (w : World) {g : Nat} {l : List UInt8} (v1 v2 v3 : Value) (hp : tmps.getD p undef = .pointer (some ⟨g, 0, none⟩)) (h1 : tmps.getD t1 undef = v1) (h2 : tmps.getD t2 undef = v2) (h3 : tmps.getD t3 undef = v3) (h : HashAt w g l) :
  (results fn tmps).run Tryz.prog w = .ok (.tuple #[hv l, v1, v2, v3]) w :=
 j2a hr tmps w g 34 (bvs l).toArray (0, 0) _ v1 v2 v3 hp h1 h2 h3 h.2 Tryz.underlying34 rfl (hashInfoOf l h.1)
theorem q9m : ∀ (l : List Deed), (∀ d ∈ l, d.Ok) → l.all mayD = true → sizB l ≤ l.length * 14400
 | [], _, _ => by simp [sizB]
 | d :: l, ok, hm => by
  simp only [List.all_cons, Bool.and_eq_true] at hm
  have h1 := j5y (q7k (ok d (by simp)) hm.1)
  have h2 := q9m l (fun x hx => ok x (by simp [hx])) hm.2
  unfold sizB at h2 ⊢
  rw [List.map_cons, List.sum_cons, List.length_cons, Nat.add_mul]
  omega
theorem z1a {w : World} {v : Value} {l : List Deed} (h : Sl w v 32 (l.map fuC)) : Hs w v (fulsB l) := by
 have e : (fulsB l).map bvs = l.map fuC := by unfold fulsB; rw [List.map_map]; rfl
 refine ⟨by rw [e]; exact h, fun x hx => ?_⟩
 obtain ⟨d, _, rfl⟩ := List.mem_map.1 hx
 exact q9k d
theorem sl_txt {w : World} {v : Value} {l : List Deed} (h : Sl w v 1 (l.map txC)) : Sl w v 1 ((txtA l).map strC) := by
 have e : (txtA l).map strC = l.map txC := by unfold txtA; rw [List.map_map]; rfl
 rw [e]; exact h
theorem j7v (v : Value) (l : List Deed) (w : World) (h : DsIs w v l) (hn : l.length ≤ 1000) (hf : ∀ d ∈ l, d.Fit) :
  Calls Tryz.prog 25 #[v] w fun e w' => e = .returned (.tuple #[hv (bodB l).1.1, .int .u64 (bodB l).1.2, .int .u64 (bodB l).2.1, .int .i64 (bodB l).2.2]) ∧ Below w.heap.size w w' := by
 have HBB := hide (fun (w' : World) (hb : Below w.heap.size w w') => j5n v l w' (h.later hb) hn hf)
 have hok := h.ok
 obtain ⟨a1, c1, rfl⟩ := h.shape
 have b := Below.refl w.heap.size w
 have HZ : Hid (zero32.length = 32) := rfl
 by_cases hm : l.all mayD = true
 ·have hsm := q9m l hok hm
  have HS := hide (fun (tv : Value) (w' : World) (S : Sl w' tv 1 (l.map txC)) => by
   have := x5s tv (txtA l) w' (sl_txt S) (by rw [j6q]; omega) (by unfold txtA; rw [List.length_map]; omega)
   rw [j6q] at this
   exact this)
  have HR := hide (fun (fv : Value) (w' : World) (S : Sl w' fv 32 (l.map fuC)) => j8v fv (fulsB l) w' (z1a S) (by unfold fulsB; rw [List.length_map]; omega))
  have hbod : bodB l = if l.length ≤ 16 ∧ sizB l ≤ 32768 then ((treeL (fulsB l), sizB l), (l.length, 0)) else ((zero32, 0), (0, 3)) := by unfold bodB; rw [if_pos hm]
  have HL : Hid ((treeL (fulsB l)).length = 32) := q5a _ _
  have hs40 : sizB l ≤ 14400000 := by omega
  rw [hm] at HBB
  clear hm hok hsm hf h
  generalize treeL (fulsB l) = R at *
  obtain ⟨n, hn'⟩ : ∃ n, n = l.length := ⟨_, rfl⟩
  obtain ⟨z, hz'⟩ : ∃ z, z = sizB l := ⟨_, rfl⟩
  rw [← hn', ← hz'] at hbod
  rw [← hn'] at hn HBB ⊢
  rw [← hz'] at HS hs40
  generalize bodB l = T at *
  clear hn' hz'
  have kz : IntKind.u64.wrap (z : Int) = (z : Int) := by rw [IntKind.wrap_u64]; omega
  have kn : IntKind.u64.wrap (n : Int) = (n : Int) := by rw [IntKind.wrap_u64]; omega
  by_cases h1 : n ≤ 16
  ·have c1 : decide ((16 : Int) < (n : Int)) = false := decide_eq_false (by omega)
   by_cases h2 : z ≤ 32768
   ·have c2 : decide ((32768 : Int) < (z : Int)) = false := decide_eq_false (by omega)
    rw [if_pos ⟨h1, h2⟩] at hbod
    subst hbod
    have mF1 := True.intro
    go_enter Tryz.func25, Tryz.ntmps25
    go_wp2_with (first | (with_reducible refine w3g ?_; clear mF1; refine q0r rfl rfl ?_; intro _ g1 hg1 F1 hb; (try have := F1.lt); (try have := z.lt); (try have := b.size); (try replace b := later b hb); clear hb) | (with_reducible refine w4g ?_; refine q0k rfl _ _ rfl rfl rfl HL.out F1 ?_; intro _ t1 ht; (try replace b := q0b b ht (by omega) (by omega)); replace F1 := t1; clear ht) | (go_at_call 62; refine (HBB.out _ b).mono ?_; rintro _ _ ⟨hx, hc⟩; (try replace F1 := F1.later hc); (try replace b := later b hc); clear hc; replace hx := hx.resolve_right (fun h => by cases h.1); obtain ⟨_, tv, fv, rfl, T3, T4⟩ := hx) | (go_at_call 63; refine (HS.out _ _ T3.sl).mono ?_; rintro _ _ ⟨rfl, hc⟩; replace T3 := T3.later hc; replace T4 := T4.later hc; (try replace F1 := F1.later hc); (try replace b := later b hc); clear hc) | (go_at_call 41; refine (HR.out _ _ T4).mono ?_; rintro _ _ ⟨rfl, hc⟩; replace T3 := T3.later hc; replace T4 := T4.later hc; (try replace F1 := F1.later hc); (try replace b := later b hc); clear hc))
    exact bodyPost_ret (q3d rfl _ _ _ _ _ rfl rfl rfl rfl F1) rfl ⟨rfl, b⟩
   ·have c2 : decide ((32768 : Int) < (z : Int)) = true := decide_eq_true (by omega)
    rw [if_neg (fun h => h2 h.2)] at hbod
    subst hbod
    have mF1 := True.intro
    go_enter Tryz.func25, Tryz.ntmps25
    go_wp2_with (first | (with_reducible refine w3g ?_; clear mF1; refine q0r rfl rfl ?_; intro _ g1 hg1 F1 hb; (try have := F1.lt); (try have := z.lt); (try have := b.size); (try replace b := later b hb); clear hb) | (with_reducible refine w5g ?_; refine q2n rfl rfl ?_) | (with_reducible refine w4g ?_; refine q0k rfl _ _ rfl rfl rfl HZ.out F1 ?_; intro _ t1 ht; (try replace b := q0b b ht (by omega) (by omega)); replace F1 := t1; clear ht) | (go_at_call 62; refine (HBB.out _ b).mono ?_; rintro _ _ ⟨hx, hc⟩; (try replace F1 := F1.later hc); (try replace b := later b hc); clear hc; replace hx := hx.resolve_right (fun h => by cases h.1); obtain ⟨_, tv, fv, rfl, T3, T4⟩ := hx) | (go_at_call 63; refine (HS.out _ _ T3.sl).mono ?_; rintro _ _ ⟨rfl, hc⟩; replace T3 := T3.later hc; replace T4 := T4.later hc; (try replace F1 := F1.later hc); (try replace b := later b hc); clear hc))
    exact bodyPost_ret (q3d rfl _ _ _ _ _ rfl rfl rfl rfl F1) rfl ⟨rfl, b⟩
  ·have c1 : decide ((16 : Int) < (n : Int)) = true := decide_eq_true (by omega)
   rw [if_neg (fun h => h1 h.1)] at hbod
   subst hbod
   have mF1 := True.intro
   go_enter Tryz.func25, Tryz.ntmps25
   go_wp2_with (first | (with_reducible refine w3g ?_; clear mF1; refine q0r rfl rfl ?_; intro _ g1 hg1 F1 hb; (try have := F1.lt); (try have := z.lt); (try have := b.size); (try replace b := later b hb); clear hb) | (with_reducible refine w5g ?_; refine q2n rfl rfl ?_) | (with_reducible refine w4g ?_; refine q0k rfl _ _ rfl rfl rfl HZ.out F1 ?_; intro _ t1 ht; (try replace b := q0b b ht (by omega) (by omega)); replace F1 := t1; clear ht) | (go_at_call 62; refine (HBB.out _ b).mono ?_; rintro _ _ ⟨hx, hc⟩; (try replace F1 := F1.later hc); (try replace b := later b hc); clear hc; replace hx := hx.resolve_right (fun h => by cases h.1); obtain ⟨_, tv, fv, rfl, T3, T4⟩ := hx))
   exact bodyPost_ret (q3d rfl _ _ _ _ _ rfl rfl rfl rfl F1) rfl ⟨rfl, b⟩
 ·have hbod : bodB l = ((zero32, 0), (0, 2)) := by unfold bodB; rw [if_neg hm]
  have hm' : l.all mayD = false := by simpa using hm
  rw [hbod]
  rw [hm'] at HBB
  clear hm hm' hbod hok hf h
  generalize l.length = n at *
  have mF1 := True.intro
  go_enter Tryz.func25, Tryz.ntmps25
  go_wp2_with (first | (with_reducible refine w3g ?_; clear mF1; refine q0r rfl rfl ?_; intro _ g1 hg1 F1 hb; (try have := F1.lt); (try have := z.lt); (try have := b.size); (try replace b := later b hb); clear hb) | (with_reducible refine w5g ?_; refine q2n rfl rfl ?_) | (with_reducible refine w4g ?_; refine q0k rfl _ _ rfl rfl rfl HZ.out F1 ?_; intro _ t1 ht; (try replace b := q0b b ht (by omega) (by omega)); replace F1 := t1; clear ht) | (go_at_call 62; refine (HBB.out _ b).mono ?_; rintro _ _ ⟨hx, hc⟩; (try replace F1 := F1.later hc); (try replace b := later b hc); clear hc; replace hx := hx.resolve_left (fun h => by cases h.1); obtain ⟨_, rfl⟩ := hx))
  exact bodyPost_ret (q3d rfl _ _ _ _ _ rfl rfl rfl rfl F1) rfl ⟨rfl, b⟩
section
variable {ops : Array Oper} {rest : List Oper} {o : Oper} {a : Act} {w w0 : World} {Q : Exit → Act → World → Prop} {K : Act → Prop}
theorem j3y (hgd : o.guard = none) (x y : Operand) (ho : o.op = .store 34 x y) {g : Nat} {d : WitT} {l : List UInt8} (hx : a.eval x = .pointer (some ⟨g, 0, none⟩)) (hy : a.eval y = hv l) (hl : l.length = 32) (h : WitAt w g d)
  (hk : ∀ w2, WitAt w2 g { d with key := l } → Touch (fun b => b = g) w w2 → wpList Tryz.prog ops Q rest (a.put o.dst undef) w2) : wpList Tryz.prog ops Q (o :: rest) a w :=
 q2r hgd 34 x y ho hx hy h.arr (by rw [q0c, hl]; exact hashSz32) (by rw [q4k h.ok, q0c, hl]; omega) (fun v hv => List.all_eq_true.1 (q1f l) v hv) (witCs { d with key := l }) (by
  rw [q9j (A := ([] : List Value)) (X := bvs d.key) (B := [.string d.sig]) (by simp [witCs]) (by simp [q0c]) (by rw [q0c, q0c, hl, show d.key.length = 32 from h.ok])]
  simp [witCs]) (fun w2 ha ht => hk w2 ⟨hl, ha⟩ ht)
theorem j3g (hgd : o.guard = none) (x y : Operand) (ho : o.op = .store 9 x y) {g : Nat} {d : WitT} {s : ByteArray} (hx : a.eval x = .pointer (some ⟨g, 32, none⟩)) (hy : a.eval y = .string s) (h : WitAt w g d)
  (hk : ∀ w2, WitAt w2 g { d with sig := s } → Touch (fun b => b = g) w w2 → wpList Tryz.prog ops Q rest (a.put o.dst undef) w2) : wpList Tryz.prog ops Q (o :: rest) a w :=
 q0i hgd 9 x y ho hx hy h.arr (by rw [q4k h.ok]; omega) strSz rfl rfl (fun w2 ha ht => hk w2 ⟨h.ok, by
  rw [q7t (A := bvs d.key) (B := []) (by simp [witCs] <;> rfl) (by simp [q0c, show d.key.length = 32 from h.ok])] at ha
  simpa [witCs] using ha⟩ ht)
end
theorem j5o {w : World} {g k : Nat} {l : List UInt8} (h : Cells w g k (bvs l)) {n : Nat} (cap : Nat) (hn : l.length = n) : (convert 93 9 (.slice (some ⟨g, k, none⟩) n cap)).run Tryz.prog w = .ok (.string ⟨l.toArray⟩) w := by
 subst hn
 refine run_convert_bytes_back w _ _ 5 ⟨g, k, none⟩ cap l Tryz.underlying93 Tryz.underlying5 Tryz.underlying9 (fun j hj => ?_)
 rw [Cells.add]
 exact h j _ (by unfold bvs; rw [List.getElem?_map, List.getElem?_eq_getElem hj]; rfl)
section
variable {ops : Array Oper} {rest : List Oper} {o : Oper} {a : Act} {w w0 : World} {Q : Exit → Act → World → Prop} {K : Act → Prop} {g k n cap : Nat} {l : List UInt8}
theorem j9g (x : Operand) (ho : o.op = .convert 93 9 x) (hx : a.eval x = .slice (some ⟨g, k, none⟩) n cap) (h : Cells w g k (bvs l)) (hn : l.length = n) : (execOp a.eval o).run Tryz.prog w = .ok (.value (.string ⟨l.toArray⟩)) w := by
 unfold execOp
 simp only [ho, hx, Sem.run_bind, j5o h cap hn, Result.andThen_ok, Sem.run_pure]
end
end Go.Proofs.YtbbfnpfkbbpjgaaGreat
