/- block.Take. -/
import Derived.Test.YtbbfnpfkbbpjgaaGreatQHDgText
import Derived.Test.YtbbfnpfkbbpjgaaGreatQHBkR3
import Derived.Test.YtbbfnpfkbbpjgaaGreatQHBlkU
namespace Go.Proofs.YtbbfnpfkbbpjgaaGreat
open Go.RowKit Go.Lib
set_option linter.unusedVariables false
set_option linter.unusedSimpArgs false
set_option maxRecDepth 100000
set_option maxHeartbeats 4000000
theorem errZero : (Tryz.prog.info? 32).bind (·.zero) = some (.int .i64 0) := by kernel_rfl
theorem strZero : (Tryz.prog.info? 9).bind (·.zero) = some (.string ⟨#[]⟩) := by kernel_rfl
theorem errSize : (Tryz.prog.info? 32).map (·.size) = some 1 := by kernel_rfl
theorem errFlat : flat Tryz.prog 32 = true := by kernel_rfl
theorem q4e {fn : Func} {p q : Tmp} (hr : fn.results = #[.cell p 51, .cell q 32]) (tmps : Array Value) (w : World) {g g' : Nat} {d : Hd} {x c : Value} (hp : tmps.getD p undef = .pointer (some ⟨g, 0, none⟩)) (hq : tmps.getD q undef = .pointer (some ⟨g', 0, none⟩)) (h : KAt w g d x) (h2 : One w g' 32 c) :
  (results fn tmps).run Tryz.prog w = .ok (.tuple #[blkV d x, c]) w := by
 have e1 : (loadVar 51 ⟨g, 0, none⟩).run Tryz.prog w = .ok (blkV d x) w := run_loadVar_row w g 51 51 (blkCs d x).toArray (0, 0) _ h.arr Tryz.underlying51 rfl (by rw [List.size_toArray, q2p x h.ok]; exact blkSize)
 have e2 : (loadVar 32 ⟨g', 0, none⟩).run Tryz.prog w = .ok c w := j1s errFlat h2.cell
 have e : (results fn tmps).run Tryz.prog w = ((asAddr (tmps.getD p undef)).run Tryz.prog w).andThen fun a w₁ => ((loadVar 51 a).run Tryz.prog w₁).andThen fun v w₂ => ((asAddr (tmps.getD q undef)).run Tryz.prog w₂).andThen fun a' w₃ => ((loadVar 32 a').run Tryz.prog w₃).andThen fun u w₄ => .ok (.tuple #[v, u]) w₄ := by
  simp only [results, hr]
  simp [Sem.run_bind, Result.andThen]
 rw [e, hp, hq]
 simp [asAddr, e1, e2]
theorem j0x {F : Fence} {n : Nat} {P : Program} {fn : Func} {R : Ending → World → Prop} {a : Act} {w : World} {v : Value} (hd : a.defers = []) (hr : (results fn a.tmps).run P w = .ok v w) (h : R (.returned v) w) : bodyPostM F n P fn R .ret a w := by
 show LeavesInM F n P fn a.tmps R a.defers .returning w
 rw [hd]
 exact ⟨v, hr, h⟩
theorem q7v {F : Fence} {n D : Nat} {P : Program} {fn : Func} {R : Ending → World → Prop} {a : Act} {w : World} {v : Value} (hd : a.defers = [{ target := .collected D, args := #[] }]) (hK : w.heap[D]? = some (.deferred (some []))) (hr : (results fn a.tmps).run P (w.putObj D (.deferred none)) = .ok v (w.putObj D (.deferred none))) (h : R (.returned v) (w.putObj D (.deferred none))) : bodyPostM F n P fn R .ret a w := by
 show LeavesInM F n P fn a.tmps R a.defers .returning w
 rw [hd]
 exact ⟨by simp, .inl ⟨_, _, rfl, run_takeDeferred hK, v, hr, h⟩⟩
theorem z2s {d : Deed} (h : d.FewW) : d.Fit := by
 have h1 := h.few.ins
 have h2 := h.few.outs
 have h3 := h.few.certs
 have h4 := h.few.pays
 have h5 := h.wits
 exact ⟨by omega, by omega, by omega, by omega, by omega⟩
theorem x1l : ∀ {p : List (List UInt8)} {l : List Deed}, decs p = some l → ∀ d ∈ l, d.Fit
 | [], l, h, d, hd => by unfold decs at h; cases h; simp at hd
 | x :: p, l, h, d, hd => by
  rw [j3n] at h
  by_cases hx : (takeD x).2 = 0
  ·rw [if_pos hx] at h
   cases hp : decs p with
   | none => rw [hp] at h; cases h
   | some l' =>
    rw [hp] at h
    cases h
    rcases List.mem_cons.1 hd with rfl | hd
    ·obtain ⟨h1, h2, _⟩ := z0n hx
     exact z2s (q7k h2 h1)
    ·exact x1l hp d hd
  ·rw [if_neg hx] at h; cases h
/-- Block k holds o. -/
def Ob (w : World) (k : Nat) (o : Obj) : Prop := w.heap[k]? = some o
theorem Ob.lt {w : World} {k : Nat} {o : Obj} (h : Ob w k o) : k < w.heap.size := (Array.getElem?_eq_some_iff.1 h).1
theorem Ob.touch {S : Nat → Prop} {w w' : World} {k : Nat} {o : Obj} (h : Ob w k o) (ht : Touch S w w') (hS : ¬ S k) : Ob w' k o := (ht.block k h.lt hS).trans h
theorem Ob.tt {g : Nat} {w w' : World} {k : Nat} {o : Obj} (h : Ob w k o) (ht : Touch (fun x => x = g) w w') (hS : ¬ k = g := by omega) : Ob w' k o := h.touch ht hS
theorem Ob.later {w w' : World} {k : Nat} {o : Obj} (h : Ob w k o) (hb : Below w.heap.size w w') : Ob w' k o := h.touch (q2s (S := fun _ => False) hb) (fun h => h)
theorem j8d (s : ByteArray) (w : World) (hs : s.size ≤ 1048576) :
    Calls Tryz.prog 27 #[.string s] w fun e w' => (∃ v, e = .returned (.tuple #[v, .int .i64 (takB s.data.toList).2]) ∧ BlkIs w' v (takB s.data.toList).1) ∧ Below w.heap.size w w' := by
  have hz : s.data.toList.length = s.size := by simp
  have b := Below.refl w.heap.size w
  have HZO := hide q4w
  have HB0 := hide blkBuilt0
  obtain ⟨T, hT⟩ : ∃ T, T = takB s.data.toList := ⟨_, rfl⟩
  rw [← hT]
  by_cases h0 : s.size < 2320
  · have c0 : decide ((s.size : Int) < 2320) = true := decide_eq_true (by omega)
    have HR : Hid (T = (blk0, 6)) := by rw [hT]; exact z0y (by rw [hz]; exact h0)
    clear hT hz
    have mF2 := True.intro
    have mFE := True.intro
    have mF4 := True.intro
    have mF5 := True.intro
    have mF9 := True.intro
    have mFL := True.intro
    refine (callsIn_wide (n := 3)).1 (callsIn_of_wp_marks Tryz.func27 rfl trivial ?_ rfl)
    simp only [Tryz.ntmps27, List.size_toArray, List.length_cons, List.length_nil, Nat.reduceAdd, Nat.reduceSub, Array.replicate_succ, Array.replicate_zero, List.push_toArray, List.append_toArray, List.nil_append, List.cons_append]
    refine wpIn_wide.2 ?_
    go_wp2_with (first | (with_reducible refine w22g ?_; first | (clear mF2; refine q0z rfl rfl ?_; have qb2 := b.size; intro _ g2 hg2 F2 hb; replace b := later b hb; clear hb) | (clear mF4; refine q0z rfl rfl ?_; have qb4 := b.size; have q2a := F2.lt; have qEa := FE.lt; intro _ g4 hg4 F4 hb; (try replace F2 := F2.later hb); (try replace FE := FE.later hb); replace b := later b hb; clear hb)) | ((with_reducible refine w26g ?_); clear mFE; refine q5e rfl 32 rfl errZero (cs := [.int .i64 0]) rfl ?_; have q2b := F2.lt; have qbE := b.size; intro _ gE hgE FE hb; have FE : One _ gE 32 (.int .i64 0) := FE; (try replace F2 := F2.later hb); replace b := later b hb; clear hb) | ((with_reducible refine w19g ?_); first | refine q0q rfl 51 rfl (cs := blkCs hd0 nilD) HB0.out ?_) | (with_reducible refine w16g ?_; refine q0v rfl _ rfl rfl F4 ?_) | ((with_reducible refine w23g ?_); refine q0j rfl _ _ rfl rfl rfl HZO.out rfl F2 ?_; intro _ t1 ht1; clear F2; replace FE := FE.tt ht1; replace b := q0b b ht1 (by omega) (Nat.le_refl _); have F2 := t1; clear t1 ht1) | ((with_reducible refine w27g ?_); refine q0i rfl 32 _ _ rfl rfl rfl FE Nat.zero_lt_one errSize rfl rfl ?_; intro _ t1 ht1; clear FE; replace F2 := F2.tt ht1; replace b := q0b b ht1 (by omega) (Nat.le_refl _); have FE : One _ gE 32 (.int .i64 6) := t1; clear t1 ht1) | ((with_reducible refine w23g ?_); first | (refine q0j rfl _ _ rfl rfl (d := hd0) (v := nilD) rfl HZO.out rfl F4 ?_; intro _ t1 ht1; clear F4; (try replace F2 := F2.tt ht1); (try replace FE := FE.tt ht1); replace b := q0b b ht1 (by omega) (Nat.le_refl _); have F4 := t1; clear t1 ht1)))
    exact j0x rfl (q4e rfl _ _ rfl rfl F2 FE) ⟨⟨_, by rw [HR.out], by rw [HR.out]; exact ⟨_, rfl, q3z _, q4w⟩⟩, b⟩
  have c0 : decide ((s.size : Int) < 2320) = false := decide_eq_false (by omega)
  have q0 : 2320 ≤ s.size := by omega
  have hl0 : ¬ s.data.toList.length < 2320 := by rw [hz]; omega
  have hL : (s.data.toList.take 2320).length = 2320 := by rw [List.length_take, hz]; omega
  obtain ⟨h, hh⟩ : ∃ h, h = hdOf (s.data.toList.take 2320) := ⟨_, rfl⟩
  have HHO : Hid h.Ok := by rw [hh]; exact x0c hL
  obtain ⟨sh, hsh⟩ : ∃ u : ByteArray, u = s.extract 0 2320 := ⟨_, rfl⟩
  have HHT : Hid (∀ w, Calls Tryz.prog 66 #[.string sh] w fun e w' => e = .returned (.tuple #[hdV h, .int .i64 0]) ∧ Below w.heap.size w w') := fun w => by
    rw [hsh, ext_h, hh]
    exact x6o _ hL w
  obtain ⟨s2, hs2⟩ : ∃ u : ByteArray, u = s.extract 2320 s.size := ⟨_, rfl⟩
  have e2 : s2.data.toList = s.data.toList.drop 2320 := by rw [hs2]; exact j5k s 2320
  have hz2 : s2.size ≤ 1048576 := by rw [hs2, j3z]; omega
  have HTK := hide (fun w => q9i s2 w (by omega))
  have HBB1 := hide (blkBuilt1 HHO.out)
  unfold takeV at HTK
  cases hq : takeO s2.data.toList with
  | none =>
    have HR : Hid (T = (blk0, 6)) := by rw [hT]; exact z1k hl0 (by rw [← e2]; exact hq)
    rw [hq] at HTK
    clear hT hz hl0 hL hh hq e2
    have mF2 := True.intro
    have mFE := True.intro
    have mF4 := True.intro
    have mF5 := True.intro
    have mF9 := True.intro
    have mFL := True.intro
    refine (callsIn_wide (n := 3)).1 (callsIn_of_wp_marks Tryz.func27 rfl trivial ?_ rfl)
    simp only [Tryz.ntmps27, List.size_toArray, List.length_cons, List.length_nil, Nat.reduceAdd, Nat.reduceSub, Array.replicate_succ, Array.replicate_zero, List.push_toArray, List.append_toArray, List.nil_append, List.cons_append]
    refine wpIn_wide.2 ?_
    go_wp2_with (first | (with_reducible refine w22g ?_; first | (clear mF2; refine q0z rfl rfl ?_; have qb2 := b.size; intro _ g2 hg2 F2 hb; replace b := later b hb; clear hb) | (clear mF4; refine q0z rfl rfl ?_; have qb4 := b.size; have q2a := F2.lt; have qEa := FE.lt; intro _ g4 hg4 F4 hb; (try replace F2 := F2.later hb); (try replace FE := FE.later hb); replace b := later b hb; clear hb)) | ((with_reducible refine w26g ?_); clear mFE; refine q5e rfl 32 rfl errZero (cs := [.int .i64 0]) rfl ?_; have q2b := F2.lt; have qbE := b.size; intro _ gE hgE FE hb; have FE : One _ gE 32 (.int .i64 0) := FE; (try replace F2 := F2.later hb); replace b := later b hb; clear hb) | ((with_reducible refine w19g ?_); first | refine q0q rfl 51 rfl (cs := blkCs hd0 nilD) HB0.out ?_) | (go_at_call 66; rw [← hsh]; refine (HHT.out _).mono ?_; rintro _ _ ⟨rfl, hb⟩; (try replace F2 := F2.later hb); (try replace FE := FE.later hb); (try replace F4 := F4.later hb); replace b := later b hb; clear hb) | (with_reducible refine w24g ?_; clear mF5; refine q4s rfl rfl ?_; have qb5 := b.size; have q2d := F2.lt; have qEd := FE.lt; have q4d := F4.lt; intro _ g5 hg5 F5 hb; (try replace F2 := F2.later hb); (try replace FE := FE.later hb); (try replace F4 := F4.later hb); replace b := later b hb; clear hb) | ((with_reducible refine w25g ?_); refine q3x rfl _ _ rfl rfl rfl HHO.out F5 ?_; intro _ t1 ht1; clear F5; replace F2 := F2.tt ht1; replace FE := FE.tt ht1; replace F4 := F4.tt ht1; replace b := q0b b ht1 (by omega) (Nat.le_refl _); have F5 := t1; clear t1 ht1) | (go_at_call 67; rw [← hs2]; refine (HTK.out _).mono ?_; rintro _ _ ⟨⟨c, rfl, hc0⟩, hb⟩; have hcn : c ≠ 0 := (fun h => by have := hc0.1 h; cases this); have hcb : (c != 0) = true := bne_iff_ne.2 hcn; clear hc0 hcn; (try replace F2 := F2.later hb); (try replace FE := FE.later hb); (try replace F4 := F4.later hb); (try replace F5 := F5.later hb); replace b := later b hb; clear hb) | (with_reducible refine w16g ?_; refine q0v rfl _ rfl rfl F4 ?_) | ((with_reducible refine w23g ?_); refine q0j rfl _ _ rfl rfl rfl HZO.out rfl F2 ?_; intro _ t1 ht1; clear F2; replace FE := FE.tt ht1; replace b := q0b b ht1 (by omega) (Nat.le_refl _); have F2 := t1; clear t1 ht1) | ((with_reducible refine w27g ?_); refine q0i rfl 32 _ _ rfl rfl rfl FE Nat.zero_lt_one errSize rfl rfl ?_; intro _ t1 ht1; clear FE; replace F2 := F2.tt ht1; replace b := q0b b ht1 (by omega) (Nat.le_refl _); have FE : One _ gE 32 (.int .i64 6) := t1; clear t1 ht1) | ((with_reducible refine w23g ?_); first | (refine q0j rfl _ _ rfl rfl (d := hd0) (v := nilD) rfl HZO.out rfl F4 ?_; intro _ t1 ht1; clear F4; (try replace F2 := F2.tt ht1); (try replace FE := FE.tt ht1); replace b := q0b b ht1 (by omega) (Nat.le_refl _); have F4 := t1; clear t1 ht1)))
    exact j0x rfl (q4e rfl _ _ rfl rfl F2 FE) ⟨⟨_, by rw [HR.out], by rw [HR.out]; exact ⟨_, rfl, q3z _, q4w⟩⟩, b⟩
  | some x =>
    obtain ⟨n, k⟩ := x
    have h2 : takeO (s.data.toList.drop 2320) = some (n, k) := by rw [← e2]; exact hq
    obtain ⟨hn64, -, -, hkl⟩ := q6n hq
    have hk2 : k ≤ s2.size := by
      have : s2.data.toList.length = s2.size := by simp
      omega
    have qk : 2320 + k ≤ s.size := by rw [hs2, j3z] at hk2; omega
    rw [hq] at HTK
    by_cases hn : 16 < n
    · have HR : Hid (T = (blk0, 6)) := by rw [hT]; exact z1g hl0 h2 hn
      have c1 : decide ((16 : Int) < (n : Int)) = true := decide_eq_true (by omega)
      clear hT hz hl0 hL hh hq e2 h2
      have mF2 := True.intro
      have mFE := True.intro
      have mF4 := True.intro
      have mF5 := True.intro
      have mF9 := True.intro
      have mFL := True.intro
      refine (callsIn_wide (n := 3)).1 (callsIn_of_wp_marks Tryz.func27 rfl trivial ?_ rfl)
      simp only [Tryz.ntmps27, List.size_toArray, List.length_cons, List.length_nil, Nat.reduceAdd, Nat.reduceSub, Array.replicate_succ, Array.replicate_zero, List.push_toArray, List.append_toArray, List.nil_append, List.cons_append]
      refine wpIn_wide.2 ?_
      go_wp2_with (first | (with_reducible refine w22g ?_; first | (clear mF2; refine q0z rfl rfl ?_; have qb2 := b.size; intro _ g2 hg2 F2 hb; replace b := later b hb; clear hb) | (clear mF4; refine q0z rfl rfl ?_; have qb4 := b.size; have q2a := F2.lt; have qEa := FE.lt; intro _ g4 hg4 F4 hb; (try replace F2 := F2.later hb); (try replace FE := FE.later hb); replace b := later b hb; clear hb)) | ((with_reducible refine w26g ?_); clear mFE; refine q5e rfl 32 rfl errZero (cs := [.int .i64 0]) rfl ?_; have q2b := F2.lt; have qbE := b.size; intro _ gE hgE FE hb; have FE : One _ gE 32 (.int .i64 0) := FE; (try replace F2 := F2.later hb); replace b := later b hb; clear hb) | ((with_reducible refine w19g ?_); first | refine q0q rfl 51 rfl (cs := blkCs hd0 nilD) HB0.out ?_) | (go_at_call 66; rw [← hsh]; refine (HHT.out _).mono ?_; rintro _ _ ⟨rfl, hb⟩; (try replace F2 := F2.later hb); (try replace FE := FE.later hb); (try replace F4 := F4.later hb); replace b := later b hb; clear hb) | (with_reducible refine w24g ?_; clear mF5; refine q4s rfl rfl ?_; have qb5 := b.size; have q2d := F2.lt; have qEd := FE.lt; have q4d := F4.lt; intro _ g5 hg5 F5 hb; (try replace F2 := F2.later hb); (try replace FE := FE.later hb); (try replace F4 := F4.later hb); replace b := later b hb; clear hb) | ((with_reducible refine w25g ?_); refine q3x rfl _ _ rfl rfl rfl HHO.out F5 ?_; intro _ t1 ht1; clear F5; replace F2 := F2.tt ht1; replace FE := FE.tt ht1; replace F4 := F4.tt ht1; replace b := q0b b ht1 (by omega) (Nat.le_refl _); have F5 := t1; clear t1 ht1) | (go_at_call 67; rw [← hs2]; refine (HTK.out _).mono ?_; rintro _ _ ⟨⟨c, rfl, hc0⟩, hb⟩; have hcn : c = 0 := hc0.2 rfl; clear hc0; subst hcn; (try replace F2 := F2.later hb); (try replace FE := FE.later hb); (try replace F4 := F4.later hb); (try replace F5 := F5.later hb); replace b := later b hb; clear hb) | (with_reducible refine w16g ?_; refine q0v rfl _ rfl rfl F4 ?_) | ((with_reducible refine w23g ?_); refine q0j rfl _ _ rfl rfl rfl HZO.out rfl F2 ?_; intro _ t1 ht1; clear F2; replace FE := FE.tt ht1; replace b := q0b b ht1 (by omega) (Nat.le_refl _); have F2 := t1; clear t1 ht1) | ((with_reducible refine w27g ?_); refine q0i rfl 32 _ _ rfl rfl rfl FE Nat.zero_lt_one errSize rfl rfl ?_; intro _ t1 ht1; clear FE; replace F2 := F2.tt ht1; replace b := q0b b ht1 (by omega) (Nat.le_refl _); have FE : One _ gE 32 (.int .i64 6) := t1; clear t1 ht1) | ((with_reducible refine w23g ?_); first | (refine q0j rfl _ _ rfl rfl (d := hd0) (v := nilD) rfl HZO.out rfl F4 ?_; intro _ t1 ht1; clear F4; (try replace F2 := F2.tt ht1); (try replace FE := FE.tt ht1); replace b := q0b b ht1 (by omega) (Nat.le_refl _); have F4 := t1; clear t1 ht1)))
      exact j0x rfl (q4e rfl _ _ rfl rfl F2 FE) ⟨⟨_, by rw [HR.out], by rw [HR.out]; exact ⟨_, rfl, q3z _, q4w⟩⟩, b⟩
    have c1 : decide ((16 : Int) < (n : Int)) = false := decide_eq_false (by omega)
    obtain ⟨s3, hs3⟩ : ∃ u : ByteArray, u = s.extract (2320 + k) s.size := ⟨_, rfl⟩
    have e3 : s3.data.toList = (s.data.toList.drop 2320).drop k := by rw [hs3, j5k, List.drop_drop]
    have hz3 : s3.size ≤ 1048576 := by rw [hs3, j3z]; omega
    have HTN := hide (fun (h4 : dsP n s3.data.toList = none) => show T = (blk0, 6) by rw [hT]; exact z1h hl0 h2 hn (by rw [← e3]; exact h4))
    have HTS := hide (fun (l : List Deed) (r : List UInt8) (h4 : dsP n s3.data.toList = some (l, r)) => show T = if r = [] ∧ mayB ⟨h, l⟩ = true then (⟨h, l⟩, 0) else (blk0, 6) by rw [hT, hh]; exact z1b hl0 h2 hn (by rw [← e3]; exact h4))
    have HTL := hide (fun (gL : Nat) w => x9p s3 n gL w)
    have h16 : n ≤ 16 := by omega
    clear hT hz hl0 hL hh hq e2 h2 e3 hn hn64
    have mF2 := True.intro
    have mFE := True.intro
    have mF4 := True.intro
    have mF5 := True.intro
    have mF9 := True.intro
    have mFL := True.intro
    refine (callsIn_wide (n := 3)).1 (callsIn_of_wp_marks Tryz.func27 rfl trivial ?_ rfl)
    simp only [Tryz.ntmps27, List.size_toArray, List.length_cons, List.length_nil, Nat.reduceAdd, Nat.reduceSub, Array.replicate_succ, Array.replicate_zero, List.push_toArray, List.append_toArray, List.nil_append, List.cons_append]
    refine wpIn_wide.2 ?_
    go_wp2_with (first | (with_reducible refine w22g ?_; first | (clear mF2; refine q0z rfl rfl ?_; have qb2 := b.size; intro _ g2 hg2 F2 hb; replace b := later b hb; clear hb) | (clear mF4; refine q0z rfl rfl ?_; have qb4 := b.size; have q2a := F2.lt; have qEa := FE.lt; intro _ g4 hg4 F4 hb; (try replace F2 := F2.later hb); (try replace FE := FE.later hb); replace b := later b hb; clear hb) | (clear mF9; refine q0z rfl rfl ?_; have qb9 := b.size; have q2c := F2.lt; have qEc := FE.lt; have q4c := F4.lt; intro _ g9 hg9 F9 hb; (try replace F2 := F2.later hb); (try replace FE := FE.later hb); (try replace F4 := F4.later hb); (try replace F5 := F5.later hb); replace b := later b hb; clear hb)) | ((with_reducible refine w26g ?_); clear mFE; refine q5e rfl 32 rfl errZero (cs := [.int .i64 0]) rfl ?_; have q2b := F2.lt; have qbE := b.size; intro _ gE hgE FE hb; have FE : One _ gE 32 (.int .i64 0) := FE; (try replace F2 := F2.later hb); replace b := later b hb; clear hb) | ((with_reducible refine w19g ?_); first | refine q0q rfl 51 rfl (cs := blkCs hd0 nilD) HB0.out ?_ | refine q2x rfl 51 _ rfl rfl (cs := blkCs h nilD) HBB1.out ?_) | (go_at_call 66; rw [← hsh]; refine (HHT.out _).mono ?_; rintro _ _ ⟨rfl, hb⟩; (try replace F2 := F2.later hb); (try replace FE := FE.later hb); (try replace F4 := F4.later hb); replace b := later b hb; clear hb) | (with_reducible refine w24g ?_; clear mF5; refine q4s rfl rfl ?_; have qb5 := b.size; have q2d := F2.lt; have qEd := FE.lt; have q4d := F4.lt; intro _ g5 hg5 F5 hb; (try replace F2 := F2.later hb); (try replace FE := FE.later hb); (try replace F4 := F4.later hb); replace b := later b hb; clear hb) | ((with_reducible refine w25g ?_); refine q3x rfl _ _ rfl rfl rfl HHO.out F5 ?_; intro _ t1 ht1; clear F5; replace F2 := F2.tt ht1; replace FE := FE.tt ht1; replace F4 := F4.tt ht1; replace b := q0b b ht1 (by omega) (Nat.le_refl _); have F5 := t1; clear t1 ht1) | (with_reducible refine w9g ?_; refine q4a rfl _ rfl rfl F5 ?_) | (go_at_call 67; rw [← hs2]; refine (HTK.out _).mono ?_; rintro _ _ ⟨⟨c, rfl, hc0⟩, hb⟩; have hcn : c = 0 := hc0.2 rfl; clear hc0; subst hcn; (try replace F2 := F2.later hb); (try replace FE := FE.later hb); (try replace F4 := F4.later hb); (try replace F5 := F5.later hb); replace b := later b hb; clear hb) | ((with_reducible refine w23g ?_); first | (refine q0j rfl _ _ rfl rfl (d := hd0) (v := nilD) rfl HZO.out rfl F4 ?_; intro _ t1 ht1; clear F4; (try replace F2 := F2.tt ht1); (try replace FE := FE.tt ht1); replace b := q0b b ht1 (by omega) (Nat.le_refl _); have F4 := t1; clear t1 ht1) | (refine q0j rfl _ _ rfl rfl (d := h) (v := nilD) rfl HHO.out rfl F9 ?_; intro _ t1 ht1; clear F9; replace F2 := F2.tt ht1; replace FE := FE.tt ht1; replace F4 := F4.tt ht1; replace b := q0b b ht1 (by omega) (Nat.le_refl _); have F9 := t1; clear t1 ht1)) | ((with_reducible show wpList _ _ _ (⟨_, Op.alloc 9, _, _, _, _⟩ :: _) _ _); clear mFL; refine q5e rfl 9 rfl strZero (cs := [.string ⟨#[]⟩]) rfl ?_; have q2f := F2.lt; have qEf := FE.lt; have q4f := F4.lt; have q9f := F9.lt; have qbL := b.size; intro _ gL hgL FL hb; have FL : One _ gL 9 (.string ⟨#[]⟩) := FL; (try replace F2 := F2.later hb); (try replace FE := FE.later hb); (try replace F4 := F4.later hb); (try replace F9 := F9.later hb); replace b := later b hb; clear hb) | ((with_reducible refine w21g ?_); refine q0i rfl 9 _ _ rfl rfl rfl FL Nat.zero_lt_one strSize rfl rfl ?_; intro _ t1 ht1; clear FL; replace F2 := F2.tt ht1; replace FE := FE.tt ht1; replace F4 := F4.tt ht1; replace F9 := F9.tt ht1; replace b := q0b b ht1 (by omega) (Nat.le_refl _); have FL : One _ gL 9 (.string ⟨#[]⟩) := t1; clear t1 ht1) | (go_at_call 68; rw [← hs3]; have qL := FL.lt; refine (HTL.out gL _).mono ?_; rintro _ W0 ⟨⟨gp, gn, gs, rfl, hg3, hg32, hg21, hg1z, P1, P2, P3⟩, hb⟩; (try replace F2 := F2.later hb); (try replace FE := FE.later hb); (try replace F4 := F4.later hb); (try replace F9 := F9.later hb); (try replace FL := FL.later hb); replace b := later b hb; clear hb))
    refine (wpIn_wide (n := 3)).1 ?_
    have q2 : g2 < gL := by omega
    have qE : gE < gL := by omega
    have q4 : g4 < gL := by omega
    have q9 : g9 < gL := by omega
    have hz0 := b.size
    have qsL : gL < gs := by omega
    have hL3 : s3.data.toList.length ≤ 1048576 := by rw [Array.length_toList]; exact hz3
    have hD : Hid (∀ V, V = W0 → V.heap.size = W0.heap.size) := fun V h => by rw [h]
    obtain ⟨D, hDD⟩ : ∃ D, D = W0.heap.size := ⟨_, rfl⟩
    refine j4k (q := 11) (gp := gp) (gn := gn) (gs := gs) (gL := gL) (N := n) (L := s3.data.toList) rfl (by omega) (by omega) (by omega) (by omega) (by omega) (by omega) (by omega) (by omega) (by omega) P1 P2 P3 _ FL hL3 h16
      (fun pre V => ∃ (ds : List Deed) (v : Value), Hid (decs pre = some ds) ∧ KAt V g9 h v ∧ DsOwn V (D + 2) v ds ∧ KAt V g2 hd0 nilD ∧ One V gE 32 (.int .i64 0) ∧ KAt V g4 hd0 nilD ∧ Below w.heap.size w V)
      (fun V => KAt V g2 hd0 nilD ∧ One V gE 32 (.int .i64 6) ∧ Below w.heap.size w V ∧ Hid (decs (txP n s3.data.toList).1 = none))
      ⟨[], nilD, hide rfl, F9, DsOwn.nil _ _, F2, FE, F4, b⟩ ?hJ ?hJx ?assign ?body ?done ?stop
    case hJ =>
      rintro pre V V' ⟨ds, v, HD, k1, k2, k3, k4, k5, k6⟩ ht
      rw [← hDD] at ht
      exact ⟨ds, v, HD, k1.touch ht (by omega), k2.touch ht (fun b hb => by omega), k3.touch ht (by omega), One.touch k4 ht (by omega), k5.touch ht (by omega), k6.trans (ht.below k6.size (fun x hx => by omega))⟩
    case hJx =>
      rintro V V' ⟨k1, k2, k3, k4⟩ ht
      rw [← hDD] at ht
      exact ⟨k1.touch ht (by omega), One.touch k2 ht (by omega), k3.trans (ht.below k3.size (fun x hx => by omega)), k4⟩
    case assign =>
      intro x V K hK
      refine q4y (fun ⟨_, _, hh⟩ => hh) rfl ?_
      simp only [List.setIfInBounds_toArray, List.set_cons_succ, List.set_cons_zero] at hK ⊢
      go_wp2_with fail
      exact hK
    case body =>
      rintro pre x post V hsp ⟨ds, v, HD, F9, O7, F2, FE, F4, b⟩ hBz
      rw [← hDD] at hBz ⊢
      have hxl : x.length ≤ 32768 := z1e n s3.data.toList x (by rw [hsp]; simp)
      have hpl : pre.length < n := by
        have := j1b n s3.data.toList
        rw [hsp] at this
        simp only [List.length_append, List.length_cons] at this
        omega
      have hjl := q9b HD.out
      obtain ⟨sx, hsx⟩ : ∃ u : ByteArray, u = ⟨x.toArray⟩ := ⟨_, rfl⟩
      have hxd : sx.data.toList = x := by rw [hsx]
      have hxz : sx.size ≤ 1048576 := by rw [hsx]; show x.toArray.size ≤ _; rw [List.size_toArray]; omega
      have HRT := hide (fun w => j8r sx w hxz)
      rw [hxd] at HRT
      have HDN := hide (fun (h2 : (takeD x).2 ≠ 0) => x0z (p := (txP n s3.data.toList).1) (t := x) (by rw [hsp]; simp) h2)
      have HDY := hide (fun (h2 : (takeD x).2 = 0) => j8l HD.out h2)
      generalize (takeD x).1 = dd at *
      generalize (takeD x).2 = dc at *
      obtain ⟨ob1, hob1⟩ : ∃ o, V.heap[D + 1]? = some o := ⟨_, Array.getElem?_eq_getElem (by omega)⟩
      obtain ⟨ob2, hob2⟩ : ∃ o, V.heap[D]? = some o := ⟨_, Array.getElem?_eq_getElem (by omega)⟩
      obtain ⟨oc1, hoc1⟩ : ∃ o, V.heap[gp]? = some o := ⟨_, Array.getElem?_eq_getElem (by omega)⟩
      obtain ⟨oc2, hoc2⟩ : ∃ o, V.heap[gn]? = some o := ⟨_, Array.getElem?_eq_getElem (by omega)⟩
      obtain ⟨oc3, hoc3⟩ : ∃ o, V.heap[gs]? = some o := ⟨_, Array.getElem?_eq_getElem (by omega)⟩
      obtain ⟨oc4, hoc4⟩ : ∃ o, V.heap[gL]? = some o := ⟨_, Array.getElem?_eq_getElem (by omega)⟩
      have OB1 : Ob V (D + 1) ob1 := hob1
      have OB2 : Ob V D ob2 := hob2
      have OC1 : Ob V gp oc1 := hoc1
      have OC2 : Ob V gn oc2 := hoc2
      have OC3 : Ob V gs oc3 := hoc3
      have OC4 : Ob V gL oc4 := hoc4
      obtain ⟨j, hj⟩ : ∃ j, j = ds.length := ⟨_, rfl⟩
      have HLN : Hid (ds.length = j) := hj.symm
      have hj16 : j ≤ 16 := by omega
      obtain ⟨a7, c7, rfl⟩ := O7.shape
      rw [HLN.out] at F9 O7
      have h7g : ∀ y, (Value.slice a7 j c7).ownBlock = some y → D + 2 ≤ y := O7.ge
      have mF5 := True.intro
      rw [← hsx]
      have hw2 : w.heap.size ≤ g2 := by omega
      clear hj hjl hsx hxd hxz hxl HTN HTS HTL P1 P2 P3 HD
      simp only [List.setIfInBounds_toArray, List.set_cons_succ, List.set_cons_zero]
      refine wpIn_block ?_
      refine wpIn_seq ?_
      refine q4y (fun ⟨_, _, hh⟩ => hh) rfl ?_
      by_cases hdc : dc = 0
      · subst hdc
        have HDY2 := hide (HDY.out rfl)
        clear HDY HDN
        go_wp2_with (first | (go_at_call 48; have hv7 := O7.lt; have hBd := hBz; refine (HRT.out _).mono ?_; rintro _ _ ⟨⟨v', rfl, IO⟩, hb⟩; (try replace F2 := F2.later hb); (try replace FE := FE.later hb); (try replace F4 := F4.later hb); (try replace F9 := F9.later hb); (try replace O7 := O7.later hb); (try replace OB1 := OB1.later hb); (try replace OB2 := OB2.later hb); (try replace OC1 := OC1.later hb); (try replace OC2 := OC2.later hb); (try replace OC3 := OC3.later hb); (try replace OC4 := OC4.later hb); replace b := later b hb; (try replace hBz := Nat.le_trans hBz hb.size); clear hb; obtain ⟨D2, hD2, K2⟩ := IO.kpd; obtain ⟨y1, y2, y3, y4, y5, rfl, S1, S2, S3, S4, S5, hok⟩ := K2.now; have o1 := S1.one'; have o2 := S2.one'; have o3 := S3.one'; have o4 := S4.one'; have o5 := S5.one'; clear S1 S2 S3 S4 S5 hok IO) | (with_reducible refine w12g ?_; clear mF5; refine q1x rfl rfl ?_; intro _ g5 hg5 F5 ha; simp only [pS]) | ((with_reducible refine w13g ?_); refine q1b rfl _ _ rfl rfl (v1 := y1) (v2 := y2) (v3 := y3) (v4 := y4) (v5 := y5) (f := dd.fee) (s := dd.frm) (t := dd.til) rfl o1 o2 o3 o4 o5 F5 ?_; intro _ t1 ht1; have hb := q0b ha ht1 hg5 (Nat.le_refl _); clear F5; (try replace F2 := F2.later hb); (try replace FE := FE.later hb); (try replace F4 := F4.later hb); (try replace F9 := F9.later hb); (try replace O7 := O7.later hb); (try replace K2 := K2.later hb); (try replace hD2 := (fun y hy => ⟨(hD2 y hy).1, Nat.lt_of_lt_of_le (hD2 y hy).2 hb.size⟩ : ∀ y, D2 y → _ ∧ _)); (try replace OB1 := OB1.later hb); (try replace OB2 := OB2.later hb); (try replace OC1 := OC1.later hb); (try replace OC2 := OC2.later hb); (try replace OC3 := OC3.later hb); (try replace OC4 := OC4.later hb); replace b := later b hb; (try replace hBz := Nat.le_trans hBz hb.size); have F5 := t1; clear t1 ht1 ha hb; simp only [pS]))
        refine wpIn_seq ?_
        refine wpIn_seq ?_
        refine q4y (fun ⟨_, _, hh⟩ => hh) rfl ?_
        go_wp2_with fail
        refine wpIn_cond_false (by simp [Act.eval]) ?_
        refine wpIn_skip ?_
        (try simp only [Exit.inBlock, Exit.then])
        refine q4y (fun ⟨_, _, hh⟩ => hh) rfl ?_
        go_wp2_with (first | (with_reducible refine w0g ?_; refine q0a rfl 42 _ rfl rfl (KAt.ds F9) (by kernel_rfl) ?_) | (with_reducible refine w11g ?_; refine q1g rfl _ rfl rfl F5 ?_) | ((with_reducible refine w7g ?_); refine j8n rfl _ rfl rfl o1 o2 o3 o4 o5 ?_; intro _ g9' _ S9 hb; (try replace F2 := F2.later hb); (try replace FE := FE.later hb); (try replace F4 := F4.later hb); (try replace F5 := F5.later hb); (try replace F9 := F9.later hb); (try replace O7 := O7.later hb); (try replace K2 := K2.later hb); (try replace hD2 := (fun y hy => ⟨(hD2 y hy).1, Nat.lt_of_lt_of_le (hD2 y hy).2 hb.size⟩ : ∀ y, D2 y → _ ∧ _)); (try replace OB1 := OB1.later hb); (try replace OB2 := OB2.later hb); (try replace OC1 := OC1.later hb); (try replace OC2 := OC2.later hb); (try replace OC3 := OC3.later hb); (try replace OC4 := OC4.later hb); replace b := later b hb; (try replace hBz := Nat.le_trans hBz hb.size); clear hb) | ((with_reducible refine w15g ?_); refine j1p rfl _ _ rfl rfl O7 rfl S9 K2 hD2 hv7 hBd o1 o2 o3 o4 o5 (j + 1) (by rw [HLN.out]) (by omega) hBz ?_; intro a8 c8 _ O8 ht; replace OB1 := OB1.touch ht (fun hh => by have := h7g _ hh; omega); replace OB2 := OB2.touch ht (fun hh => by have := h7g _ hh; omega); replace OC1 := OC1.touch ht (fun hh => by have := h7g _ hh; omega); replace OC2 := OC2.touch ht (fun hh => by have := h7g _ hh; omega); replace OC3 := OC3.touch ht (fun hh => by have := h7g _ hh; omega); replace OC4 := OC4.touch ht (fun hh => by have := h7g _ hh; omega); replace F9 := F9.touch ht (fun hh => by have := h7g _ hh; omega); replace F2 := F2.touch ht (fun hh => by have := h7g _ hh; omega); replace F4 := F4.touch ht (fun hh => by have := h7g _ hh; omega); replace FE := One.touch FE ht (fun hh => by have := h7g _ hh; omega); replace b := b.trans (ht.below (B := w.heap.size) b.size (fun y hy => by have := h7g y hy; omega)); clear O7 ht K2 S9 hD2) | ((with_reducible show wpList _ _ _ (⟨_, Op.store 42 _ _, _, _, _, _⟩ :: _) _ _); refine j4x rfl _ _ rfl rfl rfl rfl rfl F9 ?_; intro _ t1 ht1; clear F9; replace O8 := O8.tt ht1 (by omega); replace OB1 := OB1.tt ht1; replace OB2 := OB2.tt ht1; replace OC1 := OC1.tt ht1; replace OC2 := OC2.tt ht1; replace OC3 := OC3.tt ht1; replace OC4 := OC4.tt ht1; replace F2 := F2.tt ht1; replace FE := FE.tt ht1; replace F4 := F4.tt ht1; replace b := q0b b ht1 (by omega) (Nat.le_refl _); have F9 := t1; clear t1 ht1))
        exact x7w ⟨ds ++ [dd], .slice a8 (j + 1) c8, HDY2, F9, O8, F2, FE, F4, b⟩ (fun y hy => by
          rcases hy with rfl | rfl | rfl | rfl
          · exact OC1.trans hoc1.symm
          · exact OC2.trans hoc2.symm
          · exact OC3.trans hoc3.symm
          · exact OC4.trans hoc4.symm) (OB1.trans hob1.symm) (OB2.trans hob2.symm)
      · have hcb : (dc != 0) = true := bne_iff_ne.2 hdc
        have HDN2 := hide (HDN.out hdc)
        clear HDY HDN hdc
        go_wp2_with (first | (go_at_call 48; have hv7 := O7.lt; have hBd := hBz; refine (HRT.out _).mono ?_; rintro _ _ ⟨⟨v', rfl, IO⟩, hb⟩; (try replace F2 := F2.later hb); (try replace FE := FE.later hb); (try replace F4 := F4.later hb); (try replace F9 := F9.later hb); (try replace O7 := O7.later hb); (try replace OB1 := OB1.later hb); (try replace OB2 := OB2.later hb); (try replace OC1 := OC1.later hb); (try replace OC2 := OC2.later hb); (try replace OC3 := OC3.later hb); (try replace OC4 := OC4.later hb); replace b := later b hb; (try replace hBz := Nat.le_trans hBz hb.size); clear hb; obtain ⟨D2, hD2, K2⟩ := IO.kpd; obtain ⟨y1, y2, y3, y4, y5, rfl, S1, S2, S3, S4, S5, hok⟩ := K2.now; have o1 := S1.one'; have o2 := S2.one'; have o3 := S3.one'; have o4 := S4.one'; have o5 := S5.one'; clear S1 S2 S3 S4 S5 hok IO) | (with_reducible refine w12g ?_; clear mF5; refine q1x rfl rfl ?_; intro _ g5 hg5 F5 ha; simp only [pS]) | ((with_reducible refine w13g ?_); refine q1b rfl _ _ rfl rfl (v1 := y1) (v2 := y2) (v3 := y3) (v4 := y4) (v5 := y5) (f := dd.fee) (s := dd.frm) (t := dd.til) rfl o1 o2 o3 o4 o5 F5 ?_; intro _ t1 ht1; have hb := q0b ha ht1 hg5 (Nat.le_refl _); clear F5; (try replace F2 := F2.later hb); (try replace FE := FE.later hb); (try replace F4 := F4.later hb); (try replace F9 := F9.later hb); (try replace O7 := O7.later hb); (try replace K2 := K2.later hb); (try replace hD2 := (fun y hy => ⟨(hD2 y hy).1, Nat.lt_of_lt_of_le (hD2 y hy).2 hb.size⟩ : ∀ y, D2 y → _ ∧ _)); (try replace OB1 := OB1.later hb); (try replace OB2 := OB2.later hb); (try replace OC1 := OC1.later hb); (try replace OC2 := OC2.later hb); (try replace OC3 := OC3.later hb); (try replace OC4 := OC4.later hb); replace b := later b hb; (try replace hBz := Nat.le_trans hBz hb.size); have F5 := t1; clear t1 ht1 ha hb; simp only [pS]))
        refine wpIn_seq ?_
        refine wpIn_seq ?_
        refine q4y (fun ⟨_, _, hh⟩ => hh) rfl ?_
        go_wp2_with fail
        refine wpIn_cond_true (by simp [Act.eval, hcb]) ?_
        refine wpIn_seq ?_
        refine q4y (fun ⟨_, _, hh⟩ => hh) rfl ?_
        go_wp2_with (first | (with_reducible refine w16g ?_; refine q0v rfl _ rfl rfl F4 ?_) | ((with_reducible refine w23g ?_); refine q0j rfl _ _ rfl rfl rfl HZO.out rfl F2 ?_; intro _ t1 ht1; clear F2 F9 O7 F5 F4; replace FE := FE.tt ht1; replace OB1 := OB1.tt ht1; replace OB2 := OB2.tt ht1; replace OC1 := OC1.tt ht1; replace OC2 := OC2.tt ht1; replace OC3 := OC3.tt ht1; replace OC4 := OC4.tt ht1; replace b := q0b b ht1 (by omega) (Nat.le_refl _); have F2 := t1; clear t1 ht1) | ((with_reducible refine w27g ?_); refine q0i rfl 32 _ _ rfl rfl rfl FE Nat.zero_lt_one errSize rfl rfl ?_; intro _ t1 ht1; clear FE; replace F2 := F2.tt ht1; replace OB1 := OB1.tt ht1; replace OB2 := OB2.tt ht1; replace OC1 := OC1.tt ht1; replace OC2 := OC2.tt ht1; replace OC3 := OC3.tt ht1; replace OC4 := OC4.tt ht1; replace b := q0b b ht1 (by omega) (Nat.le_refl _); have FE : One _ gE 32 (.int .i64 6) := t1; clear t1 ht1))
        refine wpIn_ret ?_
        (try simp only [Exit.inBlock, Exit.then])
        exact rq_ret ⟨F2, FE, b, HDN2⟩ (OB1.trans hob1.symm) (OB2.trans hob2.symm)
    case done =>
      rintro V ⟨ds, v, HD, F9, O7, F2, FE, F4, b⟩ FL hK
      rw [← hDD] at hK ⊢
      have OB2 : Ob V D (.deferred (some [])) := hK
      have hdl : ds.length ≤ 16 := by rw [q9b HD.out]; exact Nat.le_trans (j1b _ _) h16
      have hfit := x1l HD.out
      have HM := hide (fun (w' : World) (O : DsOwn w' (D + 2) v ds) => j6p _ ⟨h, ds⟩ w' ⟨v, rfl, O.is, HHO.out⟩ (by show ds.length ≤ 1000; omega) hfit)
      have hBz : 0 ≤ V.heap.size := Nat.zero_le _
      obtain ⟨a7, c7, rfl⟩ := O7.shape
      have hdt := HD.out
      have hdp := x5m n s3.data.toList
      rw [hdt] at hdp
      have htn := HTN.out
      have hts := HTS.out
      clear HTN HTS HTL HTK HHT HBB1 P1 P2 P3 HD hfit hK
      generalize dsP n s3.data.toList = X at *
      generalize (txP n s3.data.toList).2 = Y at *
      cases Y with
      | none =>
        have HR : Hid (T = (blk0, 6)) := htn hdp
        have HE : Hid (((leftS none).toList == (⟨#[]⟩ : ByteArray).toList) = false) := by unfold Hid leftS; rw [ByteArray.toList_eq, ByteArray.toList_eq]; decide
        clear hdp htn hts HM hdt
        generalize leftS none = sl at *
        go_wp2_with (first | (with_reducible refine w0g ?_; refine q0a rfl 9 _ rfl rfl (One.cell FL) (by kernel_rfl) ?_) | (with_reducible refine w8g ?_; refine q5c rfl _ _ rfl rfl rfl HE.out ?_) | (with_reducible refine w16g ?_; refine q0v rfl _ rfl rfl F4 ?_) | ((with_reducible refine w23g ?_); refine q0j rfl _ _ rfl rfl rfl HZO.out rfl F2 ?_; intro _ t1 ht1; clear F2; replace FE := FE.tt ht1; (try replace OB2 := OB2.tt ht1); (try clear F9 O7 F5 FL); replace b := q0b b ht1 (by omega) (Nat.le_refl _); have F2 := t1; clear t1 ht1) | ((with_reducible refine w27g ?_); refine q0i rfl 32 _ _ rfl rfl rfl FE Nat.zero_lt_one errSize rfl rfl ?_; intro _ t1 ht1; clear FE; replace F2 := F2.tt ht1; (try replace OB2 := OB2.tt ht1); replace b := q0b b ht1 (by omega) (Nat.le_refl _); have FE : One _ gE 32 (.int .i64 6) := t1; clear t1 ht1))
        subst hDD
        have ht := fun V => q4b V W0.heap.size (.deferred none)
        exact q7v rfl OB2 (q4e rfl _ _ rfl rfl (F2.touch (ht _) (by show ¬ g2 = _; omega)) (One.touch FE (ht _) (by show ¬ gE = _; omega))) ⟨⟨_, by rw [HR.out], by rw [HR.out]; exact ⟨_, rfl, q3z _, q4w⟩⟩, b.trans ((ht _).below b.size (fun x hx => by have : x = W0.heap.size := hx; omega))⟩
      | some r =>
        have hts2 := hts ds r hdp
        clear hdp htn hts hdt
        by_cases hr : r = []
        · have HE : Hid (((leftS (some r)).toList == (⟨#[]⟩ : ByteArray).toList) = true) := by rw [hr]; unfold Hid leftS; rw [ByteArray.toList_eq]; exact beq_self_eq_true _
          generalize leftS (some r) = sl at *
          by_cases hm : mayB ⟨h, ds⟩ = true
          · have HR : Hid (T = (⟨h, ds⟩, 0)) := by rw [hts2, if_pos ⟨hr, hm⟩]; exact hide rfl
            rw [if_pos hm] at HM
            clear hts2 hr hm
            go_wp2_with (first | (with_reducible refine w0g ?_; refine q0a rfl 9 _ rfl rfl (One.cell FL) (by kernel_rfl) ?_) | (with_reducible refine w8g ?_; refine q5c rfl _ _ rfl rfl rfl HE.out ?_) | (go_at_call 36; refine (HM.out _ O7).mono ?_; rintro _ _ ⟨rfl, hb⟩; (try replace F2 := F2.later hb); (try replace FE := FE.later hb); (try replace F4 := F4.later hb); (try replace F9 := F9.later hb); (try replace FL := FL.later hb); (try replace O7 := O7.later hb); (try replace OB2 := OB2.later hb); replace b := later b hb; (try replace hBz := Nat.le_trans hBz hb.size); clear hb) | (with_reducible refine w16g ?_; refine q0v rfl _ rfl rfl F9 ?_) | ((with_reducible refine w23g ?_); refine q0j rfl _ _ rfl rfl (d := h) rfl HHO.out rfl F2 ?_; intro _ t1 ht1; clear F2; replace FE := FE.tt ht1; replace OB2 := OB2.tt ht1; replace O7 := O7.tt ht1 (by omega); replace b := q0b b ht1 (by omega) (Nat.le_refl _); have F2 := t1; clear t1 ht1) | ((with_reducible refine w27g ?_); refine q0i rfl 32 _ _ rfl rfl rfl FE Nat.zero_lt_one errSize rfl rfl ?_; intro _ t1 ht1; clear FE; replace F2 := F2.tt ht1; replace OB2 := OB2.tt ht1; replace O7 := O7.tt ht1 (by omega); replace b := q0b b ht1 (by omega) (Nat.le_refl _); have FE : One _ gE 32 (.int .i64 0) := t1; clear t1 ht1))
            subst hDD
            have ht := fun V => q4b V W0.heap.size (.deferred none)
            first
              | exact q7v rfl OB2 (q4e rfl _ _ rfl rfl (F2.touch (ht _) (by show ¬ g2 = _; omega)) (One.touch FE (ht _) (by show ¬ gE = _; omega))) ⟨⟨_, by rw [HR.out], by rw [HR.out]; exact ⟨_, rfl, (O7.touch (ht _) (fun y hy => by have : y = W0.heap.size := hy; omega)).is, HHO.out⟩⟩, b.trans ((ht _).below b.size (fun x hx => by have : x = W0.heap.size := hx; omega))⟩
              
          · have HR : Hid (T = (blk0, 6)) := by rw [hts2, if_neg (fun q => hm q.2)]; exact hide rfl
            rw [if_neg hm] at HM
            clear hts2 hr hm
            go_wp2_with (first | (with_reducible refine w0g ?_; refine q0a rfl 9 _ rfl rfl (One.cell FL) (by kernel_rfl) ?_) | (with_reducible refine w8g ?_; refine q5c rfl _ _ rfl rfl rfl HE.out ?_) | (go_at_call 36; refine (HM.out _ O7).mono ?_; rintro _ _ ⟨rfl, hb⟩; (try replace F2 := F2.later hb); (try replace FE := FE.later hb); (try replace F4 := F4.later hb); (try replace F9 := F9.later hb); (try replace FL := FL.later hb); (try replace O7 := O7.later hb); (try replace OB2 := OB2.later hb); replace b := later b hb; (try replace hBz := Nat.le_trans hBz hb.size); clear hb) | (with_reducible refine w16g ?_; refine q0v rfl _ rfl rfl F9 ?_) | (with_reducible refine w16g ?_; refine q0v rfl _ rfl rfl F4 ?_) | ((with_reducible refine w23g ?_); refine q0j rfl _ _ rfl rfl rfl HZO.out rfl F2 ?_; intro _ t1 ht1; clear F2; replace FE := FE.tt ht1; (try replace OB2 := OB2.tt ht1); (try clear F9 O7 F5 FL); replace b := q0b b ht1 (by omega) (Nat.le_refl _); have F2 := t1; clear t1 ht1) | ((with_reducible refine w27g ?_); refine q0i rfl 32 _ _ rfl rfl rfl FE Nat.zero_lt_one errSize rfl rfl ?_; intro _ t1 ht1; clear FE; replace F2 := F2.tt ht1; (try replace OB2 := OB2.tt ht1); replace b := q0b b ht1 (by omega) (Nat.le_refl _); have FE : One _ gE 32 (.int .i64 6) := t1; clear t1 ht1))
            subst hDD
            have ht := fun V => q4b V W0.heap.size (.deferred none)
            exact q7v rfl OB2 (q4e rfl _ _ rfl rfl (F2.touch (ht _) (by show ¬ g2 = _; omega)) (One.touch FE (ht _) (by show ¬ gE = _; omega))) ⟨⟨_, by rw [HR.out], by rw [HR.out]; exact ⟨_, rfl, q3z _, q4w⟩⟩, b.trans ((ht _).below b.size (fun x hx => by have : x = W0.heap.size := hx; omega))⟩
        · have HE : Hid (((leftS (some r)).toList == (⟨#[]⟩ : ByteArray).toList) = false) := by
            unfold leftS
            rw [ByteArray.toList_eq, ByteArray.toList_eq]; unfold Hid; rw [beq_eq_false_iff_ne]; exact hr
          have HR : Hid (T = (blk0, 6)) := by rw [hts2, if_neg (fun q => hr q.1)]; exact hide rfl
          generalize leftS (some r) = sl at *
          clear hts2 hr HM
          go_wp2_with (first | (with_reducible refine w0g ?_; refine q0a rfl 9 _ rfl rfl (One.cell FL) (by kernel_rfl) ?_) | (with_reducible refine w8g ?_; refine q5c rfl _ _ rfl rfl rfl HE.out ?_) | (with_reducible refine w16g ?_; refine q0v rfl _ rfl rfl F4 ?_) | ((with_reducible refine w23g ?_); refine q0j rfl _ _ rfl rfl rfl HZO.out rfl F2 ?_; intro _ t1 ht1; clear F2; replace FE := FE.tt ht1; (try replace OB2 := OB2.tt ht1); (try clear F9 O7 F5 FL); replace b := q0b b ht1 (by omega) (Nat.le_refl _); have F2 := t1; clear t1 ht1) | ((with_reducible refine w27g ?_); refine q0i rfl 32 _ _ rfl rfl rfl FE Nat.zero_lt_one errSize rfl rfl ?_; intro _ t1 ht1; clear FE; replace F2 := F2.tt ht1; (try replace OB2 := OB2.tt ht1); replace b := q0b b ht1 (by omega) (Nat.le_refl _); have FE : One _ gE 32 (.int .i64 6) := t1; clear t1 ht1))
          subst hDD
          have ht := fun V => q4b V W0.heap.size (.deferred none)
          exact q7v rfl OB2 (q4e rfl _ _ rfl rfl (F2.touch (ht _) (by show ¬ g2 = _; omega)) (One.touch FE (ht _) (by show ¬ gE = _; omega))) ⟨⟨_, by rw [HR.out], by rw [HR.out]; exact ⟨_, rfl, q3z _, q4w⟩⟩, b.trans ((ht _).below b.size (fun x hx => by have : x = W0.heap.size := hx; omega))⟩
    case stop =>
      rintro V ⟨k1, k2, k3, k4⟩ hK
      rw [← hDD] at hK ⊢
      have HR : Hid (T = (blk0, 6)) := HTN.out (by rw [x5m, k4.out])
      have ht := q4b V D (.deferred none)
      (try simp only [Exit.inBlock, Exit.then])
      exact q7v rfl hK (q4e rfl _ _ rfl rfl (k1.touch ht (by show ¬ g2 = D; omega)) (One.touch k2 ht (by show ¬ gE = D; omega))) ⟨⟨_, by rw [HR.out], by rw [HR.out]; exact ⟨_, rfl, q3z _, q4w⟩⟩, k3.trans (ht.below k3.size (fun x hx => by have : x = D := hx; omega))⟩
end Go.Proofs.YtbbfnpfkbbpjgaaGreat
