/- The row of BlockPuts: the law returns true for every input; by the walk in YtbbfnpfkbbpjgaaGreatBlockPuts. No condition. -/
import Derived.Test.YtbbfnpfkbbpjgaaGreatQCMBase
import Derived.Test.YtbbfnpfkbbpjgaaGreatQCBlkX
import Derived.Lib.SmallJoins
import Derived.SliceStrings
import Derived.Test.YtbbfnpfkbbpjgaaGreatQCOpenHd
import Derived.Test.YtbbfnpfkbbpjgaaGreatQCBkR1
import Derived.Test.YtbbfnpfkbbpjgaaGreatQCBkR4
import Derived.Test.YtbbfnpfkbbpjgaaGreatQCBkR2
import Derived.Test.YtbbfnpfkbbpjgaaGreatQCRefTree
import Derived.Test.YtbbfnpfkbbpjgaaGreatQCMCells
import Derived.Test.YtbbfnpfkbbpjgaaGreatQCBlk3
namespace Go.Proofs.YtbbfnpfkbbpjgaaGreat.blockPuts
open Go.ChangeShapes Go.WideShapes Go.ChangeAt Go.RowKit Go.WideMaps Go.WideElems
open Go.ChangeMaps (open_string)
set_option linter.unusedVariables false

set_option maxRecDepth 100000 in
theorem lifted (os : Os) (started : os.Started) (H : Type) (enc : TypeId × Value → H) :
  ReturnsInHanded {} Tryz.checked os 7 .any (Rows.blockPutsSpec.pre6 enc Tryz.prog Tryz.f7 Rows.blockPutsRow.domain false) (Rows.blockPutsSpec.post enc Tryz.prog Tryz.f7 false true false false) := by
 refine returnsInHanded_of_change (C := Tryz.checked) ownsKnob started (by kernel_rfl) Tryz.func7
  (ChangeSpec.witness6 (enc := enc) (C := Tryz.checked) false ⟨#[], #[.agg #[.int .u64 0, .int .u64 0, .int .u8 0, .int .u8 0, .int .u8 0, .int .u8 0, .int .u8 0, .int .u8 0, .int .u8 0, .int .u8 0, .int .u8 0, .int .u8 0, .int .u8 0, .int .u8 0, .int .u8 0, .int .u8 0, .int .u8 0, .int .u8 0, .int .u8 0, .int .u8 0, .int .u8 0, .int .u8 0, .int .u8 0, .int .u8 0, .int .u8 0, .int .u8 0, .int .u8 0, .int .u8 0, .int .u8 0, .int .u8 0, .int .u8 0, .int .u8 0, .int .u8 0, .int .u8 0, .int .u8 0, .int .u8 0, .int .u8 0, .int .u8 0, .int .u8 0, .int .u8 0, .int .u8 0, .int .u8 0, .int .u8 0, .int .u8 0, .int .u8 0, .int .u8 0, .int .u8 0, .int .u8 0, .int .u8 0, .int .u8 0, .int .u8 0, .int .u8 0, .int .u8 0, .int .u8 0, .int .u8 0, .int .u8 0, .int .u8 0, .int .u8 0, .int .u8 0, .int .u8 0, .int .u8 0, .int .u8 0, .int .u8 0, .int .u8 0, .int .u8 0, .int .u8 0, .int .u8 0, .int .u8 0, .int .u8 0, .int .u8 0, .int .u8 0, .int .u8 0, .int .u8 0, .int .u8 0, .int .u8 0, .int .u8 0, .int .u8 0, .int .u8 0, .int .u8 0, .int .u8 0, .int .u8 0, .int .u8 0, .int .u8 0, .int .u8 0, .int .u8 0, .int .u8 0, .int .u8 0, .int .u8 0, .int .u8 0, .int .u8 0, .int .u8 0, .int .u8 0, .int .u8 0, .int .u8 0, .int .u8 0, .int .u8 0, .int .u8 0, .int .u8 0, .int .u64 0, .int .u64 0, .int .u8 0, .int .u8 0, .int .u8 0, .int .u8 0, .int .u8 0, .int .u8 0, .int .u8 0, .int .u8 0, .int .u8 0, .int .u8 0, .int .u8 0, .int .u8 0, .int .u8 0, .int .u8 0, .int .u8 0, .int .u8 0, .int .u8 0, .int .u8 0, .int .u8 0, .int .u8 0, .int .u8 0, .int .u8 0, .int .u8 0, .int .u8 0, .int .u8 0, .int .u8 0, .int .u8 0, .int .u8 0, .int .u8 0, .int .u8 0, .int .u8 0, .int .u8 0, .int .u64 0, .int .u64 0, .string ByteArray.empty, .string ByteArray.empty, .slice none 0 0]], []⟩ 8 (by kernel_rfl) (by kernel_rfl) (by kernel_rfl) (by kernel_rfl)) ?_
 intro W base args ds gs before hval0 hW hcnd _
 have hval : ∀ (j : Nat) t v, Tryz.f7.params[j]? = some t → args[j]? = some v → Value.okWide Tryz.prog W .any base t v := hval0
 have hW' := hW
 obtain ⟨p, q, hA0, hV, rfl, hfz, hnd⟩ := hW
 have hA : DataW.TrodAll enc Tryz.prog W 0 (fun _ => true) true Tryz.f7.params.toList args.toList ds p := hA0
 rw [Tryz.params7] at hA hval
 obtain ⟨v0, vs0, d0, ds0, p0, q0, hargs, rfl, rfl, h0, r0⟩ := trodAll_cons hA
 obtain ⟨rfl, rfl, rfl⟩ := trodAll_nil r0
 obtain rfl : args = #[v0] := by cases args; simp_all
 obtain ⟨rfl, rfl⟩ := trodVars_none hV
 obtain ⟨a0, w0, k0, n0, _, _⟩ := j4e (hval 0 51 v0 rfl rfl) h0
 refine (j5o W v0 a0 w0 k0 n0).mono fun e W' ⟨he, hb⟩ => ?_
 subst he
 exact ⟨_, rfl, j5e isLaidOut (by kernel_rfl) (by kernel_rfl) Tryz.underlying4 rfl hW' hb ⟨rfl, rfl, rfl⟩⟩

theorem over : Rows.blockPutsRow.holds Tryz.pinned (OpenSpec.ofChange Rows.blockPutsSpec) :=
 OpenClaim.holds_of_wide 7 Tryz.f7 rfl rfl rfl rfl rfl rfl rfl ⟨rfl, rfl, rfl, rfl, rfl⟩ rfl rfl rfl rfl rfl (by kernel_rfl) Tryz.func7 (by kernel_rfl)
  (of_decide_eq_true (by kernel_rfl)) (by unfold Func.isWrapper; first | (rw [if_pos (by decide +kernel)]; kernel_rfl) | (rw [if_neg (by decide +kernel)]; exact ⟨rfl, rfl⟩))
  (fun os started H enc _ => lifted os started H enc)

theorem proved : Rows.BlockPutsSaid :=
 over
#print axioms proved
end Go.Proofs.YtbbfnpfkbbpjgaaGreat.blockPuts

/- block.Prove. -/
namespace Go.Proofs.YtbbfnpfkbbpjgaaGreat
open Go.RowKit Go.Lib
set_option linter.unusedVariables false
set_option linter.unusedSimpArgs false

set_option maxRecDepth 100000 in
set_option maxHeartbeats 800000 in
theorem prove_own (v : Value) (l : List H32) (i : Nat) (w : World) (hv0 : Hs w v l) (hm : l.length ≤ 400000) (hi : i < l.length) :
  Calls Tryz.prog 86 #[v, .int .i64 i] w (fun e w' => ∃ pv, e = .returned (.tuple #[pv, .int .i64 0]) ∧ OwnHs w' w.heap.size pv (provL l i) ∧ (∀ h ∈ provL l i, h.length = 32) ∧ Below w.heap.size w w') := by
 obtain ⟨a, cap, rfl, hc1, hc2, hc0⟩ := hv0.shape
 have p0 : One ((w.alloc (.cells #[.int .i64 i] 3)).alloc (.cells #[.slice none 0 0] 63)) w.heap.size 3 (.int .i64 i) := Arr.alloc (Arr.new w [.int .i64 i] 3) _
 have q0 : One ((w.alloc (.cells #[.int .i64 i] 3)).alloc (.cells #[.slice none 0 0] 63)) (w.heap.size + 1) 63 (.slice none 0 0) := Arr.new2 w _ [.slice none 0 0] _
 have b := below2 w (.cells #[.int .i64 i] 3) (.cells #[.slice none 0 0] 63)
 have s0 : w.heap.size + 2 ≤ ((w.alloc (.cells #[.int .i64 i] 3)).alloc (.cells #[.slice none 0 0] 63)).heap.size := by simp
 have hI : ∀ W, One W w.heap.size 3 (.int .i64 i) → One W (w.heap.size + 1) 63 (.slice none 0 0) → w.heap.size + 2 ≤ W.heap.size → ProveI w.heap.size (provL l i) l.length (l.map leafL) (fun b => b = w.heap.size ∨ b = w.heap.size + 1 ∨ (Value.slice none 0 0).ownBlock = some b) W :=
  fun W h1 h2 h3 => ⟨i, .slice none 0 0, [], h1, h2, World.ownsRow_nil _ _ _ _, by simp, rfl, by omega, by simp; omega, h3, fun _ => Iff.rfl⟩
 have HI := hide hI
 have hv1 := hv0.later b
 clear hI
 go_enter Tryz.func86, Tryz.ntmps86
 go_wp2_with fail
 show Calls _ _ _ ((w.alloc (.cells #[.int .i64 i] 3)).alloc (.cells #[.slice none 0 0] 63)) _
 generalize (w.alloc (.cells #[.int .i64 i] 3)).alloc (.cells #[.slice none 0 0] 63) = W at *
 refine (x3i w.heap.size (w.heap.size + 1) w.heap.size (ProveI w.heap.size (provL l i)) _ _ l W hv1 (by omega) (by omega) (by omega) (x1t _ _) (HI.out W p0 q0 s0)).mono ?_
 rintro _ w1 ⟨rfl, hb1, f, r, S, hr1, j, vo, acc, hp, hq, ho, ha, HP, hj, hfa, hsz, hS⟩
 have hacc : acc = provL l i := by rw [← HP.out, x2g _ _ _ hr1, List.append_nil]
 have hres : OwnHs w1 w.heap.size vo (provL l i) := by rw [← hacc]; exact q9x ho (by omega)
 have hlen : ∀ h ∈ provL l i, h.length = 32 := by rw [← hacc]; exact ha
 have cq := hq.cell
 have b1 := b.trans hb1
 clear hp hq ho ha HP hacc HI p0 q0 s0 b hb1
 go_wp2_with fail
 go_ret2
 exact ⟨_, rfl, hres, hlen, b1⟩
theorem OwnHs.off {w w' : World} {B g : Nat} {v : Value} {l : List H32} (h : OwnHs w B v l) (ht : Touch (fun x => x = g) w w') (hg : g < B) : OwnHs w' B v l := q1k h ht (fun y hy hs => by
 have h1 := (World.ownsRow.lt h y hy).1
 have h2 : y = g := hs
 omega)
/-- What Prove hands back. -/
def ProvB (x : Blk) (i : Int) (w : World) (e : Ending) (w' : World) : Prop :=
  ((mayB x = false ∧ e = .returned (.tuple #[hv zero32, nilD, .int .i64 2])) ∨ (mayB x = true ∧ (i < 0 ∨ (x.deeds.length : Int) ≤ i) ∧ e = .returned (.tuple #[hv zero32, nilD, .int .i64 5])) ∨
    (mayB x = true ∧ ∃ (k : Nat) (pv : Value), i = (k : Int) ∧ k < x.deeds.length ∧ e = .returned (.tuple #[hv ((fulsB x.deeds).getD k []), pv, .int .i64 0]) ∧ Hs w' pv (provL (fulsB x.deeds) k))) ∧ Below w.heap.size w w'
theorem int3 (i : Int) (n : Nat) : i < 0 ∨ (n : Int) ≤ i ∨ ∃ K : Nat, i = (K : Int) ∧ K < n := by
 by_cases h : i < 0
 ·exact .inl h
 ·by_cases h2 : i < n
  ·exact .inr (.inr ⟨i.toNat, by omega, by omega⟩)
  ·exact .inr (.inl (by omega))
theorem ful_get (l : List Deed) {k : Nat} (hk : k < l.length) : ((fulsB l).getD k []).length = 32 := by
 have h : k < (fulsB l).length := by unfold fulsB; rw [List.length_map]; exact hk
 rw [List.getD_eq_getElem?_getD, List.getElem?_eq_getElem h]
 have := List.getElem_mem h
 obtain ⟨d, _, e⟩ := List.mem_map.1 this
 show ((fulsB l)[k]).length = 32
 rw [← e]
 exact q7q d
set_option maxRecDepth 100000 in
set_option maxHeartbeats 3200000 in
theorem bProve_any (v : Value) (x : Blk) (i : Int) (w : World) (h : BlkIs w v x) (hn : x.deeds.length ≤ 1000) (hf : ∀ d ∈ x.deeds, d.Fit) :
    Calls Tryz.prog 40 #[v, .int .i64 i] w (ProvB x i w) := by
  have HM := hide (fun (w' : World) (hb : Below w.heap.size w w') => q7o v x w' (h.later hb) hn hf)
  obtain ⟨u, rfl, hD, hok⟩ := h
  have HBB := hide (fun (w' : World) (hb : Below w.heap.size w w') => j0p u x.deeds w' (hD.later hb) hn hf)
  obtain ⟨a1, c1, rfl⟩ := hD.shape
  have o1 : (Value.slice a1 x.deeds.length c1).oneCell' = true := rfl
  have HOK := hide hok
  have HZ : Hid (zero32.length = 32) := rfl
  have b := Below.refl w.heap.size w
  unfold ProvB
  by_cases hm : mayB x = true
  · have hall : x.deeds.all mayD = true := by
      have hfw := q9u hm
      simp only [fewB, Bool.and_eq_true] at hfw
      exact hfw.1
    have hfl : (fulsB x.deeds).length = x.deeds.length := by unfold fulsB; rw [List.length_map]
    rw [if_pos hm] at HM
    rw [hall] at HBB
    rcases int3 i x.deeds.length with hi | hi | ⟨K, rfl, hK⟩
    · have hio : i < 0 ∨ ((fulsB x.deeds).length : Int) ≤ i := .inl hi
      have HPI := hide (fun (fv : Value) (w' : World) (S : Hs w' fv (fulsB x.deeds)) => j7m fv (fulsB x.deeds) i w' S hio)
      have HHS := hide (fun (fv : Value) (w' : World) (S : Sl w' fv 32 (x.deeds.map fuC)) => j7j S)
      have HPO2 := hide (fun (e : Ending) (w' : World) (he : e = .returned (.tuple #[hv zero32, nilD, .int .i64 5])) => (Or.inr (Or.inl ⟨hm, by rw [hfl] at hio; exact hio, he⟩) : (mayB x = false ∧ e = .returned (.tuple #[hv zero32, nilD, .int .i64 2])) ∨ (mayB x = true ∧ (i < 0 ∨ (x.deeds.length : Int) ≤ i) ∧ e = .returned (.tuple #[hv zero32, nilD, .int .i64 5])) ∨ (mayB x = true ∧ ∃ (k : Nat) (pv : Value), i = (k : Int) ∧ k < x.deeds.length ∧ e = .returned (.tuple #[hv ((fulsB x.deeds).getD k []), pv, .int .i64 0]) ∧ Hs w' pv (provL (fulsB x.deeds) k))))
      clear hall hfl hD hok hf hio hm hi
      generalize mayB x = MB at *
      generalize x.head = d at *
      generalize hfl2 : fulsB x.deeds = fl at *
      generalize hDl : x.deeds.map fuC = fd at *
      generalize x.deeds.map txC = td at *
      generalize x.deeds.length = n at *
      clear hDl hfl2
      have mF1 := True.intro
      have mF2 := True.intro
      go_enter Tryz.func40, Tryz.ntmps40
      go_wp2_with (first | (with_reducible refine w2g ?_; clear mF1; refine q0k rfl _ rfl rfl HOK.out o1 ?_; intro _ g1 hg1 F1 hb; (try replace b := later b hb); clear hb) | (with_reducible refine w3g ?_; clear mF2; refine q0j rfl rfl ?_; intro _ g2 hg2 F2 hb; (try have := F1.lt); (try have := F2.lt); (try have := F4.lt); (try have := F5.lt); (try have := F6.lt); (try have := b.size); (try replace F1 := F1.later hb); (try replace b := later b hb); clear hb) | (with_reducible refine w15g ?_; refine q0m rfl _ rfl rfl F1 ?_) | (with_reducible refine w0g ?_; refine q0a rfl 42 _ rfl rfl (KAt.ds F1) (by kernel_rfl) ?_) | (go_at_call 36; refine (HM.out _ b).mono ?_; rintro _ _ ⟨rfl, hc⟩; (try replace F1 := F1.later hc); (try replace F2 := F2.later hc); (try replace b := later b hc); clear hc) | (go_at_call 62; refine (HBB.out _ b).mono ?_; rintro _ _ ⟨hx, hc⟩; (try replace F1 := F1.later hc); (try replace F2 := F2.later hc); (try replace b := later b hc); clear hc; replace hx := hx.resolve_right (fun h => by cases h.1); obtain ⟨_, tv, fv, rfl, _, F4⟩ := hx; replace F4 := HHS.out _ _ F4) | (go_at_call 86; refine (HPI.out _ _ F4).mono ?_; rintro _ _ ⟨rfl, hc⟩; (try replace F1 := F1.later hc); (try replace F2 := F2.later hc); (try replace F4 := F4.later hc); (try replace b := later b hc); clear hc) | (with_reducible refine w5g ?_; refine q1j rfl rfl ?_) | (with_reducible refine w4g ?_; refine q0g rfl _ _ rfl rfl rfl HZ.out F2 ?_; intro _ t1 ht; (try replace F1 := F1.tt ht); (try replace b := q0b b ht (by omega) (by omega)); replace F2 := t1; clear ht))
      exact bodyPost_ret (q5p rfl _ _ _ _ rfl rfl rfl F2) rfl ⟨HPO2.out _ _ rfl, b⟩
    · have hio : i < 0 ∨ ((fulsB x.deeds).length : Int) ≤ i := .inr (by rw [hfl]; exact hi)
      have HPI := hide (fun (fv : Value) (w' : World) (S : Hs w' fv (fulsB x.deeds)) => j7m fv (fulsB x.deeds) i w' S hio)
      have HHS := hide (fun (fv : Value) (w' : World) (S : Sl w' fv 32 (x.deeds.map fuC)) => j7j S)
      have HPO2 := hide (fun (e : Ending) (w' : World) (he : e = .returned (.tuple #[hv zero32, nilD, .int .i64 5])) => (Or.inr (Or.inl ⟨hm, by rw [hfl] at hio; exact hio, he⟩) : (mayB x = false ∧ e = .returned (.tuple #[hv zero32, nilD, .int .i64 2])) ∨ (mayB x = true ∧ (i < 0 ∨ (x.deeds.length : Int) ≤ i) ∧ e = .returned (.tuple #[hv zero32, nilD, .int .i64 5])) ∨ (mayB x = true ∧ ∃ (k : Nat) (pv : Value), i = (k : Int) ∧ k < x.deeds.length ∧ e = .returned (.tuple #[hv ((fulsB x.deeds).getD k []), pv, .int .i64 0]) ∧ Hs w' pv (provL (fulsB x.deeds) k))))
      clear hall hfl hD hok hf hio hm hi
      generalize mayB x = MB at *
      generalize x.head = d at *
      generalize hfl2 : fulsB x.deeds = fl at *
      generalize hDl : x.deeds.map fuC = fd at *
      generalize x.deeds.map txC = td at *
      generalize x.deeds.length = n at *
      clear hDl hfl2
      have mF1 := True.intro
      have mF2 := True.intro
      go_enter Tryz.func40, Tryz.ntmps40
      go_wp2_with (first | (with_reducible refine w2g ?_; clear mF1; refine q0k rfl _ rfl rfl HOK.out o1 ?_; intro _ g1 hg1 F1 hb; (try replace b := later b hb); clear hb) | (with_reducible refine w3g ?_; clear mF2; refine q0j rfl rfl ?_; intro _ g2 hg2 F2 hb; (try have := F1.lt); (try have := F2.lt); (try have := F4.lt); (try have := F5.lt); (try have := F6.lt); (try have := b.size); (try replace F1 := F1.later hb); (try replace b := later b hb); clear hb) | (with_reducible refine w15g ?_; refine q0m rfl _ rfl rfl F1 ?_) | (with_reducible refine w0g ?_; refine q0a rfl 42 _ rfl rfl (KAt.ds F1) (by kernel_rfl) ?_) | (go_at_call 36; refine (HM.out _ b).mono ?_; rintro _ _ ⟨rfl, hc⟩; (try replace F1 := F1.later hc); (try replace F2 := F2.later hc); (try replace b := later b hc); clear hc) | (go_at_call 62; refine (HBB.out _ b).mono ?_; rintro _ _ ⟨hx, hc⟩; (try replace F1 := F1.later hc); (try replace F2 := F2.later hc); (try replace b := later b hc); clear hc; replace hx := hx.resolve_right (fun h => by cases h.1); obtain ⟨_, tv, fv, rfl, _, F4⟩ := hx; replace F4 := HHS.out _ _ F4) | (go_at_call 86; refine (HPI.out _ _ F4).mono ?_; rintro _ _ ⟨rfl, hc⟩; (try replace F1 := F1.later hc); (try replace F2 := F2.later hc); (try replace F4 := F4.later hc); (try replace b := later b hc); clear hc) | (with_reducible refine w5g ?_; refine q1j rfl rfl ?_) | (with_reducible refine w4g ?_; refine q0g rfl _ _ rfl rfl rfl HZ.out F2 ?_; intro _ t1 ht; (try replace F1 := F1.tt ht); (try replace b := q0b b ht (by omega) (by omega)); replace F2 := t1; clear ht))
      exact bodyPost_ret (q5p rfl _ _ _ _ rfl rfl rfl F2) rfl ⟨HPO2.out _ _ rfl, b⟩
    · have HPI := hide (fun (fv : Value) (w' : World) (S : Hs w' fv (fulsB x.deeds)) => prove_own fv (fulsB x.deeds) K w' S (by rw [hfl]; omega) (by rw [hfl]; exact hK))
      have HLK := hide (ful_get x.deeds hK)
      have HFL := hide hfl
      have HPO := hide (fun (e : Ending) (w' : World) (hx : ∃ (k : Nat) (pv : Value), (K : Int) = (k : Int) ∧ k < x.deeds.length ∧ e = .returned (.tuple #[hv ((fulsB x.deeds).getD k []), pv, .int .i64 0]) ∧ Hs w' pv (provL (fulsB x.deeds) k)) => (Or.inr (Or.inr ⟨hm, hx⟩) : (mayB x = false ∧ e = .returned (.tuple #[hv zero32, nilD, .int .i64 2])) ∨ (mayB x = true ∧ ((K : Int) < 0 ∨ (x.deeds.length : Int) ≤ K) ∧ e = .returned (.tuple #[hv zero32, nilD, .int .i64 5])) ∨ (mayB x = true ∧ ∃ (k : Nat) (pv : Value), (K : Int) = (k : Int) ∧ k < x.deeds.length ∧ e = .returned (.tuple #[hv ((fulsB x.deeds).getD k []), pv, .int .i64 0]) ∧ Hs w' pv (provL (fulsB x.deeds) k))))
      have c1 : (0 : Int) ≤ (K : Int) := by omega
      have HHS := hide (fun (fv : Value) (w' : World) (S : Sl w' fv 32 (x.deeds.map fuC)) => j7j S)
      have h16 : x.deeds.length ≤ 16 := by
        have hfw := q9u hm
        simp only [fewB, Bool.and_eq_true, decide_eq_true_eq] at hfw
        exact hfw.2.1
      clear hm hall hfl hD hok hf
      generalize mayB x = MB at *
      generalize fulsB x.deeds = fl at *
      generalize hDl : x.deeds.map fuC = fd at *
      generalize x.deeds.map txC = td at *
      generalize x.head = d at *
      generalize x.deeds.length = n at *
      clear hDl
      have mF1 := True.intro
      have mF2 := True.intro
      go_enter Tryz.func40, Tryz.ntmps40
      go_wp2_with (first | (with_reducible refine w2g ?_; clear mF1; refine q0k rfl _ rfl rfl HOK.out o1 ?_; intro _ g1 hg1 F1 hb; (try replace b := later b hb); clear hb) | (with_reducible refine w3g ?_; clear mF2; refine q0j rfl rfl ?_; intro _ g2 hg2 F2 hb; (try have := F1.lt); (try have := F2.lt); (try have := F4.lt); (try have := F5.lt); (try have := F6.lt); (try have := b.size); (try replace F1 := F1.later hb); (try replace b := later b hb); clear hb) | (with_reducible refine w15g ?_; refine q0m rfl _ rfl rfl F1 ?_) | (with_reducible refine w0g ?_; refine q0a rfl 42 _ rfl rfl (KAt.ds F1) (by kernel_rfl) ?_) | (go_at_call 36; refine (HM.out _ b).mono ?_; rintro _ _ ⟨rfl, hc⟩; (try replace F1 := F1.later hc); (try replace F2 := F2.later hc); (try replace b := later b hc); clear hc) | (go_at_call 62; refine (HBB.out _ b).mono ?_; rintro _ _ ⟨hx, hc⟩; (try replace F1 := F1.later hc); (try replace F2 := F2.later hc); (try replace b := later b hc); clear hc; replace hx := hx.resolve_right (fun h => by cases h.1); obtain ⟨_, tv, fv, rfl, _, F4⟩ := hx; replace F4 := HHS.out _ _ F4; obtain ⟨aF, cF, rfl, _⟩ := F4.shape; rw [HFL.out] at F4 ⊢) | (go_at_call 86; have q2 := F2.lt; refine (HPI.out _ _ F4).mono ?_; rintro _ _ ⟨pv, rfl, F5, F6, hc⟩; replace F4 := F4.later hc; (try replace F1 := F1.later hc); (try replace F2 := F2.later hc); (try replace b := later b hc); clear hc; obtain ⟨bb, k0, c', he, _, _, _, hcs⟩ := F4.block (by rw [HFL.out]; omega); rw [HFL.out] at he; simp only [Value.slice.injEq] at he; obtain ⟨rfl, -, rfl⟩ := he; have d1 := hcs K (by rw [HFL.out]; omega); clear hcs) | (with_reducible show wpList _ _ _ (⟨_, Op.load 34 _, _, _, _, _⟩ :: _) _ _; refine q0i rfl _ rfl rfl d1 HLK.out ?_) | (with_reducible refine w4g ?_; refine q0g rfl _ _ rfl rfl rfl HLK.out F2 ?_; intro _ t1 ht; replace F5 := F5.off ht q2; clear F2; have F2 := t1; replace b := q0b b ht (by omega) (by omega); clear t1 ht))
      exact bodyPost_ret (q5p rfl _ _ _ _ rfl rfl rfl F2) rfl ⟨HPO.out _ _ ⟨K, _, rfl, hK, rfl, OwnHs.hs F5 F6⟩, b⟩
  · have hm' : mayB x = false := by simpa using hm
    rw [if_neg hm] at HM
    rw [hm']
    clear hm hm' hD hok hf HBB
    generalize x.head = d at *
    generalize x.deeds.length = n at *
    have mF1 := True.intro
    have mF2 := True.intro
    go_enter Tryz.func40, Tryz.ntmps40
    go_wp2_with (first | (with_reducible refine w2g ?_; clear mF1; refine q0k rfl _ rfl rfl HOK.out o1 ?_; intro _ g1 hg1 F1 hb; (try replace b := later b hb); clear hb) | (with_reducible refine w3g ?_; clear mF2; refine q0j rfl rfl ?_; intro _ g2 hg2 F2 hb; (try have := F1.lt); (try have := F2.lt); (try have := F4.lt); (try have := F5.lt); (try have := F6.lt); (try have := b.size); (try replace F1 := F1.later hb); (try replace b := later b hb); clear hb) | (with_reducible refine w15g ?_; refine q0m rfl _ rfl rfl F1 ?_) | (go_at_call 36; refine (HM.out _ b).mono ?_; rintro _ _ ⟨rfl, hc⟩; (try replace F1 := F1.later hc); (try replace F2 := F2.later hc); (try replace b := later b hc); clear hc) | (with_reducible refine w5g ?_; refine q1j rfl rfl ?_) | (with_reducible refine w4g ?_; refine q0g rfl _ _ rfl rfl rfl HZ.out F2 ?_; intro _ t1 ht; (try replace F1 := F1.tt ht); (try replace b := q0b b ht (by omega) (by omega)); replace F2 := t1; clear ht))
    exact bodyPost_ret (q5p rfl _ _ _ _ rfl rfl rfl F2) rfl ⟨.inl ⟨by simp, rfl⟩, b⟩
end Go.Proofs.YtbbfnpfkbbpjgaaGreat

/- BlockProves: any block, any place: what the deed there comes to, and its proof. -/
namespace Go.Proofs.YtbbfnpfkbbpjgaaGreat
open Go.RowKit Go.Lib
set_option linter.unusedVariables false
set_option linter.unusedSimpArgs false

section
variable {w : World} {v : Value} {x : Blk} {i : Int}
theorem prove_b (h : BlkIs w v x) (hn : x.deeds.length ≤ 1000) (hf : ∀ d ∈ x.deeds, d.Fit) (hm : mayB x = true) (ho : i < 0 ∨ (x.deeds.length : Int) ≤ i) :
  Calls Tryz.prog 40 #[v, .int .i64 i] w fun e w' => e = .returned (.tuple #[hv zero32, .slice none 0 0, .int .i64 5]) ∧ Below w.heap.size w w' := by
 refine (bProve_any v x i w h hn hf).mono ?_
 rintro e w' ⟨⟨h1, _⟩ | ⟨_, _, h1⟩ | ⟨_, k, pv, h1, h2, _⟩, hb⟩
 ·rw [hm] at h1; cases h1
 ·exact ⟨h1, hb⟩
 ·omega
end
end Go.Proofs.YtbbfnpfkbbpjgaaGreat

/- BlockKnown: the document's examples of layer 15. -/
namespace Go.Proofs.YtbbfnpfkbbpjgaaGreat
open Go.RowKit Go.Lib
set_option linter.unusedVariables false
set_option linter.unusedSimpArgs false

def blkTwo : Blk := ⟨hdOne, []⟩
theorem blkTwo_may : mayB blkTwo = true := by
 unfold mayB
 rw [show mayH blkTwo.head = true from j2z]
 rfl
theorem blk0_may : mayB blk0 = false := by decide +kernel
theorem takB_none : takB [] = (blk0, 6) := by unfold takB; rw [if_pos (by decide)]
set_option maxRecDepth 100000 in
set_option maxHeartbeats 3200000 in
theorem blockKnown_any (w : World) :
  Calls Tryz.prog 8 #[] w fun e w' => e = .returned (.bool true) ∧ Below w.heap.size w w' := by
 have HW := hide works15
 have HO := hide j3r
 have HB : Hid (∀ w, Calls Tryz.prog 25 #[.slice none 0 0] w fun e w' => e = .returned (.tuple #[hv (treeL []), .int .u64 0, .int .u64 0, .int .i64 0]) ∧ Below w.heap.size w w') := fun w => j2v (.slice none 0 0) [] w (q5f w) (by decide) (by simp)
 have HT : Hid (∀ w, Calls Tryz.prog 27 #[.string ⟨#[]⟩] w fun e w' => (∃ v, e = .returned (.tuple #[v, .int .i64 6]) ∧ BlkIs w' v blk0) ∧ Below w.heap.size w w') := fun w => by
  have := q9m ⟨#[]⟩ w (by decide)
  rw [show (⟨#[]⟩ : ByteArray).data.toList = [] from rfl, takB_none] at this
  exact this
 have HP : Hid (∀ w, Calls Tryz.prog 40 #[blkV hdOne nilD, .int .i64 0] w fun e w' => e = .returned (.tuple #[hv zero32, .slice none 0 0, .int .i64 5]) ∧ Below w.heap.size w w') := fun w =>
  prove_b (x := blkTwo) (i := 0) ⟨nilD, rfl, q5f w, blkOne_ok.head⟩ (by decide) (by simp [blkTwo]) blkTwo_may (.inr (by decide))
 have HM : Hid (∀ w, Calls Tryz.prog 36 #[blkV hd0 nilD] w fun e w' => e = .returned (.int .i64 2) ∧ Below w.heap.size w w') := fun w => by
  have := q7o _ blk0 w (blk0Is w) (by decide) (by simp [blk0])
  rwa [blk0_may] at this
 have HR := hide (fun w => j1j (.slice none 0 0) [] w (Hs.nil w) (by decide))
 have L0 : Hid ((treeL []).length = 32) := q3p _ _
 have HZ : Hid (zero32.length = 32) := rfl
 have B0 := hide blkBuilt0
 have b := Below.refl w.heap.size w
 have HDO := hide blkOne_ok.head
 have HDO0 := hide q7g
 have hdo : blkOne.head = hdOne := rfl
 rw [hdo] at HDO
 have HO2 : Hid (∀ w, Calls Tryz.prog 39 #[] w fun e w' => (∃ v u, e = .returned v ∧ v = blkV hdOne u ∧ u.oneCell' = true) ∧ Below w.heap.size w w') := fun w => (j3r w).mono (by
  rintro e w' ⟨⟨v, h1, u, h2, h3, h4⟩, hb⟩
  exact ⟨⟨v, u, h1, h2, by obtain ⟨a, c, rfl⟩ := h3.shape; rfl⟩, hb⟩)
 clear HO hdo
 generalize treeL [] = R at *
 generalize hdOne = d1 at *
 have mF1 := True.intro
 have mF5 := True.intro
 have mF7 := True.intro
 have mF8 := True.intro
 go_enter Tryz.func8, Tryz.ntmps8
 go_wp2_with (first | (go_at_call 25; refine (HB.out _).mono ?_; rintro _ _ ⟨rfl, hc⟩; replace b := later b hc; clear hc) | (go_at_call 27; refine (HT.out _).mono ?_; rintro _ _ ⟨⟨v5, rfl, u5, rfl, D5, ok5⟩, hc⟩; have o5 : u5.oneCell' = true := (by obtain ⟨a, c, rfl⟩ := D5.shape; rfl); replace F1 := F1.later hc; replace b := later b hc; clear hc D5) | (go_at_call 39; refine (HO2.out _).mono ?_; rintro _ _ ⟨⟨_, u7, rfl, rfl, o7⟩, hc⟩; replace F1 := F1.later hc; replace b := later b hc; clear hc) | (go_at_call 40; refine (HP.out _).mono ?_; rintro _ _ ⟨rfl, hc⟩; replace F1 := F1.later hc; replace b := later b hc; clear hc) | (with_reducible show wpList _ _ _ (⟨_, Op.alloc 34, _, _, _, _⟩ :: _) _ _; first | (clear mF1; refine q0j rfl rfl ?_; intro _ g1 hg1 F1 ha) | (clear mF8; refine q0j rfl rfl ?_; intro _ g8 hg8 F8 ha)) | (with_reducible refine w18g ?_; first | (clear mF5; refine q1f rfl rfl ?_; intro _ g5 hg5 F5 ha) | (clear mF7; have q1 := F1.lt; have q7 := b.size; refine q1f rfl rfl ?_; intro _ g7 hg7 F7 ha)) | (with_reducible show wpList _ _ _ (⟨_, Op.store 34 _ _, _, _, _, _⟩ :: _) _ _; first | (refine q0g rfl _ _ rfl rfl rfl HZ.out F8 ?_; intro _ t1 ht1; have hc := q0b ha ht1 hg8 (Nat.le_refl _); clear F8; replace F1 := F1.later hc; replace b := later b hc; clear t1 ha ht1 hc) | (refine q0g rfl _ _ rfl rfl rfl L0.out F1 ?_; intro _ t1 ht1; have hc := q0b ha ht1 hg1 (Nat.le_refl _); clear F1; replace b := later b hc; have F1 := t1; clear t1 ha ht1 hc)) | ((with_reducible refine w20g ?_); first | (refine q0r rfl _ _ rfl rfl rfl HDO.out o7 F7 ?_; intro _ t1 ht1; have hb := q0b ha ht1 hg7 (Nat.le_refl _); clear F7; have F7 := t1; clear t1 ha ht1; replace F1 := F1.later hb; replace b := later b hb; clear hb) | (refine q0r rfl _ _ rfl rfl rfl ok5 o5 F5 ?_; intro _ t1 ht1; have hb := q0b ha ht1 hg5 (Nat.le_refl _); clear F5 t1 ha ht1; replace F1 := F1.later hb; replace b := later b hb; clear hb)) | (with_reducible show wpList _ _ _ (⟨_, Op.store 42 _ _, _, _, _, _⟩ :: _) _ _; refine j4q rfl _ _ rfl rfl rfl rfl rfl F7 ?_; intro _ t1 ht1; replace F1 := F1.tt ht1; replace b := q0b b ht1 (by omega) (Nat.le_refl _); clear F7; have F7 := t1; clear t1 ht1) | (with_reducible refine w15g ?_; refine q0m rfl _ rfl rfl F7 ?_) | (with_reducible show Code.wp _ (Code.region _ _ true) _ _ _; fail))
 refine q0e (by kernel_rfl) (by kernel_rfl) ?_
 repeat ((go_big_quiet_want; first | ((with_reducible refine w24g ?_); refine q1v _ rfl rfl F1 ?_; simp only [pS]; go_big_quiet_on) | ((with_reducible show Oper.quiet _ ⟨_, Op.binOp _ 34 _ _ _, _, _, _, _⟩ _ _ _); refine q6d _ _ rfl _ L0.out rfl rfl ?_; simp only [pS]; go_big_quiet_on) | ((with_reducible refine w27g ?_); refine q5e _ _ rfl (blkCs hd0 nilD).toArray (by simp only [List.map_toArray, List.map_cons, List.map_nil]; exact B0.out) ?_; simp only [pS]; go_big_quiet_on) | (go_big_quiet_op; first | go_big_quiet_on | (refine ⟨_, fun s => q0f (HW.out _), ?_⟩; go_big_quiet_on) | (refine ⟨_, fun s => q0f (HR.out _), ?_⟩; go_big_quiet_on) | (refine ⟨_, fun s => q0f (HM.out _), ?_⟩; go_big_quiet_on))))
 refine wpQuiet_nil ?_
 intro _ hc
 replace b := later b hc
 clear hc
 go_wp2_with fail
 go_ret
 exact ⟨rfl, b⟩
end Go.Proofs.YtbbfnpfkbbpjgaaGreat
