/- Package tree: rows, by what its closure does. -/
import Derived.Test.YtbbfnpfkbbpjgaaGreatQHMCells
import Derived.Test.YtbbfnpfkbbpjgaaGreatQHMOnce
import Derived.Test.YtbbfnpfkbbpjgaaGreatQHBlkM
import Derived.Test.YtbbfnpfkbbpjgaaGreatQHRowE
namespace Go.Proofs.YtbbfnpfkbbpjgaaGreat
open Go.RowKit Go.Lib
set_option linter.unusedVariables false
set_option linter.unusedSimpArgs false
set_option maxRecDepth 100000
set_option maxHeartbeats 4000000
/-- What rows asks of its closure: I tells of a fuel, the row that is next, the blocks that the closure may turn, the world. -/
structure Does (K : FuncId) (ptrs : Array Value) (B : Nat) (I : Nat → List H32 → (Nat → Prop) → World → Prop) : Prop where
 keep : ∀ f r S T w w', I f r S w → Touch T w w' → (∀ b, S b → ¬ T b) → I f r S w'
 low : ∀ f r S w, I f r S w → ∀ b, S b → B ≤ b ∧ b < w.heap.size
 does : ∀ f r v S w, 1 < r.length → r.length ≤ f → r.length ≤ 1000000 → I f r S w → Hs w v r → Off S v →
  Calls Tryz.prog K (#[] ++ #[v] ++ ptrs) w fun e w' => e = .returned (.tuple #[]) ∧ ∃ S', I (f - 1) (upL r) S' w' ∧ (∀ b, S' b → S b ∨ w.heap.size ≤ b) ∧ Touch S w w'
theorem Does.later {K : FuncId} {ptrs : Array Value} {B : Nat} {I : Nat → List H32 → (Nat → Prop) → World → Prop} (h : Does K ptrs B I) {f : Nat} {r : List H32} {S : Nat → Prop} {w w' : World} (hI : I f r S w) (hb : Below w.heap.size w w') : I f r S w' :=
 h.keep f r S (fun _ => False) w w' hI (q2s hb) (fun _ _ h => h)
def sliceLen : Value → Nat
 | .slice _ n _ => n
 | _ => 0
/-- What rows hands back. -/
def RowsPost (B : Nat) (I : Nat → List H32 → (Nat → Prop) → World → Prop) (T : H32) (w : World) (e : Ending) (w' : World) : Prop :=
 e = .returned (hv T) ∧ Below B w w' ∧ ∃ f r S, r.length ≤ 1 ∧ I f r S w'
theorem x1s (w : World) : Strs w (.slice none 0 0) [] := ⟨none, 0, rfl, fun i hi => by simp at hi⟩
theorem x0i (z : Array Value) (n : Nat) : (madeCells z n).toList.length = n := by simp [madeCells]
theorem x7e {w : World} {B e sz g n : Nat} {xs : List Value} (h : w.ownsRow B e sz (.slice (some ⟨g, 0, none⟩) n n) n xs) : Arr w g e xs := by
 obtain ⟨h1, h | ⟨g', cap, cur, hv, hg, hh, hc, hm, hs, ht⟩⟩ := h
 ·exact absurd h.1 (by simp)
 ·simp only [Value.slice.injEq, Option.some.injEq, Addr.mk.injEq, and_true, true_and] at hv
  obtain ⟨rfl, rfl⟩ := hv
  unfold Arr
  rw [hh, ← ht, List.take_of_length_le (by simp [hs])]
theorem x7y (B : Nat) (I : Nat → List H32 → (Nat → Prop) → World → Prop) (S0 : Nat → Prop) (v : Value) (l : List H32) (w : World) (hv0 : Hs w v l) (hm : l.length ≤ 1000000) (hne : 0 < l.length) (hB : B ≤ w.heap.size)
  (hD : Does 89 #[] B I) (hI : I l.length (l.map leafL) S0 w) :
  Calls Tryz.prog 88 #[v, .func (.func 89) #[] #[]] w (RowsPost B I (topL l) w) := by
 obtain ⟨ie, z, hi1, hi2, hi3, hi4, hi5⟩ := hashIe2
 obtain ⟨a, cap, rfl, hc1, hc2, hc0⟩ := hv0.shape
 obtain ⟨n, hn⟩ : ∃ n, n = l.length := ⟨_, rfl⟩
 have HN := hide hn
 have HD := hide hD
 have HI := hide hI
 have hne0 : ((n : Int) == 0) = false := beq_eq_false_iff_ne.2 (by omega)
 have h32 : ∀ h ∈ l.map leafL, h.length = 32 := fun h hh => by obtain ⟨y, _, rfl⟩ := List.mem_map.1 hh; exact q4l y
 rw [← hn] at hc1 hm hne ⊢
 clear hn hD hI
 have z0 := HashAt.zero w
 have b0 := below1 w (.cells (bvs zero32).toArray 34)
 have e0 : (w.alloc (.cells (bvs zero32).toArray 34)).heap.size = w.heap.size + 1 := by simp
 have E0 := hide e0
 clear e0
 go_enter Tryz.func88, Tryz.ntmps88
 go_wp2_with (refine wpList_make_full (w.alloc (.cells (bvs zero32).toArray 34)) rfl _ _ 63 rfl w.heap.size 34 ie z 32 Tryz.underlying63 hi1 hi4 hi2 .i64 .i64 _ _ n rfl rfl rfl rfl (by rw [hi3]; omega) (by unfold maxLen; omega) (by simp) ?_; intro w1 hown hg1)
 rw [E0.out] at hown
 have q1 : Below (w.alloc (.cells (bvs zero32).toArray 34)).heap.size (w.alloc (.cells (bvs zero32).toArray 34)) w1 := (Below.refl _ _).grown hg1 (Nat.le_refl _) (fun k h => by cases h)
 have z1 := z0.later q1
 have b1 := later b0 q1
 have a1 := x7e hown
 have s1 : w.heap.size + 1 < w1.heap.size := Arr.lt a1
 clear hown hg1 q1 z0 b0
 have a1' : ∃ rest, rest.length = (n - 0) * 32 ∧ Arr w1 (w.heap.size + 1) 34 (hcs ((l.map leafL).take 0) ++ rest) := ⟨_, by rw [x0i]; rfl, a1⟩
 clear a1
 go_loopw [17] (fun i wr => ∃ k : Nat, k ≤ n ∧ i = .int .i64 k ∧ (∃ rest, rest.length = (n - k) * 32 ∧ Arr wr (w.heap.size + 1) 34 (hcs ((l.map leafL).take k) ++ rest)) ∧ HashAt wr w.heap.size zero32 ∧ Below w.heap.size w wr) (fun i _ => n - (RowKit.intOf i).toNat)
 case atStart => exact ⟨0, by omega, rfl, a1', z1, b1⟩
 case round =>
  obtain ⟨k, hk, rfl, ⟨rest, hrl, har⟩, hz, b⟩ := hrel
  clear a1' z1 b1 s1
  have hvr := hv0.later b
  by_cases hlt : k < n
  ·obtain ⟨bb, k0, cap', hv, _, _, _, hcs0⟩ := hvr.block (by rw [← HN.out]; omega)
   simp only [Value.slice.injEq] at hv
   obtain ⟨rfl, _, rfl⟩ := hv
   have c0 := hcs0 k (by rw [← HN.out]; omega)
   have l0 : (l.getD k []).length = 32 := hvr.2 _ (by rw [List.getD_eq_getElem?_getD, List.getElem?_eq_getElem (by rw [← HN.out]; omega)]; exact List.getElem_mem _)
   have hT : hcs ((l.map leafL).take (k + 1)) = hcs ((l.map leafL).take k) ++ bvs (leafL (l.getD k [])) := by
    have hlt' : k < (l.map leafL).length := by rw [List.length_map, ← HN.out]; omega
    rw [List.take_succ_eq_append_getElem hlt', q8q, j3f]
    simp [← HN.out, hlt]
   have hpre : (hcs ((l.map leafL).take k)).length = k * 32 := by
    rw [q5h _ (fun h hh => h32 h (List.mem_of_mem_take hh)), List.length_take, List.length_map, ← HN.out, Nat.min_eq_left (by omega)]
   generalize l.getD k [] = x at *
   have HT := hide hT
   have HPRE := hide hpre
   have L0 := hide l0
   have HP := hide (fun w => x9o x l0 w)
   have HRL := hide hrl
   clear hcs0 hT l0 hpre hrl
   go_wp2_with (first | (with_reducible refine w0g ?_; refine q1a rfl _ rfl rfl (by assumption) ?_) | (refine q0h rfl _ rfl rfl c0 L0.out ?_) | (refine j7i rfl _ _ rfl rfl rfl L0.out ?_; intro w3 h3 hn1; replace har := har.later hn1; replace hz := hz.later hn1; replace b := later b hn1; clear hn1))
   refine (HP.out _).mono ?_
   rintro _ wc2 ⟨rfl, hc2⟩
   replace har := har.later hc2
   replace hz := hz.later hc2
   replace b := later b hc2
   clear hc2
   have hnew : ∃ rest', rest'.length = (n - (k + 1)) * 32 ∧ ((hcs ((l.map leafL).take k) ++ rest).take (k * 32)) ++ bvs (leafL x) ++ ((hcs ((l.map leafL).take k) ++ rest).drop (k * 32 + (bvs (leafL x)).length)) = hcs ((l.map leafL).take (k + 1)) ++ rest' := by
    refine ⟨rest.drop 32, by rw [List.length_drop, HRL.out]; omega, ?_⟩
    rw [HT.out, q0c, q4l, ← HPRE.out, List.take_left, List.drop_append, List.drop_of_length_le (by omega), List.nil_append, show (hcs ((l.map leafL).take k)).length + 32 - (hcs ((l.map leafL).take k)).length = 32 by omega]
   obtain ⟨rest', hrl', hnew⟩ := hnew
   have HNEW := hide hnew
   have HRL' := hide hrl'
   clear hnew hrl'
   go_wp2_with (refine q2r rfl 34 _ _ rfl rfl rfl har (by rw [q0c, q4l]; exact hashInfo) (by rw [List.length_append, HPRE.out, HRL.out, q0c, q4l]; omega) (fun u hu => List.all_eq_true.1 (q1f _) u hu) _ HNEW.out ?_; intro w5 har5 ht5)
   have hz5 := hz.touch ht5 (by omega)
   have b5 := b.trans (ht5.below (B := w.heap.size) b.size (fun x hx => by omega))
   go_roundw
   case rel => exact ⟨k + 1, by omega, by simp, ⟨rest', HRL'.out, har5⟩, hz5, b5⟩
   case measure => simp [RowKit.intOf]; omega
  ·have hkn : k = n := by omega
   subst hkn
   have hrest : rest = [] := List.eq_nil_of_length_eq_zero (by rw [hrl]; simp)
   subst hrest
   rw [List.append_nil, List.take_of_length_le (by rw [List.length_map, HN.out]; omega)] at har
   clear hrl
   have sR : w.heap.size + 1 < wr.heap.size := Arr.lt har
   have hrow : Hs wr (.slice (some ⟨w.heap.size + 1, 0, none⟩) k k) (l.map leafL) := by
    refine Hs.own (B := 0) (by rw [List.length_map]; exact HN.out.symm) h32 ⟨by rw [q5h _ h32, List.length_map, HN.out], .inr ⟨w.heap.size + 1, k, (hcs (l.map leafL)).toArray, rfl, Nat.zero_le _, har, Nat.le_refl _, by unfold maxLen; omega, ?_, ?_⟩⟩
    ·simp [q5h _ h32, HN.out]
    ·exact List.take_of_length_le (by rw [q5h _ h32, List.length_map, HN.out]; omega)
   have hI1 := HD.out.later HI.out b
   have hlow0 := HD.out.low _ _ _ _ HI.out
   have hLK : (l.map leafL).length = k := by rw [List.length_map]; exact HN.out.symm
   clear har HI HN
   have hstart : Off S0 (.slice (some ⟨w.heap.size + 1, 0, none⟩) k k) ∧ ¬ S0 w.heap.size := by
    refine ⟨fun b' k' n' c' h hS => ?_, fun hS => by have := hlow0 _ hS; omega⟩
    simp only [Value.slice.injEq, Option.some.injEq, Addr.mk.injEq] at h
    have := hlow0 _ hS
    omega
   have hT0 : topF l.length (l.map leafL) = topL l := by
    unfold topL
    rw [if_neg]
    intro h0
    rw [h0] at hLK
    simp at hLK
    omega
   have HT0 := hide hT0
   have hle : (l.map leafL).length ≤ l.length := by simp
   have hl1 : (l.map leafL).length ≤ 1000000 := by rw [hLK]; exact hm
   have hl0 : 0 < (l.map leafL).length := by rw [hLK]; exact hne
   have bB : Below B w wr := b.mono hB
   clear hT0 b hlow0 hLK h32
   go_wp2_with fail
   go_loopw [5] (fun v wr => ∃ (r : List H32) (f : Nat) (S : Nat → Prop), Hs wr v r ∧ 0 < r.length ∧ r.length ≤ f ∧ r.length ≤ 1000000 ∧ Hid (topF f r = topL l) ∧ I f r S wr ∧ Off S v ∧ ¬ S w.heap.size ∧ HashAt wr w.heap.size zero32 ∧ Below B w wr) (fun v _ => sliceLen v)
   case atStart => exact ⟨_, _, S0, hrow, hl0, hle, hl1, HT0, hI1, hstart.1, hstart.2, hz, bB⟩
   case round =>
    obtain ⟨r, f, S, hvv, h0, hf, h6, HT, hI, hoff, hS, hz2, b2⟩ := hrel
    clear hrow hI1 hstart HT0 hle hl1 hl0 bB hz hvr
    obtain ⟨ar, capr, rfl, hcr1, hcr2, hcr0⟩ := hvv.shape
    obtain ⟨m, hm'⟩ : ∃ m, m = r.length := ⟨_, rfl⟩
    have HM := hide hm'
    by_cases h1 : 1 < r.length
    ·have hc := HD.out.does f r _ S _ h1 hf h6 hI hvv hoff
     simp only [Array.empty_append, Array.append_empty] at hc
     have hl := HD.out.low _ _ _ _ hI
     have hT' := (z2n f r h1 hf).symm.trans HT.out
     have HT' := hide hT'
     have hup := q4z r
     have HUP := hide hup
     have HC := hide hc
     rw [← hm'] at h1 h0 hf h6 hcr1 ⊢
     clear hm' hc hT' hup HT
     go_wp2_with fail
     have hc := HC.out
     rw [← HM.out] at hc
     refine hc.mono ?_
     rintro _ w2 ⟨rfl, S', hI', hS', ht⟩
     have hv2 := hvv.touch ht hoff
     have hz3 := hz2.touch ht hS
     have sW : w.heap.size < w2.heap.size := hz3.lt
     have sW2 : w.heap.size < _ := hz2.lt
     have b3 := b2.trans (ht.below (B := B) (Nat.le_trans hB (Nat.le_of_lt sW2)) (fun x hx => (hl x hx).1))
     have hl2 := HD.out.low _ _ _ _ hI'
     have hnS : ¬ S' w.heap.size := fun h => (hS' _ h).elim hS (fun h2 => by omega)
     rw [← HM.out] at hv2
     clear hc HC hI hvv hoff hz2 b2 ht hS hS' hl
     go_wp2_with fail
     refine (up_any _ r _ hv2 (by rw [← HM.out]; exact h6)).mono ?_
     rintro _ w3 ⟨v3, rfl, hv3, hb3, hfr⟩
     have hI3 := HD.out.later hI' hb3
     have hz4 := hz3.later hb3
     have b4 := b3.trans (hb3.mono (Nat.le_trans hB (Nat.le_of_lt sW)))
     have hoff3 : Off S' v3 := fun b' k' n' c' h hS => by have h1 := hfr _ _ _ _ h; have h2 := hl2 _ hS; omega
     obtain ⟨a3, c3, hv3e, _⟩ := hv3.shape
     have hms : sliceLen v3 < m := by rw [hv3e, HUP.out, ← HM.out]; show (m + 1) / 2 < m; omega
     have hq1 : 0 < (upL r).length := by rw [HUP.out, ← HM.out]; omega
     have hq2 : (upL r).length ≤ f - 1 := by rw [HUP.out, ← HM.out]; omega
     have hq3 : (upL r).length ≤ 1000000 := by rw [HUP.out, ← HM.out]; omega
     clear hI' hz3 b3 hb3 hfr hv3e hl2 hv2 sW sW2
     go_wp2_with fail
     go_roundw
     case rel => exact ⟨upL r, f - 1, S', hv3, hq1, hq2, hq3, HT', hI3, hoff3, hnS, hz4, b4⟩
     case measure => exact hms
    ·have h1' : r.length = 1 := by omega
     have hT1 : hv (r.getD 0 []) = hv (topL l) := by rw [← HT.out, x9l _ _ (by omega)]
     obtain ⟨bb, k0, cap', hve, _, _, _, hcs0⟩ := hvv.block h0
     simp only [Value.slice.injEq] at hve
     obtain ⟨rfl, _, rfl⟩ := hve
     have c0 := hcs0 0 h0
     rw [Nat.zero_mul, Nat.add_zero] at c0
     have l0 : (r.getD 0 []).length = 32 := hvv.2 _ (by rw [List.getD_eq_getElem?_getD, List.getElem?_eq_getElem h0]; exact List.getElem_mem _)
     have l1 : (topL l).length = 32 := q7o l
     have L0 := hide l0
     have HT1 := hide hT1
     have hlow := HD.out.low _ _ _ _ hI
     rw [h1']
     generalize r.getD 0 [] = x at *
     have zr := hz2.row x L0.out
     have br := q0p (b := w.heap.size) b2 hB (bvs x).toArray
     have hIr := HD.out.keep f r S _ _ _ hI (j0b _ w.heap.size (bvs x).toArray) (fun b hb he => hS (he ▸ hb))
     have hr1 : r.length ≤ 1 := by omega
     clear hvv hcs0 hm' HM h1 h1' h0 hf h6 l0 l1 hT1 hlow hcr1
     go_wp2_with (first | (refine q0h rfl _ rfl rfl c0 L0.out ?_) | (refine q0y rfl _ _ rfl rfl rfl L0.out hz2 ?_))
     exact bodyPost_ret (v := hv x) (q2v rfl _ _ rfl zr) rfl ⟨by rw [HT1.out], br, f, r, S, hr1, hIr⟩
theorem z0b (cl : Value) (v : Value) (w : World) (hv0 : Hs w v []) :
  Calls Tryz.prog 88 #[v, cl] w fun e w' => e = .returned (hv noneL) ∧ Below w.heap.size w w' := by
 obtain ⟨a, cap, rfl, hc1, hc2, hc0⟩ := hv0.shape
 obtain ⟨R, hR⟩ : ∃ R, R = noneL := ⟨_, rfl⟩
 have HO : Hid (∀ w, Calls Tryz.prog 61 #[.string ⟨#[110, 111, 110, 101]⟩, .slice none 0 0] w fun e w' => e = .returned (hv R) ∧ Below w.heap.size w w') := fun w => by
  rw [hR]; exact of_at tagNone [] _ w (x1s w) (by decide) (by simp) (by simp)
 have HL : Hid (R.length = 32) := by rw [hR]; exact q1z _ _
 rw [← hR, List.length_nil]
 clear hR
 have z := HashAt.zero w
 have b := below1 w (.cells (bvs zero32).toArray 34)
 go_enter Tryz.func88, Tryz.ntmps88
 go_wp2_with fail
 show Calls _ _ _ (w.alloc (.cells (bvs zero32).toArray 34)) _
 generalize w.alloc (.cells (bvs zero32).toArray 34) = W at *
 refine (HO.out _).mono ?_
 rintro _ wc1 ⟨rfl, hc1⟩
 replace z := z.later hc1
 replace b := later b hc1
 clear hc1
 have zr := z.row R HL.out
 have br := q0p (b := w.heap.size) b (Nat.le_refl _) (bvs R).toArray
 go_wp2_with (refine q0y rfl _ _ rfl rfl rfl HL.out z ?_)
 exact bodyPost_ret (v := hv R) (q2v rfl _ _ rfl zr) rfl ⟨rfl, br⟩
theorem x4x (v : Value) (w : World) : Calls Tryz.prog 89 #[v] w fun e w' => e = .returned (.tuple #[]) ∧ w = w' := by
 go_enter Tryz.func89, Tryz.ntmps89
 go_wp2_with fail
 go_end0
 exact ⟨rfl, rfl⟩
theorem x6a (B : Nat) : Does 89 #[] B (fun _ _ S _ => ∀ b, ¬ S b) where
 keep := fun f r S T w w' h _ _ => h
 low := fun f r S w h b hb => absurd hb (h b)
 does := by
  intro f r v S w h1 hf hm hI hv hoff
  simp only [Array.empty_append, Array.append_empty]
  refine (x4x v w).mono ?_
  rintro e w' ⟨rfl, rfl⟩
  exact ⟨rfl, S, hI, fun b hb => .inl hb, Touch.refl _ _⟩
theorem j7y (v : Value) (l : List H32) (w : World) (hv0 : Hs w v l) (hm : l.length ≤ 1000000) :
  Calls Tryz.prog 88 #[v, .func (.func 89) #[] #[]] w fun e w' => e = .returned (hv (topL l)) ∧ Below w.heap.size w w' := by
 by_cases h : l = []
 ·subst h
  exact z0b _ v w hv0
 ·refine (x7y w.heap.size (fun _ _ S _ => ∀ b, ¬ S b) (fun _ => False) v l w hv0 hm (List.length_pos_iff.2 h) (Nat.le_refl _) (x6a _) (fun _ h => h)).mono ?_
  rintro e w' ⟨he, hb, _⟩
  exact ⟨he, hb⟩
theorem j8v (v : Value) (l : List H32) (w : World) (hv0 : Hs w v l) (hm : l.length ≤ 1000000) :
  Calls Tryz.prog 41 #[v] w fun e w' => e = .returned (hv (treeL l)) ∧ Below w.heap.size w w' := by
 obtain ⟨a, cap, rfl, hc1, hc2, hc0⟩ := hv0.shape
 obtain ⟨R, hR⟩ : ∃ R, R = treeL l := ⟨_, rfl⟩
 obtain ⟨T, hT⟩ : ∃ T, T = topL l := ⟨_, rfl⟩
 have HRR : Hid (∀ w, Calls Tryz.prog 87 #[.int .i64 l.length, hv T] w fun e w' => e = .returned (hv R) ∧ Below w.heap.size w w') := fun w => by rw [hR, hT]; exact x8t l.length _ (by omega) (q7o l) w
 have HL : Hid (R.length = 32) := by rw [hR]; exact q5a _ _
 have z := HashAt.zero w
 have b := below1 w (.cells (bvs zero32).toArray 34)
 have hv1 := hv0.later b
 have HT := hide hT
 rw [← hR]
 clear hR hT
 go_enter Tryz.func41, Tryz.ntmps41
 go_wp2_with fail
 show Calls _ _ _ (w.alloc (.cells (bvs zero32).toArray 34)) _
 generalize w.alloc (.cells (bvs zero32).toArray 34) = W at *
 refine (j7y _ l _ hv1 hm).mono ?_
 rintro _ w1 ⟨rfl, hb1⟩
 replace z := z.later hb1
 replace b := later b hb1
 rw [← HT.out]
 clear hb1
 go_wp2_with fail
 refine (HRR.out _).mono ?_
 rintro _ wc2 ⟨rfl, hc2⟩
 replace z := z.later hc2
 replace b := later b hc2
 clear hc2
 have zr := z.row R HL.out
 have br := q0p (b := w.heap.size) b (Nat.le_refl _) (bvs R).toArray
 go_wp2_with (refine q0y rfl _ _ rfl rfl rfl HL.out z ?_)
 exact bodyPost_ret (v := hv R) (q2v rfl _ _ rfl zr) rfl ⟨rfl, br⟩
def strC (s : ByteArray) : List Value := [.string s]
def txtA (l : List Deed) : List ByteArray := l.map fun d => ⟨(fullL d).toArray⟩
theorem j6q : ∀ l : List Deed, ((txtA l).map ByteArray.size).sum = sizB l
 | [] => rfl
 | d :: l => by
  have ih := j6q l
  unfold txtA sizB at ih ⊢
  simp only [List.map_cons, List.sum_cons]
  rw [ih]
  rfl
theorem x8g {l : List ByteArray} {k : Nat} {x : ByteArray} (h : l[k]? = some x) : ((l.take (k + 1)).map ByteArray.size).sum = ((l.take k).map ByteArray.size).sum + x.size := by
 obtain ⟨hk, rfl⟩ := List.getElem?_eq_some_iff.1 h
 rw [List.take_succ_eq_append_getElem hk, List.map_append, List.sum_append]
 simp
theorem x9z (l : List ByteArray) (k : Nat) : ((l.take k).map ByteArray.size).sum ≤ (l.map ByteArray.size).sum := by
 conv => rhs; rw [← List.take_append_drop k l, List.map_append, List.sum_append]
 omega
theorem x5s (v : Value) (l : List ByteArray) (w : World) (h : Sl w v 1 (l.map strC)) (hs : (l.map ByteArray.size).sum ≤ 1099511627776) (hm : l.length ≤ 1000000) :
  Calls Tryz.prog 63 #[v] w fun e w' => e = .returned (.int .i64 (((l.map ByteArray.size).sum : Nat) : Int)) ∧ Below w.heap.size w w' := by
 obtain ⟨a1, c1, rfl, -⟩ := h.shape
 have HNX := hide (fun k x (h : l[k]? = some x) => x8g h)
 have HPT := hide (x9z l)
 obtain ⟨n, hn⟩ : ∃ n, n = l.length := ⟨_, rfl⟩
 have HN := hide hn
 rw [← hn] at h hm ⊢
 clear hn
 have b := Below.refl w.heap.size w
 go_enter Tryz.func63, Tryz.ntmps63
 go_wp2_with fail
 go_loopw [3, 8] (fun q i wr => ∃ k : Nat, i = .int .i64 k ∧ k ≤ n ∧ q = .int .i64 (((((l.take k).map ByteArray.size).sum : Nat)) : Int) ∧ Below w.heap.size w wr) (fun _ i _ => n - (RowKit.intOf i).toNat)
 case atStart => exact ⟨0, rfl, by omega, by simp, b⟩
 clear b
 obtain ⟨k, rfl, hk, rfl, b⟩ := hrel
 by_cases hlt : k < n
 case pos =>
  obtain ⟨x, hx⟩ : ∃ x, l[k]? = some x := ⟨_, List.getElem?_eq_getElem (by rw [← HN.out]; exact hlt)⟩
  obtain ⟨bb, k0, c', he, _, hcs⟩ := Sl.block (h.later b) (by rw [← HN.out]; omega)
  rw [← HN.out] at he
  simp only [Value.slice.injEq] at he
  obtain ⟨rfl, -, rfl⟩ := he
  have d1 : wr.cell? ⟨bb, k0 + k * 1, none⟩ = some (.string x) := (hcs k x hx).one
  rw [Nat.mul_one] at d1
  have HX := hide (HNX.out k x hx)
  have hp := HPT.out (k + 1)
  have hp0 := HX.out
  rw [hp0] at hp
  generalize ((l.take k).map ByteArray.size).sum = S at *
  clear hcs hx hp0
  have z1 : S + x.size ≤ 1099511627776 := by omega
  go_wp2_with (with_reducible refine w0g ?_; refine q0a rfl 9 _ rfl rfl d1 (by kernel_rfl) ?_)
  go_roundw
  case rel => exact ⟨k + 1, by simp, by omega, by rw [HX.out]; simp, b⟩
  case measure => simp [RowKit.intOf]; omega
 obtain rfl : n = k := by omega
 have HT : Hid (l.take n = l) := List.take_of_length_le (by rw [← HN.out]; exact Nat.le_refl _)
 rw [HT.out]
 clear hlt hk
 go_wp2_with fail
 go_ret
 exact ⟨rfl, b⟩
end Go.Proofs.YtbbfnpfkbbpjgaaGreat
