/- Package tree: Root, Prove. -/
import Derived.Test.YtikphhhkikdhaaaTreeProve
namespace Go.Proofs.Ytikphhhkikdhaaa
open Go.RowKit Go.Lib
set_option linter.unusedVariables false
set_option linter.unusedSimpArgs false

set_option maxRecDepth 100000 in
set_option maxHeartbeats 800000 in
theorem rows_nil (cl : Value) (v : Value) (w : World) (hv0 : Hs w v []) :
    Calls Try.prog 52 #[v, cl] w fun e w' => e = .returned (hv noneL) ∧ Below w.heap.size w w' := by
  obtain ⟨a, cap, rfl, hc1, hc2, hc0⟩ := hv0.shape
  obtain ⟨R, hR⟩ : ∃ R, R = noneL := ⟨_, rfl⟩
  have HO : Hid (∀ w, Calls Try.prog 26 #[.string ⟨#[110, 111, 110, 101]⟩, .slice none 0 0] w fun e w' => e = .returned (hv R) ∧ Below w.heap.size w w') := fun w => by
    rw [hR]; exact of_at tagNone [] _ w (strs_nil w) (by decide) (by simp) (by simp)
  have HL : Hid (R.length = 32) := by rw [hR]; exact ofX_length _ _
  rw [← hR, List.length_nil]
  clear hR
  have z := HashAt.zero w
  have b := below1 w (.cells (bvs zero32).toArray 23)
  go_enter Try.func52, Try.ntmps52
  go_wp2_with fail
  show Calls _ _ _ (w.alloc (.cells (bvs zero32).toArray 23)) _
  generalize w.alloc (.cells (bvs zero32).toArray 23) = W at *
  refine (HO.out _).mono ?_
  rintro _ wc1 ⟨rfl, hc1⟩
  replace z := z.later hc1
  replace b := later b hc1
  clear hc1
  have zr := z.row R HL.out
  have br := below_setRow (b := w.heap.size) b (Nat.le_refl _) (bvs R).toArray
  go_wp2_with (refine wpl_store_hash rfl _ _ rfl rfl rfl HL.out z ?_)
  exact bodyPost_ret (v := hv R) (ret_hash rfl _ _ rfl zr) rfl ⟨rfl, br⟩
theorem root1_any (v : Value) (w : World) : Calls Try.prog 53 #[v] w fun e w' => e = .returned (.tuple #[]) ∧ w = w' := by
  go_enter Try.func53, Try.ntmps53
  go_wp2_with fail
  go_end0
  exact ⟨rfl, rfl⟩
theorem root_does (B : Nat) : Does 53 #[] B (fun _ _ S _ => ∀ b, ¬ S b) where
  keep := fun f r S T w w' h _ _ => h
  low := fun f r S w h b hb => absurd hb (h b)
  does := by
    intro f r v S w h1 hf hm hI hv hoff
    simp only [Array.empty_append, Array.append_empty]
    refine (root1_any v w).mono ?_
    rintro e w' ⟨rfl, rfl⟩
    exact ⟨rfl, S, hI, fun b hb => .inl hb, Touch.refl _ _⟩
theorem rowsRoot_any (v : Value) (l : List H32) (w : World) (hv0 : Hs w v l) (hm : l.length ≤ 1000000) :
    Calls Try.prog 52 #[v, .func (.func 53) #[] #[]] w fun e w' => e = .returned (hv (topL l)) ∧ Below w.heap.size w w' := by
  by_cases h : l = []
  · subst h
    exact rows_nil _ v w hv0
  · refine (rows_root w.heap.size (fun _ _ S _ => ∀ b, ¬ S b) (fun _ => False) v l w hv0 hm (List.length_pos_iff.2 h) (Nat.le_refl _) (root_does _) (fun _ h => h)).mono ?_
    rintro e w' ⟨he, hb, _⟩
    exact ⟨he, hb⟩
set_option maxRecDepth 100000 in
set_option maxHeartbeats 800000 in
theorem treeRoot_any (v : Value) (l : List H32) (w : World) (hv0 : Hs w v l) (hm : l.length ≤ 1000000) :
    Calls Try.prog 28 #[v] w fun e w' => e = .returned (hv (treeL l)) ∧ Below w.heap.size w w' := by
  obtain ⟨a, cap, rfl, hc1, hc2, hc0⟩ := hv0.shape
  obtain ⟨R, hR⟩ : ∃ R, R = treeL l := ⟨_, rfl⟩
  obtain ⟨T, hT⟩ : ∃ T, T = topL l := ⟨_, rfl⟩
  have HRR : Hid (∀ w, Calls Try.prog 51 #[.int .i64 l.length, hv T] w fun e w' => e = .returned (hv R) ∧ Below w.heap.size w w') := fun w => by rw [hR, hT]; exact root_any l.length _ (by omega) (topL_length l) w
  have HL : Hid (R.length = 32) := by rw [hR]; exact rootL_length _ _
  have z := HashAt.zero w
  have b := below1 w (.cells (bvs zero32).toArray 23)
  have hv1 := hv0.later b
  have HT := hide hT
  rw [← hR]
  clear hR hT
  go_enter Try.func28, Try.ntmps28
  go_wp2_with fail
  show Calls _ _ _ (w.alloc (.cells (bvs zero32).toArray 23)) _
  generalize w.alloc (.cells (bvs zero32).toArray 23) = W at *
  refine (rowsRoot_any _ l _ hv1 hm).mono ?_
  rintro _ w1 ⟨rfl, hb1⟩
  replace z := z.later hb1
  replace b := later b hb1
  rw [← HT.out]
  clear hb1
  go_wp2_with fail
  refine (HRR.out _).mono ?_
  rintro _ wc2 ⟨rfl, hc2⟩
  replace z := z.later hc2
  replace b := later b hc2
  clear hc2
  have zr := z.row R HL.out
  have br := below_setRow (b := w.heap.size) b (Nat.le_refl _) (bvs R).toArray
  go_wp2_with (refine wpl_store_hash rfl _ _ rfl rfl rfl HL.out z ?_)
  exact bodyPost_ret (v := hv R) (ret_hash rfl _ _ rfl zr) rfl ⟨rfl, br⟩
/-- A slice of hashes and no error. -/
def HsOk (w : World) (l : List H32) (e : Ending) (w' : World) : Prop := ∃ v, e = .returned (.tuple #[v, .int .i64 0]) ∧ Hs w' v l ∧ Below w.heap.size w w'
theorem proof_small : ∀ (f : Nat) (r : List H32) (i : Nat), (proofF f r i).length ≤ f
  | 0, _, _ => by simp [proofF]
  | f + 1, r, i => by
    have := proof_small f (upL r) (i / 2)
    unfold proofF
    split
    · simp
    · rw [List.length_append]
      split <;> simp <;> omega
set_option maxRecDepth 100000 in
set_option maxHeartbeats 800000 in
theorem prove_out (v : Value) (l : List H32) (i : Int) (w : World) (hv0 : Hs w v l) (hi : i < 0 ∨ (l.length : Int) ≤ i) :
    Calls Try.prog 32 #[v, .int .i64 i] w fun e w' => e = .returned (.tuple #[.slice none 0 0, .int .i64 5]) ∧ Below w.heap.size w w' := by
  obtain ⟨a, cap, rfl, hc1, hc2, hc0⟩ := hv0.shape
  have b := below1 w (.cells #[.int .i64 i] 3)
  rcases hi with hi | hi
  · go_enter Try.func32, Try.ntmps32
    go_wp2_with fail
    go_ret2
    exact ⟨rfl, b⟩
  · go_enter Try.func32, Try.ntmps32
    by_cases h0 : i < 0
    · go_wp2_with fail
      go_ret2
      exact ⟨rfl, b⟩
    · go_wp2_with fail
      go_ret2
      exact ⟨rfl, b⟩
set_option maxRecDepth 100000 in
set_option maxHeartbeats 800000 in
theorem prove_in (v : Value) (l : List H32) (i : Nat) (w : World) (hv0 : Hs w v l) (hm : l.length ≤ 400000) (hi : i < l.length) :
    Calls Try.prog 32 #[v, .int .i64 i] w (HsOk w (provL l i)) := by
  obtain ⟨a, cap, rfl, hc1, hc2, hc0⟩ := hv0.shape
  have p0 : One ((w.alloc (.cells #[.int .i64 i] 3)).alloc (.cells #[.slice none 0 0] 36)) w.heap.size 3 (.int .i64 i) := Arr.alloc (Arr.new w [.int .i64 i] 3) _
  have q0 : One ((w.alloc (.cells #[.int .i64 i] 3)).alloc (.cells #[.slice none 0 0] 36)) (w.heap.size + 1) 36 (.slice none 0 0) := Arr.new2 w _ [.slice none 0 0] _
  have b := below2 w (.cells #[.int .i64 i] 3) (.cells #[.slice none 0 0] 36)
  have s0 : w.heap.size + 2 ≤ ((w.alloc (.cells #[.int .i64 i] 3)).alloc (.cells #[.slice none 0 0] 36)).heap.size := by simp
  have hI : ∀ W, One W w.heap.size 3 (.int .i64 i) → One W (w.heap.size + 1) 36 (.slice none 0 0) → w.heap.size + 2 ≤ W.heap.size → ProveI w.heap.size (provL l i) l.length (l.map leafL) (fun b => b = w.heap.size ∨ b = w.heap.size + 1 ∨ (Value.slice none 0 0).ownBlock = some b) W :=
    fun W h1 h2 h3 => ⟨i, .slice none 0 0, [], h1, h2, World.ownsRow_nil _ _ _ _, by simp, rfl, by omega, by simp; omega, h3, fun _ => Iff.rfl⟩
  have HI := hide hI
  have hv1 := hv0.later b
  clear hI
  go_enter Try.func32, Try.ntmps32
  go_wp2_with fail
  show Calls _ _ _ ((w.alloc (.cells #[.int .i64 i] 3)).alloc (.cells #[.slice none 0 0] 36)) _
  generalize (w.alloc (.cells #[.int .i64 i] 3)).alloc (.cells #[.slice none 0 0] 36) = W at *
  refine (rows_prove w.heap.size (w.heap.size + 1) w.heap.size (ProveI w.heap.size (provL l i)) _ _ l W hv1 (by omega) (by omega) (by omega) (prove_does _ _) (HI.out W p0 q0 s0)).mono ?_
  rintro _ w1 ⟨rfl, hb1, f, r, S, hr1, j, vo, acc, hp, hq, ho, ha, HP, hj, hfa, hsz, hS⟩
  have hacc : acc = provL l i := by rw [← HP.out, proofF_one _ _ _ hr1, List.append_nil]
  have hres : Hs w1 vo (provL l i) := by rw [← hacc]; exact OwnHs.hs ho ha
  have cq := hq.cell
  have b1 := b.trans hb1
  clear hp hq ho HP hacc HI p0 q0 s0 b hb1
  go_wp2_with fail
  go_ret2
  exact ⟨_, rfl, hres, b1⟩
end Go.Proofs.Ytikphhhkikdhaaa
