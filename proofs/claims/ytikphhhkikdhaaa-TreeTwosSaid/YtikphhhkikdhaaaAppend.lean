/- A slice of no hashes built; any slice of hashes appended to one of one's own. -/
import Derived.Test.YtikphhhkikdhaaaMem
namespace Go.Proofs.Ytikphhhkikdhaaa
open Go.RowKit Go.Lib
set_option linter.unusedVariables false
set_option linter.unusedSimpArgs false

theorem wpl_hashes_none {ops : Array Oper} {rest : List Oper} {o : Oper} {a : Act} {w : World} {Q : Exit → Act → World → Prop} (hw : Region.wanted o (yielded ops a.tmps) = true) (ho : o.op = .buildSlice 36 0 #[])
    (hk : ∀ w2, OwnHs w2 w.heap.size (.slice (some ⟨w.heap.size, 0, none⟩) 0 0) [] → Below w.heap.size w w2 → w.heap.size < w2.heap.size → wpList Try.prog ops Q rest (a.put o.dst (.slice (some ⟨w.heap.size, 0, none⟩) 0 0)) w2) : wpList Try.prog ops Q (o :: rest) a w := by
  obtain ⟨ie, z, h2, h3, h4⟩ := hashIe
  refine BigFrame.wpList_want hw fun _ hK => ?_
  have hr : (Instr.buildSlice 36 0 #[]).run Try.prog w = .ok (.slice (some ⟨w.heap.size, 0, none⟩) 0 0) (w.alloc (.cells #[] 23)) := by
    simp [Instr.buildSlice, run_underlying Try.underlying36, sizeOf, typeInfo, h2, Instr.fill, newRow]
    congr 2
    exact Array.ext' (by simp)
  unfold Oper.wp execOp
  simp only [ho, Sem.run_bind, List.map_toArray, List.map_nil, Array.map_empty, hr, Result.andThen_ok]
  refine hK _ _ (hk _ ⟨rfl, .inr ⟨w.heap.size, 0, #[], rfl, Nat.le_refl _, Arr.new w [] 23, Nat.le_refl _, by unfold maxLen; omega, rfl, rfl⟩⟩ (below1 w _) (by simp))
theorem wpl_append_hs {ops : Array Oper} {rest : List Oper} {o : Oper} {a : Act} {w : World} {Q : Exit → Act → World → Prop} (hw : Region.wanted o (yielded ops a.tmps) = true) (s x : Operand)
    (ho : o.op = .call { callee := .builtin .append, args := #[s, x], argTypes := #[36, 36] }) {B : Nat} {v v2 : Value} {l l2 : List H32} (hs : a.eval s = v) (hown : OwnHs w B v l) (hx : a.eval x = v2)
    (hxs : Hs w v2 l2) (n : Nat) (hn : l.length + l2.length = n) (hm : n ≤ 1000000) (hB : B ≤ w.heap.size)
    (hk : ∀ a' c' w', OwnHs w' B (.slice a' n c') (l ++ l2) → Touch (fun b => v.ownBlock = some b) w w' → ((Value.slice a' n c').ownBlock = v.ownBlock ∨ (Value.slice a' n c').ownBlock = some w.heap.size) →
      wpList Try.prog ops Q rest (a.put o.dst (.slice a' n c')) w') : wpList Try.prog ops Q (o :: rest) a w := by
  subst hn
  by_cases h0 : 0 < l2.length
  · obtain ⟨b, k, cap, rfl, _, _, _, _⟩ := hxs.block h0
    refine wpl_append_any hw s x hashElem ho hs hown hx (news := hcs l2) (by rw [hcs_length l2 hxs.2]) (fun j u hu => hxs.cellsOf j u hu) (fun u hu => ?_) (by unfold maxLen; omega) (by omega) hB (fun a' c' w' h1 h2 h3 => hk a' c' w' ?_ h2 h3)
    · obtain ⟨y, hy, hu2⟩ := List.mem_flatten.1 hu
      obtain ⟨h, _, rfl⟩ := List.mem_map.1 hy
      exact List.all_eq_true.1 (bvs_one _) u hu2
    · unfold OwnHs
      rw [List.length_append, hcs_append]
      exact h1
  · have h2 : l2 = [] := List.eq_nil_of_length_eq_zero (by omega)
    subst h2
    obtain ⟨ax, capx, rfl, _, _, _⟩ := hxs.shape
    obtain ⟨av, cv, rfl⟩ := owns_shape hown
    obtain ⟨ie, z, h3, h4, h5⟩ := hashIe
    have hle : l.length ≤ cv := by
      rcases hown.2 with ⟨h6, h7⟩ | ⟨g, cap, cur, h6, _, _, h7, _⟩
      · omega
      · simp only [Value.slice.injEq] at h6; omega
    have hrun : (Builtin.append_ #[36, 36] o.type #[.slice av l.length cv, .slice ax 0 capx]).run Try.prog w = .ok (.slice av l.length cv) w := by
      cases av <;> cases ax <;> simp [Builtin.append_, Builtin.lenOf, Builtin.firstCells, run_underlying Try.underlying36, run_underlying Try.underlying23, sizeOf, typeInfo, h3, hle, loadCells, loadCellsFrom, storeCells]
    refine BigFrame.wpList_want hw fun _ hK => ?_
    unfold Oper.wp
    rw [show ([] : List H32).length = 0 from rfl] at hx
    simp [execOp, ho, resolve, invoke, builtin, hs, hx, hrun, Result.andThen]
    refine hK _ _ ?_
    have := hk av cv w (by rw [List.append_nil]; exact hown) (Touch.refl _ _) (.inl rfl)
    exact this
set_option maxRecDepth 100000 in
/-- All but the first. -/
theorem quiet_tail {C : World → Prop} {o : Oper} {a : Act} {K : Act → Prop} (x : Operand) (ho : o.op = .slice 36 x (some (.const (.int .i64 1))) none none) {ad : Option Addr} {n cap : Nat} (hx : a.eval x = .slice ad n cap) (h1 : 1 ≤ n) (hc : n ≤ cap)
    (hk : K (a.put o.dst (.slice (if cap = 1 then ad else ad.map (·.add (1 * 32))) (n - 1) (cap - 1)))) : o.quiet Try.prog a C K := by
  refine quiet_value _ (fun w _ => ?_) hk
  obtain ⟨ie, z, h3, h4, h5⟩ := hashIe
  have e1 : ¬ ((n : Int) < 1) := by omega
  have e2 : ¬ ((cap : Int) < n) := by omega
  have e5 : (1 : Int) ≤ n := by omega
  have e3 : a.eval (.const (.int .i64 1)) = .int .i64 1 := rfl
  unfold execOp
  simp [ho, hx, e3, Sem.run_bind, Instr.sliceAt, Instr.slice, Instr.sliceBounds, Instr.sliceBound, asIntOf, run_underlying Try.underlying36, sizeOf, typeInfo, h3, h4, e1, e2, h1, hc, e5]
end Go.Proofs.Ytikphhhkikdhaaa
