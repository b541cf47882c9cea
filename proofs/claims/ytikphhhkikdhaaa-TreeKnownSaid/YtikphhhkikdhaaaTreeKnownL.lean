/- Laws of trees: TreeKnown. -/
import Derived.Test.YtikphhhkikdhaaaTreeWorks
import Derived.Test.YtikphhhkikdhaaaHsEq
namespace Go.Proofs.Ytikphhhkikdhaaa
open Go.RowKit Go.Lib
set_option linter.unusedVariables false
set_option linter.unusedSimpArgs false

set_option maxRecDepth 100000 in
set_option maxHeartbeats 800000 in
theorem knownLeaf_any (h : List UInt8) (hl : h.length = 32) (w : World) :
    Calls Try.prog 34 #[hv h] w fun e w' => e = .returned (hv (leafL h)) ∧ Below w.heap.size w w' := by
  obtain ⟨R, hR⟩ : ∃ R, R = leafL h := ⟨_, rfl⟩
  have HO : Hid (∀ w, Calls Try.prog 26 #[.string ⟨#[108, 101, 97, 102]⟩, .slice (some ⟨w.heap.size, 0, none⟩) 1 1] (w.alloc (.cells #[.string ⟨h.toArray⟩] 9)) fun e w' => e = .returned (hv R) ∧ Below w.heap.size w w') := fun w => by rw [hR]; exact of1 tagLeaf h w (by decide) (by omega)
  have HB := hide (fun w => bytes_any h w hl)
  have HL : Hid (R.length = 32) := by rw [hR]; exact ofX_length _ _
  rw [← hR]
  have hA := HashAt.alloc (HashAt.new w h hl) (.cells (bvs zero32).toArray 23)
  have z := HashAt.new2 w (.cells (bvs h).toArray 23) zero32 rfl
  have b := below2 w (.cells (bvs h).toArray 23) (.cells (bvs zero32).toArray 23)
  clear hR hl
  generalize (⟨h.toArray⟩ : ByteArray) = hb at *
  unfold hv
  go_enter Try.func34, Try.ntmps34
  go_wp2_with (refine wpl_load_hash (w := (w.alloc (.cells (bvs h).toArray 23)).alloc (.cells (bvs zero32).toArray 23)) rfl _ rfl rfl hA ?_)
  show Calls _ _ _ ((w.alloc (.cells (bvs h).toArray 23)).alloc (.cells (bvs zero32).toArray 23)) _
  generalize (w.alloc (.cells (bvs h).toArray 23)).alloc (.cells (bvs zero32).toArray 23) = W at *
  refine (HB.out _).mono ?_
  rintro _ wc1 ⟨rfl, hc1⟩
  replace z := z.later hc1
  replace b := later b hc1
  clear hc1
  go_wp2_with fail
  refine (HO.out _).mono ?_
  rintro _ wc2 ⟨rfl, hc2⟩
  replace z := z.later hc2
  replace b := later b hc2
  clear hc2
  have zr := z.row R HL.out
  have br := below_setRow (b := w.heap.size + 1) b (by omega) (bvs R).toArray
  go_wp2_with (refine wpl_store_hash rfl _ _ rfl rfl rfl HL.out z ?_)
  exact bodyPost_ret (v := hv R) (ret_hash rfl _ _ rfl zr) rfl ⟨rfl, br⟩
/-- A call of a function value that may come up anywhere. -/
theorem fl_call_fn {P : Program} {ops : Array Oper} {C : World → Prop} {o : Oper} {a : Act} {K : Act → Prop} (hw : Region.wanted o (yielded ops a.tmps) = true) {f : FuncId} {x : Operand} {xs : Array Operand} {ats : Array TypeId} (ho : o.op = .call { callee := .value x, args := xs, argTypes := ats }) (hx : a.eval x = .func (.func f) #[] #[]) (hf : bodied P f = true) {args : Array Value}
    (hargs : xs.map a.eval = args) {v : Value} (h : ∀ w, C w → Calls P f args w fun e w'' => e = .returned v ∧ Below w.heap.size w w'') (hk : K (a.put o.dst v)) : Floats P ops C o a K := by
  refine ⟨v, .inl ⟨hw, fun w hC => ?_⟩, hk⟩
  have e : (execOp a.eval o).run P w = (callFunc f args).run P w := by
    unfold execOp
    simp [ho, resolve, invoke, hx, hargs, Deferred.ofValue]
  rw [e, run_bodied hf]
  exact ⟨rfl, h w hC⟩
theorem known_two (a b c : H32) : provL [a, b, c] 2 = [pairL (leafL a) (leafL b)] := by
  unfold provL
  simp [proofF, oth, upL]
theorem known_nought (a b c : H32) : provL [a, b, c] 0 = [leafL b, leafL c] := by
  unfold provL
  simp [proofF, oth, upL]
theorem known_one (a : H32) : provL [a] 0 = [] := rfl
theorem known_root : treeL [] = ofX tagRoot [eightL 0, noneL] := rfl
end Go.Proofs.Ytikphhhkikdhaaa
