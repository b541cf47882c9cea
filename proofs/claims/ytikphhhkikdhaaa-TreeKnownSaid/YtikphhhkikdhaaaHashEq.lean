/- Two hashes compared; rules for a quiet walk: an operation that yields one value in every world of the class; a whole row loaded. -/
import Derived.Test.YtikphhhkikdhaaaOpenHash
import Derived.Test.YtikphhhkikdhaaaRegion
import Derived.ChangeKeysEq
namespace Go.Proofs.Ytikphhhkikdhaaa
open Go.RowKit

set_option maxRecDepth 100000 in
theorem part_byte (a : List UInt8) (i : Nat) (hi : i < a.length) (w : World) : (Go.part 5 (bvs a).toArray i).run Try.prog w = .ok (.int .u8 ((a.getD i 0).toNat : Int)) w := by
  have h2 : (bvs a)[i]? = some (.int .u8 ((a.getD i 0).toNat : Int)) := by simp [bvs, hi]
  unfold Go.part
  simp only [Sem.run_bind, Try.isAgg5, Result.andThen_ok]
  simp [h2]
set_option maxRecDepth 100000 in
theorem eqItems_bytes (a b : List UInt8) (ha : a.length = 32) (hb : b.length = 32) (w : World) : ∀ is : List Nat, (∀ i ∈ is, i < 32) →
    (Op.eqItems 9999 5 1 (bvs a).toArray (bvs b).toArray is).run Try.prog w = .ok (is.all fun i => a.getD i 0 == b.getD i 0) w
  | [], _ => by simp [Op.eqItems]
  | i :: is, h => by
    have hi : i < 32 := h i (by simp)
    have ih := eqItems_bytes a b ha hb w is (fun j hj => h j (by simp [hj]))
    simp only [Op.eqItems, Sem.run_bind, Nat.mul_one]
    rw [part_byte a i (by omega)]
    simp only [Result.andThen_ok]
    rw [part_byte b i (by omega)]
    simp only [Result.andThen_ok]
    rw [run_equalIn_int w 9998 5 .u8 .u8 _ _ Try.underlying5]
    simp only [Result.andThen_ok, List.all_cons]
    by_cases he : a.getD i 0 = b.getD i 0
    · have e1 : (((a.getD i 0).toNat : Int) == ((b.getD i 0).toNat : Int)) = true := by rw [he]; simp
      have e2 : (a.getD i 0 == b.getD i 0) = true := by rw [he]; simp
      rw [e1, e2]
      simpa using ih
    · have e1 : (((a.getD i 0).toNat : Int) == ((b.getD i 0).toNat : Int)) = false := by
        rw [beq_eq_false_iff_ne]
        intro h'
        exact he (UInt8.toNat_inj.1 (by omega))
      have e2 : (a.getD i 0 == b.getD i 0) = false := by rw [beq_eq_false_iff_ne]; exact he
      rw [e1, e2]
      simp
set_option maxRecDepth 100000 in
theorem run_eq_hash (a b : List UInt8) (ha : a.length = 32) (hb : b.length = 32) (w : World) :
    (Op.equalIn 10000 23 (.agg (bvs a).toArray) (.agg (bvs b).toArray)).run Try.prog w = .ok (decide (a = b)) w := by
  obtain ⟨i, hi, _⟩ := Option.map_eq_some_iff.1 (show (Try.prog.info? 5).map (·.size) = some 1 by kernel_rfl)
  rw [run_equalIn_array w 9999 (bvs a).toArray (bvs b).toArray Try.underlying23 hi, cellsByte, eqItems_bytes a b ha hb w _ (fun j hj => List.mem_range.1 hj)]
  congr 1
  by_cases h : a = b
  · subst h; simp
  · rw [decide_eq_false h, Bool.eq_false_iff]
    intro hall
    apply h
    apply List.ext_getElem (by omega)
    intro j h1 h2
    have := List.all_eq_true.1 hall j (List.mem_range.2 (by omega))
    simpa [h1, h2] using this
theorem eq_hash (a b : List UInt8) (ha : a.length = 32) (hb : b.length = 32) (w : World) :
    (binOp .eql 23 (.agg (bvs a).toArray) (.agg (bvs b).toArray)).run Try.prog w = .ok (.bool (decide (a = b))) w := by
  rw [run_eql_struct, run_eq_hash a b ha hb]; rfl

/-! ### Rules for a quiet walk -/
theorem quiet_value {P : Program} {C : World → Prop} {o : Oper} {a : Act} {K : Act → Prop} (v : Value) (h : ∀ w, C w → (execOp a.eval o).run P w = .ok (.value v) w) (hk : K (a.put o.dst v)) : o.quiet P a C K :=
  ⟨v, fun w hw => by unfold Oper.quietAt; rw [h w hw]; exact ⟨rfl, rfl⟩, hk⟩
theorem Since.arr {w0 : World} {b : Nat} {t : TypeId} {cs : List Value} (h : Arr w0 b t cs) (s : Since w0) : Arr s.w b t cs := Arr.below h s.ok (Arr.lt h)
theorem quiet_load_row {P : Program} {w0 : World} {o : Oper} {a : Act} {K : Act → Prop} (ty : TypeId) (x : Operand) (ho : o.op = .load ty x) (g : Nat) (hx : a.eval x = .pointer (some ⟨g, 0, none⟩)) (t : TypeId) (cs : List Value) (d : TypeDesc)
    (hrow : Arr w0 g t cs) (hu : P.underlying ty = some d) (hd : (match d with | .struct _ | .array _ _ => true | _ => false) = true) (hi : (P.info? ty).map (·.size) = some cs.toArray.size)
    (hk : K (a.put o.dst (.agg cs.toArray))) : o.quiet P a (fun w' => ∃ s : Since w0, w' = s.w) K := by
  refine quiet_value (.agg cs.toArray) (fun w hw => ?_) hk
  obtain ⟨s, rfl⟩ := hw
  unfold execOp
  simp only [ho, hx, Instr.loadAt, Instr.sureAddr, Sem.run_bind, Sem.run_pure, Result.andThen_ok, run_loadVar_row s.w g t ty cs.toArray (0, 0) d (Since.arr hrow s) hu hd hi]
set_option maxRecDepth 100000 in
theorem quiet_eq_hash {C : World → Prop} {o : Oper} {a : Act} {K : Act → Prop} (x y : Operand) (ho : o.op = .binOp .eql 23 x y 23) (l g : List UInt8) (hl : l.length = 32) (hg : g.length = 32)
    (hx : a.eval x = .agg (bvs l).toArray) (hy : a.eval y = .agg (bvs g).toArray) (hk : K (a.put o.dst (.bool (decide (l = g))))) : o.quiet Try.prog a C K := by
  refine quiet_value _ (fun w _ => ?_) hk
  unfold execOp
  simp only [ho, hx, hy, Sem.run_bind]
  rw [run_eqGuard_agg w .eql 23 x y _ _ Try.eqGuardType23]
  simp only [Result.andThen_ok]
  rw [eq_hash l g hl hg]
  simp
theorem quiet_same_hash {C : World → Prop} {o : Oper} {a : Act} {K : Act → Prop} (x y : Operand) (ho : o.op = .binOp .eql 23 x y 23) (l : List UInt8) (hl : l.length = 32)
    (hx : a.eval x = .agg (bvs l).toArray) (hy : a.eval y = .agg (bvs l).toArray) (hk : K (a.put o.dst (.bool true))) : o.quiet Try.prog a C K :=
  quiet_eq_hash x y ho l l hl hl hx hy (by simpa using hk)
end Go.Proofs.Ytikphhhkikdhaaa
