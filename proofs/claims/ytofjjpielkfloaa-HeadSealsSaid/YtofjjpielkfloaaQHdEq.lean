/- Rights and heads compared with themselves. -/
import Derived.Test.YtofjjpielkfloaaQHdAt
import Derived.Laws.StructEq
namespace Go.Proofs.Ytofjjpielkfloaa
open Go.RowKit Go.Lib
set_option linter.unusedVariables false
set_option linter.unusedSimpArgs false

set_option maxRecDepth 100000 in
theorem eqItems_same (d : Nat) (a : List UInt8) (ha : a.length = 32) (w : World) : ∀ is : List Nat, (∀ i ∈ is, i < 32) →
    (Op.eqItems (d + 1) 5 1 (bvs a).toArray (bvs a).toArray is).run Try.prog w = .ok true w
  | [], _ => by simp [Op.eqItems]
  | i :: is, h => by
    have hi : i < 32 := h i (by simp)
    have ih := eqItems_same d a ha w is (fun j hj => h j (by simp [hj]))
    simp only [Op.eqItems, Sem.run_bind, Nat.mul_one]
    have hp := part_byte a i (by omega) w
    rw [hp]
    simp only [Result.andThen_ok]
    rw [hp]
    simp only [Result.andThen_ok]
    rw [run_equalIn_int w d 5 .u8 .u8 _ _ Try.underlying5]
    simp only [Result.andThen_ok, beq_self_eq_true, Bool.not_true, Bool.false_eq_true, if_false]
    exact ih
set_option maxRecDepth 100000 in
theorem run_same_hash (d : Nat) (a : List UInt8) (ha : a.length = 32) (w : World) :
    (Op.equalIn (d + 2) 23 (hv a) (hv a)).run Try.prog w = .ok true w := by
  obtain ⟨i, hi, _⟩ := Option.map_eq_some_iff.1 (show (Try.prog.info? 5).map (·.size) = some 1 by kernel_rfl)
  unfold hv
  rw [run_equalIn_array w (d + 1) (bvs a).toArray (bvs a).toArray Try.underlying23 hi, cellsByte, eqItems_same d a ha w _ (fun j hj => List.mem_range.1 hj)]
theorem drop_left {α : Type} {xs ys : List α} {n : Nat} (h : xs.length = n) : (xs ++ ys).drop n = ys := by subst h; exact List.drop_left
theorem take_left {α : Type} {xs ys : List α} {n : Nat} (h : xs.length = n) : (xs ++ ys).take n = xs := by subst h; exact List.take_left
theorem ext_of {cs l : List Value} {off n : Nat} (h : (cs.drop off).take n = l) : cs.toArray.extract off (off + n) = l.toArray := by
  apply Array.toList_inj.1
  rw [Array.toList_extract, ← h]
  simp [List.extract]
set_option maxRecDepth 100000 in
theorem part_hash {cs : List Value} {off : Nat} {l : List UInt8} (h : (cs.drop off).take 32 = bvs l) (w : World) : (Go.part 23 cs.toArray off).run Try.prog w = .ok (hv l) w := by
  unfold Go.part
  simp only [Sem.run_bind, Try.isAgg23, Result.andThen_ok]
  have := ext_of h
  simp [this, hv]
  exact h
set_option maxRecDepth 100000 in
theorem part_rt {cs : List Value} {off : Nat} {r : Rt} (h : (cs.drop off).take 35 = rtCs r) (w : World) : (Go.part 48 cs.toArray off).run Try.prog w = .ok (rtV r) w := by
  unfold Go.part
  simp only [Sem.run_bind, Try.isAgg48, Result.andThen_ok]
  have := ext_of h
  simp [this, rtV]
  exact h
theorem field_same {P : Program} {d : Nat} {xs : Array Value} {f : Field} {fs : List Field} {w : World} {v : Value} (hn : f.name ≠ "_") (hp : (Go.part f.type xs f.offset).run P w = .ok v w) (he : (Op.equalIn d f.type v v).run P w = .ok true w) (hr : (Op.eqFields d xs xs fs).run P w = .ok true w) :
    (Op.eqFields d xs xs (f :: fs)).run P w = .ok true w := by
  unfold Op.eqFields
  simp only [hn, ne_eq, not_false_eq_true, if_true, Sem.run_bind, hp, he, Result.andThen_ok, Bool.not_true, Bool.false_eq_true, if_false]
  exact hr
theorem fields_none {P : Program} {d : Nat} {xs : Array Value} {w : World} : (Op.eqFields d xs xs []).run P w = .ok true w := by simp [Op.eqFields]
theorem plain_u64 : Try.prog.plainKey 46 = true := by kernel_rfl
theorem plain_str : Try.prog.plainKey 9 = true := by kernel_rfl
set_option maxRecDepth 100000 in
theorem run_same_rt (d : Nat) (r : Rt) (h : r.Ok) (w : World) : (Op.equalIn (d + 3) 48 (rtV r) (rtV r)).run Try.prog w = .ok true w := by
  unfold rtV
  rw [run_equalIn_struct w (d + 2) 48 _ _ (by kernel_rfl) (by kernel_rfl)]
  have hb : (bvs r.hot).length = 32 := by rw [bvs_length, h.hot]
  have e32 : (rtCs r).toArray[32]? = some (.int .u64 r.counter) := by unfold rtCs; simp [List.getElem?_append, hb]
  have e33 : (rtCs r).toArray[33]? = some (.int .u64 r.start) := by unfold rtCs; simp [List.getElem?_append, hb]
  have e34 : (rtCs r).toArray[34]? = some (.string r.sig) := by unfold rtCs; simp [List.getElem?_append, hb]
  have e0 : ((rtCs r).drop 0).take 32 = bvs r.hot := by unfold rtCs; rw [List.drop_zero, take_left hb]
  unfold Program.fieldsOf
  rw [Try.underlying48]
  refine field_same (by decide) (part_hash e0 w) (run_same_hash d r.hot h.hot w) ?_
  refine field_same (by decide) (run_part_plain w plain_u64 e32) (by rw [run_equalIn_int w (d + 1) 46 .u64 .u64 _ _ Try.underlying46, beq_self_eq_true]) ?_
  refine field_same (by decide) (run_part_plain w plain_u64 e33) (by rw [run_equalIn_int w (d + 1) 46 .u64 .u64 _ _ Try.underlying46, beq_self_eq_true]) ?_
  refine field_same (by decide) (run_part_plain w plain_str e34) (by rw [run_equalIn_string w (d + 1) 9 _ _ Try.underlying9, beq_self_eq_true]) ?_
  exact fields_none
theorem hd_drop2 (d : Hd) : (hdCs d).drop 2 = bvs d.prev ++ (bvs d.pool ++ (bvs d.body ++ (.int .u64 d.size :: .int .u64 d.many :: (rtCs d.right ++ [.string d.sig])))) := rfl
theorem hd_drop34 {d : Hd} (h : d.Ok) : (hdCs d).drop 34 = bvs d.pool ++ (bvs d.body ++ (.int .u64 d.size :: .int .u64 d.many :: (rtCs d.right ++ [.string d.sig]))) := by
  rw [show 34 = 2 + 32 by rfl, ← List.drop_drop, hd_drop2, drop_left (by rw [bvs_length, h.prev])]
theorem hd_drop66 {d : Hd} (h : d.Ok) : (hdCs d).drop 66 = bvs d.body ++ (.int .u64 d.size :: .int .u64 d.many :: (rtCs d.right ++ [.string d.sig])) := by
  rw [show 66 = 34 + 32 by rfl, ← List.drop_drop, hd_drop34 h, drop_left (by rw [bvs_length, h.pool])]
theorem hd_drop98 {d : Hd} (h : d.Ok) : (hdCs d).drop 98 = .int .u64 d.size :: .int .u64 d.many :: (rtCs d.right ++ [.string d.sig]) := by
  rw [show 98 = 66 + 32 by rfl, ← List.drop_drop, hd_drop66 h, drop_left (by rw [bvs_length, h.body])]
theorem hd_drop100 {d : Hd} (h : d.Ok) : (hdCs d).drop 100 = rtCs d.right ++ [.string d.sig] := by
  rw [show 100 = 98 + 2 by rfl, ← List.drop_drop, hd_drop98 h]; rfl
theorem hd_drop135 {d : Hd} (h : d.Ok) : (hdCs d).drop 135 = [.string d.sig] := by
  rw [show 135 = 100 + 35 by rfl, ← List.drop_drop, hd_drop100 h, drop_left (rtCs_length h.right)]
theorem at_of {cs l : List Value} {off : Nat} {v : Value} (h : cs.drop off = v :: l) : cs.toArray[off]? = some v := by
  have h1 : (cs.drop off)[0]? = some v := by rw [h]; rfl
  rw [List.getElem?_drop, Nat.add_zero] at h1
  rw [List.getElem?_toArray]
  exact h1
set_option maxRecDepth 100000 in
theorem run_same_hd (d : Nat) (x : Hd) (h : x.Ok) (w : World) : (Op.equalIn (d + 4) 50 (hdV x) (hdV x)).run Try.prog w = .ok true w := by
  unfold hdV
  rw [run_equalIn_struct w (d + 3) 50 _ _ (by kernel_rfl) (by kernel_rfl)]
  have e0 : (hdCs x).toArray[0]? = some (.int .u64 x.slot) := at_of (l := (hdCs x).tail) rfl
  have e1 : (hdCs x).toArray[1]? = some (.int .u64 x.number) := at_of (l := (hdCs x).tail.tail) rfl
  have e2 : ((hdCs x).drop 2).take 32 = bvs x.prev := by rw [hd_drop2, take_left (by rw [bvs_length, h.prev])]
  have e34 : ((hdCs x).drop 34).take 32 = bvs x.pool := by rw [hd_drop34 h, take_left (by rw [bvs_length, h.pool])]
  have e66 : ((hdCs x).drop 66).take 32 = bvs x.body := by rw [hd_drop66 h, take_left (by rw [bvs_length, h.body])]
  have e98 := at_of (hd_drop98 h)
  have e99 : (hdCs x).toArray[99]? = some (.int .u64 x.many) := at_of (l := rtCs x.right ++ [.string x.sig]) (by rw [show 99 = 98 + 1 by rfl, ← List.drop_drop, hd_drop98 h]; rfl)
  have e100 : ((hdCs x).drop 100).take 35 = rtCs x.right := by rw [hd_drop100 h, take_left (rtCs_length h.right)]
  have e135 := at_of (hd_drop135 h)
  have U : ∀ n : Int, (Op.equalIn (d + 3) 46 (.int .u64 n) (.int .u64 n)).run Try.prog w = .ok true w := fun n => by rw [run_equalIn_int w (d + 2) 46 .u64 .u64 _ _ Try.underlying46, beq_self_eq_true]
  unfold Program.fieldsOf
  rw [Try.underlying50]
  refine field_same (by decide) (run_part_plain w plain_u64 e0) (U _) ?_
  refine field_same (by decide) (run_part_plain w plain_u64 e1) (U _) ?_
  refine field_same (by decide) (part_hash e2 w) (run_same_hash (d + 1) x.prev h.prev w) ?_
  refine field_same (by decide) (part_hash e34 w) (run_same_hash (d + 1) x.pool h.pool w) ?_
  refine field_same (by decide) (part_hash e66 w) (run_same_hash (d + 1) x.body h.body w) ?_
  refine field_same (by decide) (run_part_plain w plain_u64 e98) (U _) ?_
  refine field_same (by decide) (run_part_plain w plain_u64 e99) (U _) ?_
  refine field_same (by decide) (part_rt e100 w) (run_same_rt d x.right h.right w) ?_
  refine field_same (by decide) (run_part_plain w plain_str e135) (by rw [run_equalIn_string w (d + 2) 9 _ _ Try.underlying9, beq_self_eq_true]) ?_
  exact fields_none
/-- A head is equal to itself, in any world. -/
theorem quiet_same_hd {C : World → Prop} {o : Oper} {a : Act} {K : Act → Prop} (x y : Operand) (ho : o.op = .binOp .eql 50 x y 50) {d : Hd} (hx : a.eval x = hdV d) (hy : a.eval y = hdV d) (hd : d.Ok)
    (hk : K (a.put o.dst (.bool true))) : o.quiet Try.prog a C K := by
  refine quiet_value _ (fun w _ => ?_) hk
  unfold execOp
  simp only [ho, hx, hy, hdV, Sem.run_bind]
  rw [run_eqGuard_agg w .eql 50 x y _ _ Try.eqGuardType50]
  simp only [Result.andThen_ok]
  rw [run_eql_struct]
  have := run_same_hd 9996 d hd w
  unfold hdV at this
  rw [this]
  rfl
end Go.Proofs.Ytofjjpielkfloaa
