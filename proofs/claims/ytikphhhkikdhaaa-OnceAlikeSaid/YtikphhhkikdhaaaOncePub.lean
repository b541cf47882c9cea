/- Package once: the closure of Public. -/
import Derived.Test.YtikphhhkikdhaaaOnceBit
namespace Go.Proofs.Ytikphhhkikdhaaa
open Go.RowKit Go.Lib

def pairV (a b : List UInt8) : Value := .agg #[.string ⟨a.toArray⟩, .string ⟨b.toArray⟩]
/-- A load of a whole hash, in a class in which it lies. -/
theorem kept_load_hash {o : Oper} {a : Act} {K : World → Prop} {N : Act → Prop} (x : Operand) (ho : o.op = .load 23 x) {g : Nat} {l : List UInt8} (hx : a.eval x = .pointer (some ⟨g, 0, none⟩)) (h : ∀ w, K w → HashAt w g l) (hl : l.length = 32) (hk : N (a.put o.dst (hv l))) :
    o.quiet Try.prog a (fun w' => ∃ s : Kept K, w' = s.w) N := by
  refine quiet_value (hv l) (fun w hw => ?_) hk
  obtain ⟨s, rfl⟩ := hw
  unfold execOp
  simp only [ho, hx, Instr.loadAt, Instr.sureAddr, Sem.run_bind, Sem.run_pure, Result.andThen_ok, run_loadVar_row s.w g 23 23 (bvs l).toArray (0, 0) _ (h _ s.ok).2 Try.underlying23 rfl (hashInfoOf l hl)]
  rfl
theorem built2 (a b : ByteArray) : Try.prog.built 47 [(0, .string a), (1, .string b)] = some #[.string a, .string b] := by kernel_rfl
theorem info2 : (Try.prog.info? 47).map (·.size) = some 2 := by kernel_rfl
/-- Two texts in a block. -/
def PairAt (w : World) (g : Nat) : Prop := ∃ a b : ByteArray, Arr w g 47 [.string a, .string b]

set_option maxRecDepth 100000 in
set_option maxHeartbeats 1600000 in
theorem pub1_any (seed : List UInt8) (g i : Nat) (hi : i < 16) (w : World) (hA : HashAt w g seed) :
    Calls Try.prog 39 #[.int .i64 i, .pointer (some ⟨g, 0, none⟩)] w fun e w' => e = .returned (pairV (markL (secretL seed i 0)) (markL (secretL seed i 1))) ∧ Below w.heap.size w w' := by
  have HS : Hid (∀ (b : Nat) w, b < 2 → Calls Try.prog 41 #[hv seed, .int .i64 i, .int .i64 b] w fun e w' => e = .returned (.string ⟨(secretL seed i b).toArray⟩) ∧ Below w.heap.size w w') :=
    fun b w hb => secret_any seed i b hA.1 hi hb w
  have HM : Hid (∀ (b : Nat) w, Calls Try.prog 40 #[.string ⟨(secretL seed i b).toArray⟩] w fun e w' => e = .returned (.string ⟨(markL (secretL seed i b)).toArray⟩) ∧ Below w.heap.size w w') :=
    fun b w => mark_any _ (by rw [secretL_length]; omega) w
  have hb := below1 w (.cells #[.string ⟨#[]⟩, .string ⟨#[]⟩] 47)
  have hp : PairAt (w.alloc (.cells #[.string ⟨#[]⟩, .string ⟨#[]⟩] 47)) w.heap.size := ⟨_, _, Arr.new w [.string ⟨#[]⟩, .string ⟨#[]⟩] 47⟩
  have HL := hide hA.1
  have hg := hA.lt
  go_enter Try.func39, Try.ntmps39
  go_wp2_with fail
  have hz : w.heap.size < (w.alloc (.cells #[.string ⟨#[]⟩, .string ⟨#[]⟩] 47)).heap.size := by simp
  have hA1 := hA.later hb
  show Code.wp _ _ _ _ (w.alloc (.cells #[.string ⟨#[]⟩, .string ⟨#[]⟩] 47))
  generalize w.alloc (.cells #[.string ⟨#[]⟩, .string ⟨#[]⟩] 47) = W at *
  refine region_kept (fun w2 => Below w.heap.size w w2 ∧ HashAt w2 g seed ∧ PairAt w2 w.heap.size) [([0, 1], true, [2]), ([], true, [3]), ([4, 5], true, [6]), ([], true, [7]), ([8], false, [9])] (by kernel_rfl) (by kernel_rfl) (by kernel_rfl) (by decide) ⟨hb, hA1, hp⟩ (fun a b h k => ⟨later h.1 k, h.2.1.later k, by obtain ⟨x, y, h⟩ := h.2.2; exact ⟨x, y, h.later k⟩⟩) ?_
  intro w0 hw0 hs
  simp only [pickFl, pickOps, List.getElem?_cons_succ, List.getElem?_cons_zero, List.nil_append, List.cons_append]
  refine fl_float ?_
  go_big_quiet_want
  refine kept_load_hash _ rfl rfl (fun w h => h.2.1) HL.out ?_
  simp only [Act.put, List.setIfInBounds_toArray, List.set_cons_succ, List.set_cons_zero]
  go_big_quiet_on
  repeat (first | go_big_quiet_skip | (go_big_quiet_want; go_big_quiet_op; go_big_quiet_on))
  refine wpQuiet_nil ?_
  refine fl_call (args := #[hv seed, .int .i64 i, .int .i64 0]) (by rfl) rfl (by kernel_rfl) (by simp only [List.map_toArray, List.map_cons, List.map_nil]; rfl) (fun w' _ => HS.out 0 w' (by decide)) ?_
  intro w1 hw1
  simp only [Act.put, List.setIfInBounds_toArray, List.set_cons_succ, List.set_cons_zero]
  refine fl_float (wpQuiet_nil ?_)
  refine fl_call (args := #[.string ⟨(secretL seed i 0).toArray⟩]) (by rfl) rfl (by kernel_rfl) (by simp only [List.map_toArray, List.map_cons, List.map_nil]; rfl) (fun w' _ => HM.out 0 w') ?_
  intro w2 hw2
  simp only [Act.put, List.setIfInBounds_toArray, List.set_cons_succ, List.set_cons_zero]
  refine fl_float ?_
  go_big_quiet_want
  refine kept_load_hash _ rfl rfl (fun w h => h.2.1) HL.out ?_
  simp only [Act.put, List.setIfInBounds_toArray, List.set_cons_succ, List.set_cons_zero]
  go_big_quiet_on
  repeat (first | go_big_quiet_skip | (go_big_quiet_want; go_big_quiet_op; go_big_quiet_on))
  refine wpQuiet_nil ?_
  refine fl_call (args := #[hv seed, .int .i64 i, .int .i64 1]) (by rfl) rfl (by kernel_rfl) (by simp only [List.map_toArray, List.map_cons, List.map_nil]; rfl) (fun w' _ => HS.out 1 w' (by decide)) ?_
  intro w3 hw3
  simp only [Act.put, List.setIfInBounds_toArray, List.set_cons_succ, List.set_cons_zero]
  refine fl_float (wpQuiet_nil ?_)
  refine fl_call (args := #[.string ⟨(secretL seed i 1).toArray⟩]) (by rfl) rfl (by kernel_rfl) (by simp only [List.map_toArray, List.map_cons, List.map_nil]; rfl) (fun w' _ => HM.out 1 w') ?_
  intro w4 hw4
  simp only [Act.put, List.setIfInBounds_toArray, List.set_cons_succ, List.set_cons_zero]
  obtain ⟨m0, hm0⟩ : ∃ m0, m0 = markL (secretL seed i 0) := ⟨_, rfl⟩
  obtain ⟨m1, hm1⟩ : ∃ m1, m1 = markL (secretL seed i 1) := ⟨_, rfl⟩
  rw [← hm0, ← hm1]
  refine fl_loud ?_
  go_big_quiet_want
  refine quiet_build _ _ rfl #[.string ⟨m0.toArray⟩, .string ⟨m1.toArray⟩] (by simp only [List.map_toArray, List.map_cons, List.map_nil]; exact built2 _ _) ?_
  simp only [Act.put, List.setIfInBounds_toArray, List.set_cons_succ, List.set_cons_zero]
  go_big_quiet_on
  refine wpQuiet_nil ?_
  intro w5 hw5 hC5
  obtain ⟨⟨w5, hb5, hA5, x, y, hp5⟩, rfl⟩ := hC5
  refine wpList_store_row rfl 47 _ _ rfl w.heap.size #[.string ⟨m0.toArray⟩, .string ⟨m1.toArray⟩] rfl rfl 47 _ hp5 info2 rfl (by simp [Value.oneCell']) ?_
  have hr := Arr.row hp5 [.string ⟨m0.toArray⟩, .string ⟨m1.toArray⟩]
  have hbr := below_setRow hb5 (Nat.le_refl w.heap.size) #[.string ⟨m0.toArray⟩, .string ⟨m1.toArray⟩]
  have hAr := HashAt.row_other hA5 w.heap.size #[.string ⟨m0.toArray⟩, .string ⟨m1.toArray⟩] (by omega)
  refine mixQ_mk (kept ⟨hbr, hAr, _, _, hr⟩) (fl_end ?_)
  intro w6 hw6 _
  have hr6 := hr.later hw6
  have hb6 := later hbr hw6
  go_wp2_with fail
  exact bodyPost_ret (v := pairV m0 m1) (results_cell_row rfl _ _ w.heap.size 47 _ (0, 0) _ rfl hr6 Try.underlying47 rfl info2) rfl ⟨by rw [hm0, hm1], hb6⟩
end Go.Proofs.Ytikphhhkikdhaaa
