/- deed.writer: number, hash. -/
import Derived.Test.YtbbfnpfkbbpjgaaGreatQPBuilderW
import Derived.Test.YtbbfnpfkbbpjgaaGreatQPMOf
import Derived.Test.YtbbfnpfkbbpjgaaGreatQPMBase
namespace Go.Proofs.YtbbfnpfkbbpjgaaGreat
open Go.RowKit Go.Lib
set_option linter.unusedVariables false
set_option linter.unusedSimpArgs false

theorem Wrt.lt {w : World} {g : Nat} {s : List UInt8} (h : Wrt w g s) : g < w.heap.size := by
  rcases h with ⟨_, v, h, _⟩ | ⟨_, v, h, _⟩ <;> exact (Array.getElem?_eq_some_iff.1 h).1
theorem wrt_write (g : Nat) (x : List UInt8) (s : ByteArray) (w : World) (h : Wrt w g x) (hl : x.length + s.size ≤ 140737488355328) :
    Calls Tryz.prog 75 #[.pointer (some ⟨g, 0, none⟩), .string s] w fun e w' => e = .returned (.tuple #[.int .i64 s.size, .nilIface]) ∧ Wrt w' g (x ++ s.data.toList) ∧ Below g w w' ∧ KeepT g w w' := by
  refine (writeStringW g g _ s w h (by rw [Lib.byteCells_length]; exact hl) (Nat.le_of_lt h.lt)).mono ?_
  rintro e w' ⟨he, hb, hB, hK⟩
  refine ⟨he, .inr ?_, hB, hK⟩
  have e : Lib.byteCells (x ++ s.data.toList) = Lib.byteCells x ++ Lib.strCells s := by simp [Lib.byteCells, Lib.strCells]
  rw [e]
  exact hb
theorem wrt_byte (g : Nat) (x : List UInt8) (c : Nat) (w : World) (h : Wrt w g x) (hc : c < 256) (hl : x.length + 1 ≤ 140737488355328) :
    Calls Tryz.prog 135 #[.pointer (some ⟨g, 0, none⟩), .int .u8 c] w fun e w' => e = .returned .nilIface ∧ Wrt w' g (x ++ [UInt8.ofNat c]) ∧ Below g w w' ∧ KeepT g w w' := by
  refine (writeByteW g g _ c w h (by rw [Lib.byteCells_length]; exact hl) (Nat.le_of_lt h.lt)).mono ?_
  rintro e w' ⟨he, hb, hB, hK⟩
  refine ⟨he, ?_, hB, hK⟩
  have e : Lib.byteCells x ++ [Value.int .u8 (c : Int)] = Lib.byteCells (x ++ [UInt8.ofNat c]) := by
    simp [Lib.byteCells]
    omega
  rw [e] at hb
  exact .inr hb
set_option maxRecDepth 100000 in
set_option maxHeartbeats 1600000 in
theorem wrt_number (g : Nat) (x : List UInt8) (n : Nat) (w : World) (h : Wrt w g x) (hn : n < 18446744073709551616) (hl : x.length ≤ 1048576) :
    Calls Tryz.prog 133 #[.pointer (some ⟨g, 0, none⟩), .int .u64 n] w fun e w' => e = .returned (.tuple #[]) ∧ Wrt w' g (x ++ putL n) ∧ Below g w w' ∧ KeepT g w w' := by
  have HP := hide (fun w => put_any n w hn)
  have hsz : (⟨(putL n).toArray⟩ : ByteArray).size ≤ 10 := by show (putL n).toArray.size ≤ 10; rw [List.size_toArray]; exact putL_length n
  have HW := hide (fun w h => wrt_write g x ⟨(putL n).toArray⟩ w h (by omega))
  have F1 := h
  have hB : g ≤ w.heap.size := Nat.le_of_lt h.lt
  have bB := Below.refl g w
  have kk := KeepT.refl g w
  have b := Below.refl w.heap.size w
  clear h hn hl hsz
  have e : (⟨(putL n).toArray⟩ : ByteArray).data.toList = putL n := rfl
  rw [e] at HW
  generalize (⟨(putL n).toArray⟩ : ByteArray) = s at *
  generalize putL n = l at *
  clear e
  go_enter Tryz.func133, Tryz.ntmps133
  go_wp2_with (first | (with_reducible show Code.wp _ (Code.region _ _ true) _ _ _; (try simp only [Act.put, List.setIfInBounds_toArray, List.set_cons_succ, List.set_cons_zero]); refine region_since_tail 5 (by kernel_rfl) (by kernel_rfl) ?_; simp only [List.take_succ_cons, List.take_zero]; (repeat (first | go_big_quiet_skip | (go_big_quiet_want; first | ((with_reducible show Oper.quiet _ ⟨_, Op.load _ _, _, _, _, _⟩ _ _ _); first | ((with_reducible show Oper.quiet _ ⟨_, Op.load 9 _, _, _, _, _⟩ _ _ _); (first | (refine since_load_one 9 _ rfl rfl (HdAt.c134 (by assumption)) (by kernel_rfl) ?_) | (refine since_load_one 9 _ rfl rfl (HdAt.c135 (by assumption)) (by kernel_rfl) ?_) | (refine since_load_one 9 _ rfl rfl (RtAt.c34 (by assumption)) (by kernel_rfl) ?_) | (refine since_load_one 9 _ rfl rfl (One.cell (by assumption)) (by kernel_rfl) ?_)); simp only [Act.put, List.setIfInBounds_toArray, List.set_cons_succ, List.set_cons_zero]; go_big_quiet_on) | ((with_reducible show Oper.quiet _ ⟨_, Op.load 24 _, _, _, _, _⟩ _ _ _); (first | (refine since_load_one 24 _ rfl rfl (HdAt.c0 (by assumption)) (by kernel_rfl) ?_) | (refine since_load_one 24 _ rfl rfl (HdAt.c1 (by assumption)) (by kernel_rfl) ?_) | (refine since_load_one 24 _ rfl rfl (HdAt.c98 (by assumption)) (by kernel_rfl) ?_) | (refine since_load_one 24 _ rfl rfl (HdAt.c99 (by assumption)) (by kernel_rfl) ?_) | (refine since_load_one 24 _ rfl rfl (HdAt.c132 (by assumption)) (by kernel_rfl) ?_) | (refine since_load_one 24 _ rfl rfl (HdAt.c133 (by assumption)) (by kernel_rfl) ?_) | (refine since_load_one 24 _ rfl rfl (RtAt.c32 (by assumption)) (by kernel_rfl) ?_) | (refine since_load_one 24 _ rfl rfl (RtAt.c33 (by assumption)) (by kernel_rfl) ?_)); simp only [Act.put, List.setIfInBounds_toArray, List.set_cons_succ, List.set_cons_zero]; go_big_quiet_on) | ((with_reducible show Oper.quiet _ ⟨_, Op.load 34 _, _, _, _, _⟩ _ _ _); first | (refine quiet_load_hash _ rfl rfl (by assumption) ?_; simp only [Act.put, List.setIfInBounds_toArray, List.set_cons_succ, List.set_cons_zero]; go_big_quiet_on) | ((first | (refine since_load_elem _ rfl rfl (HdAt.c2 (by assumption)) (HdAt.ok (by assumption)).prev ?_) | (refine since_load_elem _ rfl rfl (HdAt.c34 (by assumption)) (HdAt.ok (by assumption)).pool ?_) | (refine since_load_elem _ rfl rfl (HdAt.c66 (by assumption)) (HdAt.ok (by assumption)).body ?_) | (refine since_load_elem _ rfl rfl (HdAt.ch (by assumption)) (HdAt.ok (by assumption)).right.hot ?_) | (refine since_load_elem _ rfl rfl (RtAt.c0 (by assumption)) (RtAt.ok (by assumption)).hot ?_)); simp only [Act.put, List.setIfInBounds_toArray, List.set_cons_succ, List.set_cons_zero]; go_big_quiet_on)) | (refine since_load_hd _ rfl rfl (by assumption) ?_; simp only [Act.put, List.setIfInBounds_toArray, List.set_cons_succ, List.set_cons_zero]; go_big_quiet_on) | (refine since_load_rt _ rfl rfl (by assumption) ?_; simp only [Act.put, List.setIfInBounds_toArray, List.set_cons_succ, List.set_cons_zero]; go_big_quiet_on) | (refine since_load_hdrt _ rfl rfl (by assumption) ?_; simp only [Act.put, List.setIfInBounds_toArray, List.set_cons_succ, List.set_cons_zero]; go_big_quiet_on)) | (go_big_quiet_op; first | go_big_quiet_on | (first | (refine ⟨_, fun _ => since_of (HP.out _), ?_⟩; go_big_quiet_on)))))); refine wpQuiet_nil ?_; intro _ hq; replace kk := kk.trans (KeepT.below hq); (try replace F1 := F1.later hq); (try replace F2 := F2.later hq); (try replace F3 := F3.later hq); (try replace F4 := F4.later hq); (try replace F5 := F5.later hq); (try replace F6 := F6.later hq); (try replace F7 := F7.later hq); (try replace F8 := F8.later hq); (try replace F9 := F9.later hq); (try replace G1 := G1.later hq); (try replace G2 := G2.later hq); (try replace G3 := G3.later hq); (try replace z := z.later hq); (try replace b := later b hq); (try replace bB := mixed hB bB hq); clear hq; simp only [List.drop_succ_cons, List.drop_zero]) | (go_at_call 75; refine (HW.out _ F1).mono ?_; rintro _ _ ⟨rfl, h1, hc, hk⟩; clear F1; have F1 := h1; clear h1; replace bB := bB.trans hc; replace kk := kk.trans hk; clear hc hk b))
  go_end0
  exact ⟨rfl, F1, bB, kk⟩
set_option maxRecDepth 100000 in
set_option maxHeartbeats 1600000 in
theorem wrt_hash (g : Nat) (x : List UInt8) (k : List UInt8) (w : World) (h : Wrt w g x) (hk : k.length = 32) (hl : x.length ≤ 1048576) :
    Calls Tryz.prog 134 #[.pointer (some ⟨g, 0, none⟩), hv k] w fun e w' => e = .returned (.tuple #[]) ∧ Wrt w' g (x ++ k) ∧ Below g w w' ∧ KeepT g w w' := by
  have HP := hide (fun w => bytes_any k w hk)
  have hsz : (⟨k.toArray⟩ : ByteArray).size = 32 := by show k.toArray.size = 32; rw [List.size_toArray]; exact hk
  have HW := hide (fun w h => wrt_write g x ⟨k.toArray⟩ w h (by omega))
  have F1 := h
  have HK := hide hk
  have hB : g ≤ w.heap.size := Nat.le_of_lt h.lt
  have bB := Below.refl g w
  have kk := KeepT.refl g w
  have b := Below.refl w.heap.size w
  clear h hl hsz hk
  have e : (⟨k.toArray⟩ : ByteArray).data.toList = k := rfl
  rw [e] at HW
  generalize (⟨k.toArray⟩ : ByteArray) = s at *
  clear e
  unfold hv
  have mF2 := True.intro
  go_enter Tryz.func134, Tryz.ntmps134
  go_wp2_with (first | (with_reducible show wpList _ _ _ (⟨_, Op.box _ _, _, _, _, _⟩ :: _) _ _; clear mF2; refine wpl_box_hash rfl _ rfl rfl HK.out ?_; intro _ g3 hg3 F2 hb; replace kk := kk.trans (KeepT.below hb); (try replace F1 := F1.later hb); (try replace F2 := F2.later hb); (try replace F3 := F3.later hb); (try replace F4 := F4.later hb); (try replace F5 := F5.later hb); (try replace F6 := F6.later hb); (try replace F7 := F7.later hb); (try replace F8 := F8.later hb); (try replace F9 := F9.later hb); (try replace G1 := G1.later hb); (try replace G2 := G2.later hb); (try replace G3 := G3.later hb); (try replace z := z.later hb); (try replace b := later b hb); (try replace bB := mixed hB bB hb); clear hb) | (with_reducible show Code.wp _ (Code.region _ _ true) _ _ _; (try simp only [Act.put, List.setIfInBounds_toArray, List.set_cons_succ, List.set_cons_zero]); refine region_since_tail 5 (by kernel_rfl) (by kernel_rfl) ?_; simp only [List.take_succ_cons, List.take_zero]; (repeat (first | go_big_quiet_skip | (go_big_quiet_want; first | ((with_reducible show Oper.quiet _ ⟨_, Op.load _ _, _, _, _, _⟩ _ _ _); first | ((with_reducible show Oper.quiet _ ⟨_, Op.load 9 _, _, _, _, _⟩ _ _ _); (first | (refine since_load_one 9 _ rfl rfl (HdAt.c134 (by assumption)) (by kernel_rfl) ?_) | (refine since_load_one 9 _ rfl rfl (HdAt.c135 (by assumption)) (by kernel_rfl) ?_) | (refine since_load_one 9 _ rfl rfl (RtAt.c34 (by assumption)) (by kernel_rfl) ?_) | (refine since_load_one 9 _ rfl rfl (One.cell (by assumption)) (by kernel_rfl) ?_)); simp only [Act.put, List.setIfInBounds_toArray, List.set_cons_succ, List.set_cons_zero]; go_big_quiet_on) | ((with_reducible show Oper.quiet _ ⟨_, Op.load 24 _, _, _, _, _⟩ _ _ _); (first | (refine since_load_one 24 _ rfl rfl (HdAt.c0 (by assumption)) (by kernel_rfl) ?_) | (refine since_load_one 24 _ rfl rfl (HdAt.c1 (by assumption)) (by kernel_rfl) ?_) | (refine since_load_one 24 _ rfl rfl (HdAt.c98 (by assumption)) (by kernel_rfl) ?_) | (refine since_load_one 24 _ rfl rfl (HdAt.c99 (by assumption)) (by kernel_rfl) ?_) | (refine since_load_one 24 _ rfl rfl (HdAt.c132 (by assumption)) (by kernel_rfl) ?_) | (refine since_load_one 24 _ rfl rfl (HdAt.c133 (by assumption)) (by kernel_rfl) ?_) | (refine since_load_one 24 _ rfl rfl (RtAt.c32 (by assumption)) (by kernel_rfl) ?_) | (refine since_load_one 24 _ rfl rfl (RtAt.c33 (by assumption)) (by kernel_rfl) ?_)); simp only [Act.put, List.setIfInBounds_toArray, List.set_cons_succ, List.set_cons_zero]; go_big_quiet_on) | ((with_reducible show Oper.quiet _ ⟨_, Op.load 34 _, _, _, _, _⟩ _ _ _); first | (refine quiet_load_hash _ rfl rfl (by assumption) ?_; simp only [Act.put, List.setIfInBounds_toArray, List.set_cons_succ, List.set_cons_zero]; go_big_quiet_on) | ((first | (refine since_load_elem _ rfl rfl (HdAt.c2 (by assumption)) (HdAt.ok (by assumption)).prev ?_) | (refine since_load_elem _ rfl rfl (HdAt.c34 (by assumption)) (HdAt.ok (by assumption)).pool ?_) | (refine since_load_elem _ rfl rfl (HdAt.c66 (by assumption)) (HdAt.ok (by assumption)).body ?_) | (refine since_load_elem _ rfl rfl (HdAt.ch (by assumption)) (HdAt.ok (by assumption)).right.hot ?_) | (refine since_load_elem _ rfl rfl (RtAt.c0 (by assumption)) (RtAt.ok (by assumption)).hot ?_)); simp only [Act.put, List.setIfInBounds_toArray, List.set_cons_succ, List.set_cons_zero]; go_big_quiet_on)) | (refine since_load_hd _ rfl rfl (by assumption) ?_; simp only [Act.put, List.setIfInBounds_toArray, List.set_cons_succ, List.set_cons_zero]; go_big_quiet_on) | (refine since_load_rt _ rfl rfl (by assumption) ?_; simp only [Act.put, List.setIfInBounds_toArray, List.set_cons_succ, List.set_cons_zero]; go_big_quiet_on) | (refine since_load_hdrt _ rfl rfl (by assumption) ?_; simp only [Act.put, List.setIfInBounds_toArray, List.set_cons_succ, List.set_cons_zero]; go_big_quiet_on)) | (go_big_quiet_op; first | go_big_quiet_on | (first | (refine ⟨_, fun _ => since_of (HP.out _), ?_⟩; go_big_quiet_on)))))); refine wpQuiet_nil ?_; intro _ hq; replace kk := kk.trans (KeepT.below hq); (try replace F1 := F1.later hq); (try replace F2 := F2.later hq); (try replace F3 := F3.later hq); (try replace F4 := F4.later hq); (try replace F5 := F5.later hq); (try replace F6 := F6.later hq); (try replace F7 := F7.later hq); (try replace F8 := F8.later hq); (try replace F9 := F9.later hq); (try replace G1 := G1.later hq); (try replace G2 := G2.later hq); (try replace G3 := G3.later hq); (try replace z := z.later hq); (try replace b := later b hq); (try replace bB := mixed hB bB hq); clear hq; simp only [List.drop_succ_cons, List.drop_zero]) | (go_at_call 75; refine (HW.out _ F1).mono ?_; rintro _ _ ⟨rfl, h1, hc, hk⟩; clear F1; have F1 := h1; clear h1; replace bB := bB.trans hc; replace kk := kk.trans hk; clear hc hk b))
  go_end0
  exact ⟨rfl, F1, bB, kk⟩
end Go.Proofs.YtbbfnpfkbbpjgaaGreat

/- The short form of a number, as it is read: plain law. -/
namespace Go.Proofs.YtbbfnpfkbbpjgaaGreat
open Go.RowKit Go.Lib
set_option linter.unusedVariables false
set_option linter.unusedSimpArgs false

/-- What stands from the place i on, r bytes more at most, n having been read. -/
def takeF (s : List UInt8) : Nat → Nat → Nat → Option (Nat × Nat)
  | 0, _, _ => none
  | r + 1, i, n =>
    if s.length ≤ i then none
    else if r = 0 ∧ 1 < (s.getD i 0).toNat then none
    else if (s.getD i 0).toNat < 128 then (if (s.getD i 0).toNat = 0 ∧ 0 < i then none else some (n + (s.getD i 0).toNat % 128 * 128 ^ i, i + 1))
    else takeF s r (i + 1) (n + (s.getD i 0).toNat % 128 * 128 ^ i)
def takeO (s : List UInt8) : Option (Nat × Nat) := takeF s 10 0 0
theorem putF_head0 (r m : Nat) (hr : 0 < r) : ∃ c t, putF r m = c :: t := by
  obtain ⟨r, rfl⟩ : ∃ q, r = q + 1 := ⟨r - 1, by omega⟩
  rw [putF]
  split
  · exact ⟨_, _, rfl⟩
  · exact ⟨_, _, rfl⟩
theorem getD_mid (a b : List UInt8) (c : UInt8) (i : Nat) (h : a.length = i) : (a ++ c :: b).getD i 0 = c := by
  subst h
  rw [List.getD_eq_getElem?_getD, List.getElem?_append_right (Nat.le_refl _), Nat.sub_self]
  rfl
theorem u8_nat (n : Nat) (h : n < 256) : (UInt8.ofNat n).toNat = n := by rw [UInt8.toNat_ofNat']; exact Nat.mod_eq_of_lt h
theorem takeF_put (rest : List UInt8) : ∀ (r m i acc : Nat) (pre : List UInt8), pre.length = i → m < 2 ^ (7 * r + 1) → (0 < i → 0 < m) →
    takeF (pre ++ (putF (r + 1) m ++ rest)) (r + 1) i acc = some (acc + m * 128 ^ i, i + (putF (r + 1) m).length) := by
  intro r
  induction r with
  | zero =>
    intro m i acc pre hp hm h0
    have hm2 : m < 2 := by simpa using hm
    have e : putF 1 m = [UInt8.ofNat m] := by rw [putF, if_pos (by omega)]
    rw [e, List.singleton_append, takeF, if_neg (by simp; omega), getD_mid pre rest _ i hp, u8_nat m (by omega), if_neg (by omega), if_pos (by omega), if_neg (by omega), Nat.mod_eq_of_lt (by omega : m < 128)]
    rfl
  | succ r ih =>
    intro m i acc pre hp hm h0
    by_cases hlt : m < 128
    · have e : putF (r + 1 + 1) m = [UInt8.ofNat m] := by rw [putF, if_pos hlt]
      rw [e, List.singleton_append, takeF, if_neg (by simp; omega), getD_mid pre rest _ i hp, u8_nat m (by omega), if_neg (by omega), if_pos hlt, if_neg (by omega), Nat.mod_eq_of_lt hlt]
      rfl
    · have e : putF (r + 1 + 1) m = UInt8.ofNat (m % 128 + 128) :: putF (r + 1) (m / 128) := by rw [putF, if_neg hlt]
      have hx : pre ++ (UInt8.ofNat (m % 128 + 128) :: putF (r + 1) (m / 128) ++ rest) = (pre ++ [UInt8.ofNat (m % 128 + 128)]) ++ (putF (r + 1) (m / 128) ++ rest) := by simp
      have hi := ih (m / 128) (i + 1) (acc + m % 128 * 128 ^ i) (pre ++ [UInt8.ofNat (m % 128 + 128)]) (by simp [hp]) (by
        have h1 : (2 : Nat) ^ (7 * (r + 1) + 1) = 2 ^ (7 * r + 1) * 128 := by rw [show 7 * (r + 1) + 1 = 7 * r + 1 + 7 by omega, Nat.pow_add]
        rw [h1] at hm
        omega) (fun _ => by omega)
      rw [e, takeF, if_neg (by simp; omega), List.cons_append, getD_mid pre _ _ i hp, u8_nat _ (by omega), if_neg (by omega), if_neg (by omega), show (m % 128 + 128) % 128 = m % 128 by omega]
      rw [← List.cons_append, hx, hi, List.length_cons, Nat.pow_succ]
      have hd : m = m / 128 * 128 + m % 128 := by omega
      congr 2
      · rw [Nat.add_assoc]
        congr 1
        calc m % 128 * 128 ^ i + m / 128 * (128 ^ i * 128) = (m / 128 * 128 + m % 128) * 128 ^ i := by rw [Nat.add_mul, Nat.add_comm, Nat.mul_assoc, Nat.mul_comm (128 ^ i) 128]
          _ = m * 128 ^ i := by rw [← hd]
      · omega
/-- What was put is read. -/
theorem takeO_put (n : Nat) (hn : n < 18446744073709551616) (rest : List UInt8) : takeO (putL n ++ rest) = some (n, (putL n).length) := by
  have := takeF_put rest 9 n 0 0 [] rfl (by simpa using hn) (by omega)
  simpa [takeO, putL] using this
theorem takeF_is (s : List UInt8) : ∀ (r i acc v k : Nat), takeF s (r + 1) i acc = some (v, k) →
    ∃ m, v = acc + m * 128 ^ i ∧ k = i + (putF (r + 1) m).length ∧ (s.drop i).take (putF (r + 1) m).length = putF (r + 1) m ∧ m < 2 ^ (7 * r + 1) ∧ (0 < i → 0 < m) := by
  intro r
  induction r with
  | zero =>
    intro i acc v k h
    rw [takeF] at h
    by_cases h1 : s.length ≤ i
    · rw [if_pos h1] at h; cases h
    rw [if_neg h1] at h
    have hd : s.drop i = s.getD i 0 :: s.drop (i + 1) := by
      rw [List.drop_eq_getElem_cons (by omega), List.getD_eq_getElem?_getD, List.getElem?_eq_getElem (by omega), Option.getD_some]
    generalize s.getD i 0 = c at *
    by_cases h2 : 1 < c.toNat
    · rw [if_pos ⟨rfl, h2⟩] at h; cases h
    rw [if_neg (by omega), if_pos (by omega)] at h
    split at h
    · cases h
    · simp only [Option.some.injEq, Prod.mk.injEq] at h
      have e : putF (0 + 1) c.toNat = [c] := by rw [putF, if_pos (by omega)]; simp
      refine ⟨c.toNat, ?_, ?_, ?_, by simp; omega, by omega⟩
      · rw [← h.1, Nat.mod_eq_of_lt (by omega)]
      · rw [e]; exact h.2.symm
      · rw [e, hd]; rfl
  | succ r ih =>
    intro i acc v k h
    rw [takeF] at h
    by_cases h1 : s.length ≤ i
    · rw [if_pos h1] at h; cases h
    rw [if_neg h1, if_neg (by omega)] at h
    have hd : s.drop i = s.getD i 0 :: s.drop (i + 1) := by
      rw [List.drop_eq_getElem_cons (by omega), List.getD_eq_getElem?_getD, List.getElem?_eq_getElem (by omega), Option.getD_some]
    generalize s.getD i 0 = c at *
    have hc := c.toNat_lt
    by_cases h2 : c.toNat < 128
    · rw [if_pos h2] at h
      split at h
      · cases h
      · simp only [Option.some.injEq, Prod.mk.injEq] at h
        have e : putF (r + 1 + 1) c.toNat = [c] := by rw [putF, if_pos h2]; simp
        refine ⟨c.toNat, ?_, ?_, ?_, ?_, by omega⟩
        · rw [← h.1, Nat.mod_eq_of_lt h2]
        · rw [e]; exact h.2.symm
        · rw [e, hd]; rfl
        · have : (2 : Nat) ^ 8 ≤ 2 ^ (7 * (r + 1) + 1) := Nat.pow_le_pow_right (by omega) (by omega)
          omega
    · rw [if_neg h2] at h
      obtain ⟨m, e1, e2, e3, e4, e5⟩ := ih (i + 1) _ v k h
      have m0 := e5 (by omega)
      have q1 : ¬ m * 128 + c.toNat % 128 < 128 := by omega
      have q2 : (m * 128 + c.toNat % 128) / 128 = m := by omega
      have q3 : (m * 128 + c.toNat % 128) % 128 + 128 = c.toNat := by omega
      have e : putF (r + 1 + 1) (m * 128 + c.toNat % 128) = c :: putF (r + 1) m := by
        rw [putF, if_neg q1, q2, q3]; simp
      refine ⟨m * 128 + c.toNat % 128, ?_, ?_, ?_, ?_, by omega⟩
      · rw [e1, Nat.pow_succ, Nat.add_assoc]
        congr 1
        rw [Nat.add_mul, Nat.add_comm, Nat.mul_assoc, Nat.mul_comm (128 ^ i) 128]
      · rw [e, e2, List.length_cons]; omega
      · rw [e, List.length_cons, hd, List.take_succ_cons, e3]
      · have h1 : (2 : Nat) ^ (7 * (r + 1) + 1) = 2 ^ (7 * r + 1) * 128 := by rw [show 7 * (r + 1) + 1 = 7 * r + 1 + 7 by omega, Nat.pow_add]
        rw [h1]
        omega
/-- What is read was put. -/
theorem takeO_is {s : List UInt8} {n k : Nat} (h : takeO s = some (n, k)) : n < 18446744073709551616 ∧ k = (putL n).length ∧ s = putL n ++ s.drop k ∧ k ≤ s.length := by
  obtain ⟨m, e1, e2, e3, e4, _⟩ := takeF_is s 9 0 0 n k h
  have hm : m = n := by simpa using e1.symm
  subst hm
  rw [Nat.zero_add] at e2
  rw [List.drop_zero] at e3
  have e6 : s = putL m ++ s.drop k := by
    conv => lhs; rw [← List.take_append_drop k s]
    rw [e2]
    unfold putL
    rw [e3]
  refine ⟨by simpa using e4, e2, e6, ?_⟩
  have h9 := congrArg List.length e3
  rw [List.length_take] at h9
  rw [e2]
  omega
theorem putL_pos (n : Nat) : 0 < (putL n).length := by
  obtain ⟨c, t, h⟩ := putF_head0 10 n (by omega)
  unfold putL
  rw [h]
  simp
end Go.Proofs.YtbbfnpfkbbpjgaaGreat
