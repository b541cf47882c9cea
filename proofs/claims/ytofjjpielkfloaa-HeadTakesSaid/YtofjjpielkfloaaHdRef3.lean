/- The reference of layer 13: the reader In, of bytes enough; of layer 14: eight. -/
import Derived.Test.YtofjjpielkfloaaHd6
namespace Go.Proofs.Ytofjjpielkfloaa
open Go.RowKit Go.Lib
set_option linter.unusedVariables false
set_option linter.unusedSimpArgs false

/-- The reference's reader at block g has the bytes r ahead of it, and nothing was wrong. -/
def Ri (w : World) (g : Nat) (r : List UInt8) : Prop := Arr w g 104 [.string ⟨r.toArray⟩, .bool true]
theorem Ri.later {w w' : World} {g : Nat} {r : List UInt8} (h : Ri w g r) (hb : Below w.heap.size w w') : Ri w' g r := Arr.later h hb
theorem Ri.touch {S : Nat → Prop} {w w' : World} {g : Nat} {r : List UInt8} (h : Ri w g r) (ht : Touch S w w') (hS : ¬ S g) : Ri w' g r := Arr.touch h ht hS
theorem Ri.lt {w : World} {g : Nat} {r : List UInt8} (h : Ri w g r) : g < w.heap.size := Arr.lt h
theorem Ri.tt {w w' : World} {g g' : Nat} {r : List UInt8} (h : Ri w g r) (ht : Touch (fun x => x = g') w w') (hS : ¬ g = g' := by omega) : Ri w' g r := h.touch ht hS
set_option maxRecDepth 100000 in
set_option maxHeartbeats 1600000 in
theorem riText_any (g : Nat) (r : List UInt8) (n : Nat) (w : World) (h : Ri w g r) (hn : n ≤ r.length) (hm : r.length ≤ 1099511627776) :
    Calls Try.prog 86 #[.pointer (some ⟨g, 0, none⟩), .int .i64 n] w fun e w' => e = .returned (.string ⟨(r.take n).toArray⟩) ∧ Ri w' g (r.drop n) ∧ Touch (fun b => b = g) w w' := by
  have e1 := ext_take r n
  have e2 := ext_drop r n
  have hs : (⟨r.toArray⟩ : ByteArray).size = r.length := rfl
  rw [← hs] at hn hm
  rw [← e1]
  unfold Ri at h ⊢
  rw [← e2]
  clear e1 e2 hs
  generalize (⟨r.toArray⟩ : ByteArray) = s at *
  have F1 : Arr w g 104 [.string s, .bool true] := h
  clear h
  have c0 : w.cell? ⟨g, 0, none⟩ = some (.string s) := Arr.cell F1 (i := 0) (by simp)
  have t0 := Arr.thaw F1 0
  go_enter Try.func86, Try.ntmps86
  go_wp2_with fail
  go_ret
  exact ⟨rfl, Arr.set F1 0 _, touch_set w ⟨g, 0, none⟩ _⟩
set_option maxRecDepth 100000 in
set_option maxHeartbeats 1600000 in
theorem riEight_any (g : Nat) (r : List UInt8) (w : World) (h : Ri w g r) (hn : 8 ≤ r.length) (hm : r.length ≤ 1099511627776) :
    Calls Try.prog 84 #[.pointer (some ⟨g, 0, none⟩)] w fun e w' => e = .returned (.int .u64 (numL (r.take 8))) ∧ Ri w' g (r.drop 8) ∧ Touch (fun b => b = g) w w' := by
  have HT : Hid (Calls Try.prog 86 #[.pointer (some ⟨g, 0, none⟩), .int .i64 8] w fun e w' => e = .returned (.string ⟨(r.take 8).toArray⟩) ∧ Ri w' g (r.drop 8) ∧ Touch (fun b => b = g) w w') := riText_any g r 8 w h hn hm
  have HE : Hid (∀ w, Calls Try.prog 115 #[.string ⟨(r.take 8).toArray⟩] w fun e w' => e = .returned (.tuple #[.int .u64 (numL (r.take 8)), .int .i64 0]) ∧ Below w.heap.size w w') := fun w => by
    have hz : (⟨(r.take 8).toArray⟩ : ByteArray).size = 8 := by show (r.take 8).toArray.size = 8; rw [List.size_toArray, List.length_take]; omega
    have := refTakeEight_any ⟨(r.take 8).toArray⟩ w (by omega) (by omega)
    rwa [show (⟨(r.take 8).toArray⟩ : ByteArray).data.toList.take 8 = r.take 8 from by show (r.take 8).take 8 = _; rw [List.take_take, Nat.min_self]] at this
  clear h hn hm
  generalize numL (r.take 8) = N at *
  generalize (⟨(r.take 8).toArray⟩ : ByteArray) = s at *
  go_enter Try.func84, Try.ntmps84
  go_wp2_with (first | (go_at_call 86; refine HT.out.mono ?_; rintro _ w1 ⟨rfl, F1, ht⟩) | (go_at_call 115; refine (HE.out _).mono ?_; rintro _ w2 ⟨rfl, hc⟩; replace F1 := F1.later hc; replace ht := ht.behind hc))
  go_ret
  exact ⟨rfl, F1, ht⟩
theorem set_next (L Z : List UInt8) (k : Nat) (hL : L.length = 32) (hZ : Z.length = 32) (hk : k < 32) : (L.take k ++ Z.drop k).set k (L.getD k 0) = L.take (k + 1) ++ Z.drop (k + 1) := by
  have e : (L.take k).length = k := by rw [List.length_take]; omega
  have e2 : L.take (k + 1) = L.take k ++ [L.getD k 0] := by
    rw [List.take_succ_eq_append_getElem (by omega), List.getD_eq_getElem?_getD, List.getElem?_eq_getElem (by omega), Option.getD_some]
  have e3 : Z.drop k = Z.getD k 0 :: Z.drop (k + 1) := by
    rw [List.drop_eq_getElem_cons (by omega), List.getD_eq_getElem?_getD, List.getElem?_eq_getElem (by omega), Option.getD_some]
  rw [List.set_append, if_neg (by omega), e, Nat.sub_self, e3, List.set_cons_zero, e2, List.append_assoc]
  rfl
set_option maxRecDepth 100000 in
set_option maxHeartbeats 1600000 in
theorem riHash_any (g : Nat) (r : List UInt8) (w : World) (h : Ri w g r) (hn : 32 ≤ r.length) (hm : r.length ≤ 1099511627776) :
    Calls Try.prog 85 #[.pointer (some ⟨g, 0, none⟩)] w fun e w' => e = .returned (hv (r.take 32)) ∧ Ri w' g (r.drop 32) ∧ Touch (fun b => b = g) w w' := by
  have HT : Hid (∀ w, Ri w g r → Calls Try.prog 86 #[.pointer (some ⟨g, 0, none⟩), .int .i64 32] w fun e w' => e = .returned (.string ⟨(r.take 32).toArray⟩) ∧ Ri w' g (r.drop 32) ∧ Touch (fun b => b = g) w w') := fun w h => riText_any g r 32 w h hn hm
  have F5 := h
  have hgw := h.lt
  have ht := Touch.refl (fun b => b = g) w
  have hl : (r.take 32).length = 32 := by rw [List.length_take]; omega
  have HL := hide hl
  have hz : (⟨(r.take 32).toArray⟩ : ByteArray).size = 32 := by show (r.take 32).toArray.size = 32; rw [List.size_toArray]; exact hl
  have HS : Hid ((⟨(r.take 32).toArray⟩ : ByteArray).data.toList = r.take 32) := rfl
  have HZ := hide hz
  clear h hn hm hl hz
  generalize (⟨(r.take 32).toArray⟩ : ByteArray) = s at *
  generalize r.take 32 = L at *
  have mF2 := True.intro
  have mF3 := True.intro
  go_enter Try.func85, Try.ntmps85
  go_wp2_with (first | (with_reducible show wpList _ _ _ (⟨_, Op.alloc _, _, _, _, _⟩ :: _) _ _; clear mF2; refine wpl_mk_hash rfl rfl ?_; intro _ g2 h2 F2 hb; have l5 := F5.lt; replace F5 := F5.later hb; replace ht := ht.behind hb; clear hb) | (go_at_call 86; refine (HT.out _ F5).mono ?_; rintro _ w1 ⟨rfl, h1, ht1⟩; clear F5; have F5 := h1; clear h1; replace ht := ht.add ht1 (fun x h => h); replace F2 := F2.touch ht1 (by show ¬ _ = _; omega); clear ht1) | (with_reducible show wpList _ _ _ (⟨_, Op.build _ _, _, _, _, _⟩ :: _) _ _; refine wpl_zero_hash rfl rfl ?_) | (with_reducible show wpList _ _ _ (⟨_, Op.alloc _, _, _, _, _⟩ :: _) _ _; clear mF3; refine wpl_mk_hash rfl rfl ?_; intro _ g3 h3 F3 hb; have l2 := F2.lt; have l5b := F5.lt; replace F2 := F2.later hb; replace F5 := F5.later hb; replace ht := ht.behind hb; clear hb) | (with_reducible show wpList _ _ _ (⟨_, Op.store _ _ _, _, _, _, _⟩ :: _) _ _; refine wpl_set_hash rfl _ _ rfl rfl rfl (show zero32.length = 32 from rfl) F3 ?_; intro _ t1 ht2; replace F2 := F2.touch ht2 (by show ¬ _ = _; omega); replace F5 := F5.touch ht2 (by show ¬ _ = _; omega); replace ht := ht.trans ht2 (fun x hx => .inr (by have : x = g3 := hx; have := ht.size; omega)); clear F3; have F3 := t1; clear t1 ht2))
  have g23 : g2 < g3 := by omega
  have gg2 : g < g2 := by omega
  have wg2 : w.heap.size ≤ g2 := h2
  have wg3 : w.heap.size ≤ g3 := by omega
  go_loopw [5] (fun i wr => ∃ k : Nat, k ≤ 32 ∧ i = .int .i64 k ∧ Ri wr g (r.drop 32) ∧ HashAt wr g2 zero32 ∧ Byts wr g3 23 (L.take k ++ zero32.drop k) ∧ Touch (fun b => b = g) w wr) (fun i _ => 32 - (RowKit.intOf i).toNat)
  case atStart => exact ⟨0, by omega, rfl, F5, F2, F3.2, ht⟩
  case round =>
    clear F5 F2 F3 ht
    obtain ⟨k, hk, rfl, F5, F2, F3, ht⟩ := hrel
    by_cases hlt : k < 32
    · have hks : k < s.size := by rw [HZ.out]; exact hlt
      have eb : ∀ h : k < s.size, ((s[k]'h).toNat : Int) = ((L.getD k 0).toNat : Int) := fun h => by rw [byte_at s k h, HS.out]
      have x1 := Byts.cell F3 (i := k) (by rw [List.length_append, List.length_take, List.length_drop, HL.out, show zero32.length = 32 from rfl]; omega)
      have x2 := Arr.thaw F3 k
      have d1 := Byts.set F3 k (L.getD k 0)
      rw [set_next L zero32 k HL.out rfl hlt] at d1
      have d2 := F5.touch (touch_set _ ⟨g3, k, none⟩ (.int .u8 ((L.getD k 0).toNat : Int))) (by show ¬ g = g3; omega)
      have d3 := F2.touch (touch_set _ ⟨g3, k, none⟩ (.int .u8 ((L.getD k 0).toNat : Int))) (by show ¬ g2 = g3; omega)
      have d4 := ht.trans (touch_set _ ⟨g3, k, none⟩ (.int .u8 ((L.getD k 0).toNat : Int))) (fun x hx => .inr (by have : x = g3 := hx; omega))
      have D1 := hide d1
      have D2 := hide d2
      have D3 := hide d3
      have D4 := hide d4
      clear d1 d2 d3 d4 F3 F5 F2 ht
      generalize L.getD k 0 = c at *
      go_wp2_with fail
      go_roundw
      case rel => exact ⟨k + 1, by omega, by simp, D2.out, D3.out, D1.out, D4.out⟩
      case measure => simp [RowKit.intOf]; omega
    · obtain rfl : k = 32 := by omega
      have F4 : HashAt _ g3 L := ⟨HL.out, by have := F3; rwa [List.take_of_length_le (by rw [HL.out]; exact Nat.le_refl _), List.drop_of_length_le (by rw [show zero32.length = 32 from rfl]; exact Nat.le_refl _), List.append_nil] at this⟩
      clear F3 hlt hk
      go_wp2_with (first | (with_reducible show wpList _ _ _ (⟨_, Op.load _ _, _, _, _, _⟩ :: _) _ _; refine wpl_load_hash rfl _ rfl rfl (by assumption) ?_) | (with_reducible show wpList _ _ _ (⟨_, Op.store _ _ _, _, _, _, _⟩ :: _) _ _; refine wpl_set_hash rfl _ _ rfl rfl rfl HL.out F2 ?_; intro _ t1 ht2; replace F5 := F5.touch ht2 (by show ¬ _ = _; omega); replace ht := ht.trans ht2 (fun x hx => .inr (by have : x = g2 := hx; omega)); clear F2; have F2 := t1; clear t1 ht2))
      exact bodyPost_ret (ret_hash rfl _ _ rfl F2) rfl ⟨rfl, F5, ht⟩
end Go.Proofs.Ytofjjpielkfloaa
