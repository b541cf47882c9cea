/- deed.Id; the law's great. -/
import Derived.Test.YtbbfnpfkbbpjgaaQDeed8
import Derived.Test.YtbbfnpfkbbpjgaaQElWit
import Derived.Test.YtbbfnpfkbbpjgaaQDig8
import Derived.Test.YtbbfnpfkbbpjgaaQMBase
import Derived.Test.YtbbfnpfkbbpjgaaQMCells
import Derived.SliceStrings
namespace Go.Proofs.Ytbbfnpfkbbpjgaa
open Go.RowKit Go.Lib
set_option linter.unusedVariables false
set_option linter.unusedSimpArgs false

def tagDeed : List UInt8 := [100, 101, 101, 100]
def idD (d : Deed) : List UInt8 × Int := if mayD d = true then (ofX tagDeed [bodyL d], 0) else (zero32, 2)
set_option maxRecDepth 100000 in
set_option maxHeartbeats 1600000 in
theorem deedId_any (v : Value) (d : Deed) (w : World) (h : DeedIs w v d) (hf : d.Fit) :
    Calls Try.prog 42 #[v] w fun e w' => e = .returned (.tuple #[hv (idD d).1, .int .i64 (idD d).2]) ∧ Below w.heap.size w w' := by
  have HM := hide (fun (w' : World) (hb : Below w.heap.size w w') => mayF_any v d w' (h.later hb) hf)
  have hF : mayD d = true → d.FewW := fun hm => mayD_few (by obtain ⟨_, _, _, _, _, _, _, _, _, _, _, ok⟩ := h; exact ok) hm
  have HP := hide (fun (hm : mayD d = true) (w' : World) (hb : Below w.heap.size w w') => body_any v d w' (h.later hb) (hF hm).few)
  have HBL := hide (fun (hm : mayD d = true) => body_len (hF hm).few)
  obtain ⟨v1, v2, v3, v4, v5, rfl, h1, h2, h3, h4, h5, ok⟩ := h
  have o1 := h1.one'
  have o2 := h2.one'
  have o3 := h3.one'
  have o4 := h4.one'
  have o5 := h5.one'
  have b := Below.refl w.heap.size w
  clear h1 h2 h3 h4 h5 ok hf hF
  generalize d.fee = f at *
  generalize d.frm = s at *
  generalize d.til = t at *
  unfold idD
  by_cases hm : mayD d = true
  · have HP2 := hide (HP.out hm)
    have hbl := HBL.out hm
    rw [hm] at HM
    rw [if_pos hm]
    have HO : Hid (∀ w, Calls Try.prog 108 #[.string ⟨#[100, 101, 101, 100]⟩, .slice (some ⟨w.heap.size, 0, none⟩) 1 1] (w.alloc (.cells #[.string ⟨(bodyL d).toArray⟩] 9)) fun e w' => e = .returned (hv (ofX tagDeed [bodyL d])) ∧ Below w.heap.size w w') := fun w => of1 tagDeed _ w (by decide) (by omega)
    have HL := hide (ofX_length tagDeed [bodyL d])
    clear HP hm HBL hbl
    generalize ofX tagDeed [bodyL d] = R at *
    generalize (⟨(bodyL d).toArray⟩ : ByteArray) = sb at *
    have mF1 := True.intro
    have mF2 := True.intro
    go_enter Try.func42, Try.ntmps42
    go_wp2_with (first | (with_reducible show wpList _ _ _ (⟨_, Op.box _ _, _, _, _, _⟩ :: _) _ _; clear mF1; refine wpl_box_deed rfl _ rfl rfl o1 o2 o3 o4 o5 ?_; intro _ g1 hg1 F1 hb; (try replace F1 := F1.later hb); (try replace F2 := F2.later hb); (try replace F3 := F3.later hb); (try replace F4 := F4.later hb); (try replace F5 := F5.later hb); (try replace F6 := F6.later hb); (try replace F7 := F7.later hb); (try replace F8 := F8.later hb); (try replace F9 := F9.later hb); (try replace G1 := G1.later hb); (try replace G2 := G2.later hb); (try replace G3 := G3.later hb); (try replace z := z.later hb); (try replace b := later b hb); (try replace bB := mixed hB bB hb); clear hb) | (with_reducible show wpList _ _ _ (⟨_, Op.alloc _, _, _, _, _⟩ :: _) _ _; clear mF2; refine wpl_mk_hash rfl rfl ?_; intro _ g2 hg2 F2 hb; (try have := F1.lt); (try have := F2.lt); (try have := F3.lt); (try have := F4.lt); (try have := F5.lt); (try have := F6.lt); (try have := F7.lt); (try have := F8.lt); (try have := F9.lt); (try have := z.lt); (try have := G1.lt); (try have := G2.lt); (try have := G3.lt); (try have := b.size); (try replace F1 := F1.later hb); (try replace F2 := F2.later hb); (try replace F3 := F3.later hb); (try replace F4 := F4.later hb); (try replace F5 := F5.later hb); (try replace F6 := F6.later hb); (try replace F7 := F7.later hb); (try replace F8 := F8.later hb); (try replace F9 := F9.later hb); (try replace G1 := G1.later hb); (try replace G2 := G2.later hb); (try replace G3 := G3.later hb); (try replace z := z.later hb); (try replace b := later b hb); (try replace bB := mixed hB bB hb); clear hb) | (with_reducible show wpList _ _ _ (⟨_, Op.load _ _, _, _, _, _⟩ :: _) _ _; refine wpl_ld_deed rfl _ rfl rfl F1 ?_) | (go_at_call 91; refine (HM.out _ b).mono ?_; rintro _ _ ⟨rfl, hc⟩; (try replace F1 := F1.later hc); (try replace F2 := F2.later hc); (try replace F3 := F3.later hc); (try replace F4 := F4.later hc); (try replace F5 := F5.later hc); (try replace F6 := F6.later hc); (try replace F7 := F7.later hc); (try replace F8 := F8.later hc); (try replace F9 := F9.later hc); (try replace G1 := G1.later hc); (try replace G2 := G2.later hc); (try replace G3 := G3.later hc); (try replace z := z.later hc); (try replace b := later b hc); (try replace bB := mixed hB bB hc); clear hc) | (go_at_call 107; refine (HP2.out _ b).mono ?_; rintro _ _ ⟨rfl, hc⟩; (try replace F1 := F1.later hc); (try replace F2 := F2.later hc); (try replace F3 := F3.later hc); (try replace F4 := F4.later hc); (try replace F5 := F5.later hc); (try replace F6 := F6.later hc); (try replace F7 := F7.later hc); (try replace F8 := F8.later hc); (try replace F9 := F9.later hc); (try replace G1 := G1.later hc); (try replace G2 := G2.later hc); (try replace G3 := G3.later hc); (try replace z := z.later hc); (try replace b := later b hc); (try replace bB := mixed hB bB hc); clear hc) | (go_at_call 108; refine (HO.out _).mono ?_; rintro _ _ ⟨rfl, hc⟩; (try replace F1 := F1.later hc); (try replace F2 := F2.later hc); (try replace F3 := F3.later hc); (try replace F4 := F4.later hc); (try replace F5 := F5.later hc); (try replace F6 := F6.later hc); (try replace F7 := F7.later hc); (try replace F8 := F8.later hc); (try replace F9 := F9.later hc); (try replace G1 := G1.later hc); (try replace G2 := G2.later hc); (try replace G3 := G3.later hc); (try replace z := z.later hc); (try replace b := later b hc); (try replace bB := mixed hB bB hc); clear hc) | (with_reducible show wpList _ _ _ (⟨_, Op.store _ _ _, _, _, _, _⟩ :: _) _ _; refine wpl_set_hash rfl _ _ rfl rfl rfl HL.out F2 ?_; intro _ t1 ht; (try replace F1 := F1.tt ht); (try replace F2 := F2.tt ht); (try replace F3 := F3.tt ht); (try replace F4 := F4.tt ht); (try replace F5 := F5.tt ht); (try replace F6 := F6.tt ht); (try replace F7 := F7.tt ht); (try replace F8 := F8.tt ht); (try replace F9 := F9.tt ht); (try replace G1 := G1.tt ht); (try replace G2 := G2.tt ht); (try replace G3 := G3.tt ht); (try replace z := z.tt ht); (try replace b := below_touch b ht (by omega) (by omega)); (try replace bB := below_touch bB ht (by omega) hB); replace F2 := t1; clear ht))
    exact bodyPost_ret (ret_hash_tmp rfl _ _ _ rfl rfl F2) rfl ⟨rfl, b⟩
  · have hm' : mayD d = false := by simpa using hm
    rw [hm'] at HM
    rw [if_neg hm]
    clear HP hm hm' HBL
    have mF1 := True.intro
    have mF2 := True.intro
    go_enter Try.func42, Try.ntmps42
    go_wp2_with (first | (with_reducible show wpList _ _ _ (⟨_, Op.box _ _, _, _, _, _⟩ :: _) _ _; clear mF1; refine wpl_box_deed rfl _ rfl rfl o1 o2 o3 o4 o5 ?_; intro _ g1 hg1 F1 hb; (try replace F1 := F1.later hb); (try replace F2 := F2.later hb); (try replace F3 := F3.later hb); (try replace F4 := F4.later hb); (try replace F5 := F5.later hb); (try replace F6 := F6.later hb); (try replace F7 := F7.later hb); (try replace F8 := F8.later hb); (try replace F9 := F9.later hb); (try replace G1 := G1.later hb); (try replace G2 := G2.later hb); (try replace G3 := G3.later hb); (try replace z := z.later hb); (try replace b := later b hb); (try replace bB := mixed hB bB hb); clear hb) | (with_reducible show wpList _ _ _ (⟨_, Op.alloc _, _, _, _, _⟩ :: _) _ _; clear mF2; refine wpl_mk_hash rfl rfl ?_; intro _ g2 hg2 F2 hb; (try have := F1.lt); (try have := F2.lt); (try have := F3.lt); (try have := F4.lt); (try have := F5.lt); (try have := F6.lt); (try have := F7.lt); (try have := F8.lt); (try have := F9.lt); (try have := z.lt); (try have := G1.lt); (try have := G2.lt); (try have := G3.lt); (try have := b.size); (try replace F1 := F1.later hb); (try replace F2 := F2.later hb); (try replace F3 := F3.later hb); (try replace F4 := F4.later hb); (try replace F5 := F5.later hb); (try replace F6 := F6.later hb); (try replace F7 := F7.later hb); (try replace F8 := F8.later hb); (try replace F9 := F9.later hb); (try replace G1 := G1.later hb); (try replace G2 := G2.later hb); (try replace G3 := G3.later hb); (try replace z := z.later hb); (try replace b := later b hb); (try replace bB := mixed hB bB hb); clear hb) | (with_reducible show wpList _ _ _ (⟨_, Op.load _ _, _, _, _, _⟩ :: _) _ _; refine wpl_ld_deed rfl _ rfl rfl F1 ?_) | (go_at_call 91; refine (HM.out _ b).mono ?_; rintro _ _ ⟨rfl, hc⟩; (try replace F1 := F1.later hc); (try replace F2 := F2.later hc); (try replace F3 := F3.later hc); (try replace F4 := F4.later hc); (try replace F5 := F5.later hc); (try replace F6 := F6.later hc); (try replace F7 := F7.later hc); (try replace F8 := F8.later hc); (try replace F9 := F9.later hc); (try replace G1 := G1.later hc); (try replace G2 := G2.later hc); (try replace G3 := G3.later hc); (try replace z := z.later hc); (try replace b := later b hc); (try replace bB := mixed hB bB hc); clear hc) | (with_reducible show wpList _ _ _ (⟨_, Op.build _ _, _, _, _, _⟩ :: _) _ _; refine wpl_zero_hash rfl rfl ?_) | (with_reducible show wpList _ _ _ (⟨_, Op.store _ _ _, _, _, _, _⟩ :: _) _ _; refine wpl_set_hash rfl _ _ rfl rfl rfl rfl F2 ?_; intro _ t1 ht; (try replace F1 := F1.tt ht); (try replace F2 := F2.tt ht); (try replace F3 := F3.tt ht); (try replace F4 := F4.tt ht); (try replace F5 := F5.tt ht); (try replace F6 := F6.tt ht); (try replace F7 := F7.tt ht); (try replace F8 := F8.tt ht); (try replace F9 := F9.tt ht); (try replace G1 := G1.tt ht); (try replace G2 := G2.tt ht); (try replace G3 := G3.tt ht); (try replace z := z.tt ht); (try replace b := below_touch b ht (by omega) (by omega)); (try replace bB := below_touch bB ht (by omega) hB); replace F2 := t1; clear ht))
    exact bodyPost_ret (ret_hash_tmp rfl _ _ _ rfl rfl F2) rfl ⟨rfl, b⟩
set_option maxRecDepth 100000 in
set_option maxHeartbeats 1600000 in
theorem great13_any (v : Value) (d : Deed) (w : World) (h : DeedIs w v d) (hf : d.Fit) :
    Calls Try.prog 30 #[v] w fun e w' => (∃ B : Bool, e = .returned (.bool B)) ∧ Below w.heap.size w w' := by
  have hm5 := hf.wits
  obtain ⟨v1, v2, v3, v4, v5, rfl, h1, h2, h3, h4, h5, ok⟩ := h
  obtain ⟨a1, c1, rfl, -⟩ := h1.shape
  obtain ⟨a2, c2, rfl, -⟩ := h2.shape
  obtain ⟨a3, c3, rfl, -⟩ := h3.shape
  obtain ⟨a4, c4, rfl, -⟩ := h4.shape
  obtain ⟨a5, c5, rfl, -⟩ := h5.shape
  have o1 : (Value.slice a1 d.ins.length c1).oneCell' = true := rfl
  have o2 : (Value.slice a2 d.outs.length c2).oneCell' = true := rfl
  have o3 : (Value.slice a3 d.certs.length c3).oneCell' = true := rfl
  have o4 : (Value.slice a4 d.pays.length c4).oneCell' = true := rfl
  have o5 : (Value.slice a5 d.wits.length c5).oneCell' = true := rfl
  have OKW := hide ok.wits
  obtain ⟨n5, hn5⟩ : ∃ n, n = d.wits.length := ⟨_, rfl⟩
  have HN := hide hn5
  have b := Below.refl w.heap.size w
  rw [← hn5] at o5 hm5 ⊢
  clear hn5 h1 h2 h3 h4 ok hf
  generalize d.ins.length = n1 at *
  generalize d.outs.length = n2 at *
  generalize d.certs.length = n3 at *
  generalize d.pays.length = n4 at *
  generalize d.fee = f at *
  generalize d.frm = s at *
  generalize d.til = t at *
  have mF1 := True.intro
  have mF2 := True.intro
  go_enter Try.func30, Try.ntmps30
  go_wp2_with (first | (with_reducible show wpList _ _ _ (⟨_, Op.box _ _, _, _, _, _⟩ :: _) _ _; clear mF1; refine wpl_box_deed rfl _ rfl rfl o1 o2 o3 o4 o5 ?_; intro _ g1 hg1 F1 hb; (try replace F1 := F1.later hb); (try replace F2 := F2.later hb); (try replace F3 := F3.later hb); (try replace F4 := F4.later hb); (try replace F5 := F5.later hb); (try replace F6 := F6.later hb); (try replace F7 := F7.later hb); (try replace F8 := F8.later hb); (try replace F9 := F9.later hb); (try replace G1 := G1.later hb); (try replace G2 := G2.later hb); (try replace G3 := G3.later hb); (try replace z := z.later hb); (try replace b := later b hb); (try replace bB := mixed hB bB hb); clear hb) | (with_reducible show wpList _ _ _ (⟨_, Op.load _ _, _, _, _, _⟩ :: _) _ _; first | ((with_reducible show wpList _ _ _ (⟨_, Op.load 23 _, _, _, _, _⟩ :: _) _ _); first | refine wpl_load_one rfl 23 _ rfl rfl (DAt.c2 F1) (by kernel_rfl) ?_ | refine wpl_load_one rfl 23 _ rfl rfl (DAt.c3 F1) (by kernel_rfl) ?_ | refine wpl_load_one rfl 23 _ rfl rfl (DAt.c4 F1) (by kernel_rfl) ?_) | refine wpl_load_one rfl 50 _ rfl rfl (DAt.c0 F1) (by kernel_rfl) ?_ | refine wpl_load_one rfl 28 _ rfl rfl (DAt.c1 F1) (by kernel_rfl) ?_ | refine wpl_load_one rfl 51 _ rfl rfl (DAt.c5 F1) (by kernel_rfl) ?_ | refine wpl_load_one rfl 52 _ rfl rfl (DAt.c6 F1) (by kernel_rfl) ?_ | refine wpl_load_one rfl 53 _ rfl rfl (DAt.c7 F1) (by kernel_rfl) ?_ | refine wpl_ld_deed rfl _ rfl rfl F1 ?_))
  go_loopw [8] (fun i wr => ∃ k : Nat, i = .int .i64 k ∧ k ≤ n5 ∧ DAt wr g1 (.slice a1 n1 c1) (.slice a2 n2 c2) (.slice a3 n3 c3) (.slice a4 n4 c4) (.slice a5 n5 c5) f s t ∧ Below w.heap.size w wr) (fun i _ => n5 - (RowKit.intOf i).toNat)
  case atStart => exact ⟨0, rfl, by omega, F1, b⟩
  case round =>
    clear b F1
    obtain ⟨k, rfl, hk, F1, b⟩ := hrel
    by_cases hlt : k < n5
    · obtain ⟨x, hx, ok⟩ := get_ok OKW.out (k := k) (by rw [← HN.out]; exact hlt)
      obtain ⟨bb, k0, c', he, _, hcs⟩ := (h5.later b).block (by rw [← HN.out]; omega)
      have d1 := hcs k x hx
      rw [← HN.out] at he
      simp only [Value.slice.injEq] at he
      obtain ⟨rfl, -, rfl⟩ := he
      have OK := hide ok
      clear hcs hx ok
      by_cases hg : (4096 : Int) < (x.sig.size : Int)
      · have cc := decide_eq_true hg
        go_wp2_with (first | (with_reducible show wpList _ _ _ (⟨_, Op.alloc _, _, _, _, _⟩ :: _) _ _; clear mF2; refine wpl_mk_wit rfl rfl ?_; intro _ g2 hg2 F2 ha; simp only [Act.put, List.setIfInBounds_toArray, List.set_cons_succ, List.set_cons_zero]) | ((with_reducible show wpList _ _ _ (⟨_, Op.store 142 _ _, _, _, _, _⟩ :: _) _ _); refine wpl_set_wit rfl _ _ rfl rfl rfl OK.out F2 ?_; intro _ t1 ht1; have hb := below_touch ha ht1 hg2 (Nat.le_refl _); clear F2; (try replace F1 := F1.later hb); (try replace F2 := F2.later hb); (try replace F3 := F3.later hb); (try replace F4 := F4.later hb); (try replace F5 := F5.later hb); (try replace F6 := F6.later hb); (try replace F7 := F7.later hb); (try replace F8 := F8.later hb); (try replace F9 := F9.later hb); (try replace G1 := G1.later hb); (try replace G2 := G2.later hb); (try replace G3 := G3.later hb); (try replace z := z.later hb); (try replace b := later b hb); (try replace bB := mixed hB bB hb); have F2 := t1; clear t1 ht1 ha hb; simp only [Act.put, List.setIfInBounds_toArray, List.set_cons_succ, List.set_cons_zero]) | ((with_reducible show wpList _ _ _ (⟨_, Op.load 142 _, _, _, _, _⟩ :: _) _ _); refine wpl_ld_wit rfl _ rfl rfl d1 OK.out ?_) | (with_reducible show wpList _ _ _ (⟨_, Op.load _ _, _, _, _, _⟩ :: _) _ _; refine wpl_load_one rfl 9 _ rfl rfl (WitAt.sig F2) (by kernel_rfl) ?_))
        go_ret
        exact ⟨⟨_, rfl⟩, b⟩
      · have cc := decide_eq_false hg
        go_wp2_with (first | (with_reducible show wpList _ _ _ (⟨_, Op.alloc _, _, _, _, _⟩ :: _) _ _; clear mF2; refine wpl_mk_wit rfl rfl ?_; intro _ g2 hg2 F2 ha; simp only [Act.put, List.setIfInBounds_toArray, List.set_cons_succ, List.set_cons_zero]) | ((with_reducible show wpList _ _ _ (⟨_, Op.store 142 _ _, _, _, _, _⟩ :: _) _ _); refine wpl_set_wit rfl _ _ rfl rfl rfl OK.out F2 ?_; intro _ t1 ht1; have hb := below_touch ha ht1 hg2 (Nat.le_refl _); clear F2; (try replace F1 := F1.later hb); (try replace F2 := F2.later hb); (try replace F3 := F3.later hb); (try replace F4 := F4.later hb); (try replace F5 := F5.later hb); (try replace F6 := F6.later hb); (try replace F7 := F7.later hb); (try replace F8 := F8.later hb); (try replace F9 := F9.later hb); (try replace G1 := G1.later hb); (try replace G2 := G2.later hb); (try replace G3 := G3.later hb); (try replace z := z.later hb); (try replace b := later b hb); (try replace bB := mixed hB bB hb); have F2 := t1; clear t1 ht1 ha hb; simp only [Act.put, List.setIfInBounds_toArray, List.set_cons_succ, List.set_cons_zero]) | ((with_reducible show wpList _ _ _ (⟨_, Op.load 142 _, _, _, _, _⟩ :: _) _ _); refine wpl_ld_wit rfl _ rfl rfl d1 OK.out ?_) | (with_reducible show wpList _ _ _ (⟨_, Op.load _ _, _, _, _, _⟩ :: _) _ _; refine wpl_load_one rfl 9 _ rfl rfl (WitAt.sig F2) (by kernel_rfl) ?_))
        go_roundw
        case rel => exact ⟨k + 1, by simp, by omega, F1, b⟩
        case measure => simp [RowKit.intOf]; omega
    · obtain rfl : n5 = k := by omega
      go_wp2_with (with_reducible show wpList _ _ _ (⟨_, Op.load _ _, _, _, _, _⟩ :: _) _ _; first | ((with_reducible show wpList _ _ _ (⟨_, Op.load 23 _, _, _, _, _⟩ :: _) _ _); first | refine wpl_load_one rfl 23 _ rfl rfl (DAt.c2 F1) (by kernel_rfl) ?_ | refine wpl_load_one rfl 23 _ rfl rfl (DAt.c3 F1) (by kernel_rfl) ?_ | refine wpl_load_one rfl 23 _ rfl rfl (DAt.c4 F1) (by kernel_rfl) ?_) | refine wpl_load_one rfl 50 _ rfl rfl (DAt.c0 F1) (by kernel_rfl) ?_ | refine wpl_load_one rfl 28 _ rfl rfl (DAt.c1 F1) (by kernel_rfl) ?_ | refine wpl_load_one rfl 51 _ rfl rfl (DAt.c5 F1) (by kernel_rfl) ?_ | refine wpl_load_one rfl 52 _ rfl rfl (DAt.c6 F1) (by kernel_rfl) ?_ | refine wpl_load_one rfl 53 _ rfl rfl (DAt.c7 F1) (by kernel_rfl) ?_ | refine wpl_ld_deed rfl _ rfl rfl F1 ?_)
      go_ret
      exact ⟨⟨_, rfl⟩, b⟩
end Go.Proofs.Ytbbfnpfkbbpjgaa

/- Arguments that are slices of flat elements: each element's cells are told by a function. Slices of hashes. -/
namespace Go.Proofs.Ytbbfnpfkbbpjgaa
open Go.ChangeShapes Go.WideShapes Go.RowKit
set_option linter.unusedVariables false
set_option linter.unusedSimpArgs false

/-- A list that each place of has something. -/
theorem list_of {α : Type} (n : Nat) (R : Nat → α → Prop) (h : ∀ i, i < n → ∃ y, R i y) : ∃ l : List α, l.length = n ∧ ∀ (i : Nat) (y : α), l[i]? = some y → R i y := by
  induction n with
  | zero => exact ⟨[], rfl, fun i y hi => by simp at hi⟩
  | succ n ih =>
    obtain ⟨l, hl, hr⟩ := ih (fun i hi => h i (by omega))
    obtain ⟨y, hy⟩ := h n (by omega)
    refine ⟨l ++ [y], by simp [hl], fun i z hz => ?_⟩
    by_cases hi : i < l.length
    · rw [List.getElem?_append_left hi] at hz
      exact hr i z hz
    · rw [List.getElem?_append_right (by omega)] at hz
      have h0 : i - l.length = 0 := by
        have := (List.getElem?_eq_some_iff.1 hz).1
        simp at this
        omega
      rw [h0] at hz
      simp at hz
      subst hz
      rwa [show i = n by omega]
/-- A slice of flat elements, from its cells. -/
theorem open_cells {H : Type} {enc : TypeId × Value → H} {w : World} {base : Nat} {spare : Nat → Bool} {held : Bool} {α : Type} (f : α → List Value) (Pr : α → Prop) {t e sz : Nat} (ht : Try.prog.underlying t = some (.slice e)) (hc : Try.prog.cellsOf e = sz) (hsz : 0 < sz)
    (each : ∀ fuel cs x, DataW.trod enc Try.prog w base spare held fuel e cs = some x → cs.length = sz → ∃ y, cs = f y ∧ Pr y) {fuel : Nat} {v : Value} {x : DataW H × List MemPlace}
    (hd : DataW.trod enc Try.prog w base spare held fuel t [v] = some x) : ∃ l : List α, Sl w v sz (l.map f) ∧ (∀ y ∈ l, Pr y) ∧ l.length ≤ maxLen := by
  rcases DataW.trod_slice ht hd with ⟨h1, _⟩ | ⟨a, len, cap, elems, rest, n, _, h1, _, hb, hl, hm, hlen, hel, _, _⟩
  · simp only [List.cons.injEq, and_true] at h1
    rw [h1]
    exact ⟨[], Sl.nil w sz, by simp, by simp⟩
  · simp only [List.cons.injEq, and_true] at h1
    rw [h1]
    have key : ∀ i, i < len → ∃ y : α, Pr y ∧ (f y).length = sz ∧ ∀ j, j < sz → w.cell? ((a.add (i * sz)).add j) = (f y)[j]? := by
      intro i hi
      have h2 := hel i hi
      have hi' : i < elems.length := by omega
      rw [List.getElem?_eq_getElem hi', Option.bind_eq_some_iff] at h2
      obtain ⟨cs, hcs, ht'⟩ := h2
      obtain ⟨_, hcl, hcell⟩ := World.cells?_some hcs
      rw [hc] at hcl hcell
      obtain ⟨y, rfl, hp⟩ := each _ _ _ ht' hcl
      exact ⟨y, hp, hcl, hcell⟩
    obtain ⟨l, hl1, hl2⟩ := list_of len _ key
    have hlm : l.length ≤ maxLen := by omega
    refine ⟨l, ⟨some a, cap, by rw [List.length_map, hl1], by rw [List.length_map, hl1]; exact hl, hm, ?_, fun h => (by cases h), fun hne => ?_⟩, ?_, hlm⟩
    · intro e' he
      obtain ⟨y, hy, rfl⟩ := List.mem_map.1 he
      obtain ⟨i, hi⟩ := List.mem_iff_getElem?.1 hy
      exact (hl2 i y hi).2.1
    · have h0 : 0 < l.length := by
        cases l with
        | nil => exact absurd rfl hne
        | cons => simp
      have hc0 := (hl2 0 _ (List.getElem?_eq_getElem h0)).2.2 0 hsz
      have hf0 := (hl2 0 _ (List.getElem?_eq_getElem h0)).2.1
      rw [List.getElem?_eq_getElem (by rw [hf0]; exact hsz)] at hc0
      obtain ⟨g, off, spot⟩ := a
      have hspot : spot = none := by simpa [Addr.add] using World.cell?_spot hc0
      subst hspot
      rw [Cells.add, Cells.add] at hc0
      refine ⟨g, off, rfl, World.block_lt_of_cell? w _ hc0, fun i e' he j u hu => ?_⟩
      rw [List.getElem?_map, Option.map_eq_some_iff] at he
      obtain ⟨y, hy, rfl⟩ := he
      obtain ⟨_, hfl, hcj⟩ := hl2 i y hy
      have := hcj j (by rw [← hfl]; exact (List.getElem?_eq_some_iff.1 hu).1)
      rw [Cells.add, Cells.add, hu] at this
      exact this
    · intro y hy
      obtain ⟨i, hi⟩ := List.mem_iff_getElem?.1 hy
      exact (hl2 i y hi).1
set_option maxRecDepth 100000 in
/-- Thirty-two cells that a hash has. -/
theorem hash_cells {H : Type} {enc : TypeId × Value → H} {w : World} {base : Nat} {spare : Nat → Bool} {held : Bool} {fuel : Nat} {cs : List Value} {x : DataW H × List MemPlace}
    (hf : DataW.trod enc Try.prog w base spare held fuel 27 cs = some x) (hcl : cs.length = 32) : ∃ l : List UInt8, cs = bvs l ∧ l.length = 32 := by
  obtain ⟨xs, m, _, _, hlen, hxs, hel⟩ := DataW.trod_array Try.underlying27 hf
  rw [cellsByte] at hel
  have hcell : ∀ i, (h : i < cs.length) → ∃ n : UInt8, cs[i] = .int .u8 (n.toNat : Int) := by
    intro i hi
    have h1 := hel i (by omega)
    have hx : i < xs.length := by omega
    rw [List.getElem?_eq_getElem hx] at h1
    obtain ⟨n, hn, _, hw⟩ := DataW.trod_int Try.underlying5 h1
    simp only [Nat.mul_one] at hn
    have h2 : ((cs.drop i).take 1)[0]? = some (.int .u8 n) := by rw [hn]; rfl
    have h3 : cs[i]? = some (.int .u8 n) := by
      rw [List.getElem?_take, if_pos (by omega), List.getElem?_drop, Nat.add_zero] at h2
      exact h2
    have hb := bounds_u8 hw
    refine ⟨UInt8.ofNat n.toNat, ?_⟩
    rw [List.getElem?_eq_getElem hi] at h3
    rw [Option.some.inj h3, UInt8.toNat_ofNat']
    congr 1
    omega
  refine ⟨cs.map (fun v => UInt8.ofNat (RowKit.intOf v).toNat), ?_, by simpa using hcl⟩
  apply List.ext_getElem
  · simp [bvs]
  · intro i h1 h2
    obtain ⟨n, hn⟩ := hcell i h1
    simp only [bvs, List.getElem_map, hn, RowKit.intOf]
    simp
end Go.Proofs.Ytbbfnpfkbbpjgaa
