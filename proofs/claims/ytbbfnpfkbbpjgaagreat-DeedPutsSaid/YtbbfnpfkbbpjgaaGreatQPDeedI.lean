/- deed.Id; the law's great. -/
import Derived.Test.YtbbfnpfkbbpjgaaGreatQPDeed8
import Derived.Test.YtbbfnpfkbbpjgaaGreatQPElWit
import Derived.Test.YtbbfnpfkbbpjgaaGreatQPElBase
import Derived.Test.YtbbfnpfkbbpjgaaGreatQPDig8
import Derived.Test.YtbbfnpfkbbpjgaaGreatQPStep
namespace Go.Proofs.YtbbfnpfkbbpjgaaGreat
open Go.RowKit Go.Lib
set_option linter.unusedVariables false
set_option linter.unusedSimpArgs false

def tagDeed : List UInt8 := [100, 101, 101, 100]
def idD (d : Deed) : List UInt8 × Int := if mayD d = true then (ofX tagDeed [bodyL d], 0) else (zero32, 2)
set_option maxRecDepth 100000 in
set_option maxHeartbeats 1600000 in
theorem deedId_any (v : Value) (d : Deed) (w : World) (h : DeedIs w v d) (hf : d.Fit) :
    Calls Tryz.prog 20 #[v] w fun e w' => e = .returned (.tuple #[hv (idD d).1, .int .i64 (idD d).2]) ∧ Below w.heap.size w w' := by
  have HM := hide (fun (w' : World) (hb : Below w.heap.size w w') => mayF_any v d w' (h.later hb) hf)
  have hF : mayD d = true → d.FewW := fun hm => mayD_few (by obtain ⟨_, _, _, _, _, _, _, _, _, _, _, ok⟩ := h; exact ok) hm
  have HP := hide (fun (hm : mayD d = true) (w' : World) (hb : Below w.heap.size w w') => body_any v d w' (h.later hb) (hF hm).few)
  have HBL := hide (fun (hm : mayD d = true) => body_len (hF hm).few)
  obtain ⟨v1, v2, v3, v4, v5, rfl, h1, h2, h3, h4, h5, ok⟩ := h
  have o1 := h1.one'
  have o2 := h2.one'
  have o3 := h3.one'
  have o4 := h4.one'
  have o5 := h5.one'
  have b := Below.refl w.heap.size w
  clear h1 h2 h3 h4 h5 ok hf hF
  generalize d.fee = f at *
  generalize d.frm = s at *
  generalize d.til = t at *
  unfold idD
  by_cases hm : mayD d = true
  · have HP2 := hide (HP.out hm)
    have hbl := HBL.out hm
    rw [hm] at HM
    rw [if_pos hm]
    have HO : Hid (∀ w, Calls Tryz.prog 61 #[.string ⟨#[100, 101, 101, 100]⟩, .slice (some ⟨w.heap.size, 0, none⟩) 1 1] (w.alloc (.cells #[.string ⟨(bodyL d).toArray⟩] 9)) fun e w' => e = .returned (hv (ofX tagDeed [bodyL d])) ∧ Below w.heap.size w w') := fun w => of1 tagDeed _ w (by decide) (by omega)
    have HL := hide (ofX_length tagDeed [bodyL d])
    clear HP hm HBL hbl
    generalize ofX tagDeed [bodyL d] = R at *
    generalize (⟨(bodyL d).toArray⟩ : ByteArray) = sb at *
    have mF1 := True.intro
    have mF2 := True.intro
    go_enter Tryz.func20, Tryz.ntmps20
    go_wp2_with (first | (with_reducible show wpList _ _ _ (⟨_, Op.box _ _, _, _, _, _⟩ :: _) _ _; clear mF1; refine wpl_box_deed rfl _ rfl rfl o1 o2 o3 o4 o5 ?_; intro _ g1 hg1 F1 hb; (try replace F1 := F1.later hb); (try replace F2 := F2.later hb); (try replace F3 := F3.later hb); (try replace F4 := F4.later hb); (try replace F5 := F5.later hb); (try replace F6 := F6.later hb); (try replace F7 := F7.later hb); (try replace F8 := F8.later hb); (try replace F9 := F9.later hb); (try replace G1 := G1.later hb); (try replace G2 := G2.later hb); (try replace G3 := G3.later hb); (try replace z := z.later hb); (try replace b := later b hb); (try replace bB := mixed hB bB hb); clear hb) | (with_reducible show wpList _ _ _ (⟨_, Op.alloc _, _, _, _, _⟩ :: _) _ _; clear mF2; refine wpl_mk_hash rfl rfl ?_; intro _ g2 hg2 F2 hb; (try have := F1.lt); (try have := F2.lt); (try have := F3.lt); (try have := F4.lt); (try have := F5.lt); (try have := F6.lt); (try have := F7.lt); (try have := F8.lt); (try have := F9.lt); (try have := z.lt); (try have := G1.lt); (try have := G2.lt); (try have := G3.lt); (try have := b.size); (try replace F1 := F1.later hb); (try replace F2 := F2.later hb); (try replace F3 := F3.later hb); (try replace F4 := F4.later hb); (try replace F5 := F5.later hb); (try replace F6 := F6.later hb); (try replace F7 := F7.later hb); (try replace F8 := F8.later hb); (try replace F9 := F9.later hb); (try replace G1 := G1.later hb); (try replace G2 := G2.later hb); (try replace G3 := G3.later hb); (try replace z := z.later hb); (try replace b := later b hb); (try replace bB := mixed hB bB hb); clear hb) | (with_reducible show wpList _ _ _ (⟨_, Op.load _ _, _, _, _, _⟩ :: _) _ _; refine wpl_ld_deed rfl _ rfl rfl F1 ?_) | (go_at_call 58; refine (HM.out _ b).mono ?_; rintro _ _ ⟨rfl, hc⟩; (try replace F1 := F1.later hc); (try replace F2 := F2.later hc); (try replace F3 := F3.later hc); (try replace F4 := F4.later hc); (try replace F5 := F5.later hc); (try replace F6 := F6.later hc); (try replace F7 := F7.later hc); (try replace F8 := F8.later hc); (try replace F9 := F9.later hc); (try replace G1 := G1.later hc); (try replace G2 := G2.later hc); (try replace G3 := G3.later hc); (try replace z := z.later hc); (try replace b := later b hc); (try replace bB := mixed hB bB hc); clear hc) | (go_at_call 59; refine (HP2.out _ b).mono ?_; rintro _ _ ⟨rfl, hc⟩; (try replace F1 := F1.later hc); (try replace F2 := F2.later hc); (try replace F3 := F3.later hc); (try replace F4 := F4.later hc); (try replace F5 := F5.later hc); (try replace F6 := F6.later hc); (try replace F7 := F7.later hc); (try replace F8 := F8.later hc); (try replace F9 := F9.later hc); (try replace G1 := G1.later hc); (try replace G2 := G2.later hc); (try replace G3 := G3.later hc); (try replace z := z.later hc); (try replace b := later b hc); (try replace bB := mixed hB bB hc); clear hc) | (go_at_call 61; refine (HO.out _).mono ?_; rintro _ _ ⟨rfl, hc⟩; (try replace F1 := F1.later hc); (try replace F2 := F2.later hc); (try replace F3 := F3.later hc); (try replace F4 := F4.later hc); (try replace F5 := F5.later hc); (try replace F6 := F6.later hc); (try replace F7 := F7.later hc); (try replace F8 := F8.later hc); (try replace F9 := F9.later hc); (try replace G1 := G1.later hc); (try replace G2 := G2.later hc); (try replace G3 := G3.later hc); (try replace z := z.later hc); (try replace b := later b hc); (try replace bB := mixed hB bB hc); clear hc) | (with_reducible show wpList _ _ _ (⟨_, Op.store _ _ _, _, _, _, _⟩ :: _) _ _; refine wpl_set_hash rfl _ _ rfl rfl rfl HL.out F2 ?_; intro _ t1 ht; (try replace F1 := F1.tt ht); (try replace F2 := F2.tt ht); (try replace F3 := F3.tt ht); (try replace F4 := F4.tt ht); (try replace F5 := F5.tt ht); (try replace F6 := F6.tt ht); (try replace F7 := F7.tt ht); (try replace F8 := F8.tt ht); (try replace F9 := F9.tt ht); (try replace G1 := G1.tt ht); (try replace G2 := G2.tt ht); (try replace G3 := G3.tt ht); (try replace z := z.tt ht); (try replace b := below_touch b ht (by omega) (by omega)); (try replace bB := below_touch bB ht (by omega) hB); replace F2 := t1; clear ht))
    exact bodyPost_ret (ret_hash_tmp rfl _ _ _ rfl rfl F2) rfl ⟨rfl, b⟩
  · have hm' : mayD d = false := by simpa using hm
    rw [hm'] at HM
    rw [if_neg hm]
    clear HP hm hm' HBL
    have mF1 := True.intro
    have mF2 := True.intro
    go_enter Tryz.func20, Tryz.ntmps20
    go_wp2_with (first | (with_reducible show wpList _ _ _ (⟨_, Op.box _ _, _, _, _, _⟩ :: _) _ _; clear mF1; refine wpl_box_deed rfl _ rfl rfl o1 o2 o3 o4 o5 ?_; intro _ g1 hg1 F1 hb; (try replace F1 := F1.later hb); (try replace F2 := F2.later hb); (try replace F3 := F3.later hb); (try replace F4 := F4.later hb); (try replace F5 := F5.later hb); (try replace F6 := F6.later hb); (try replace F7 := F7.later hb); (try replace F8 := F8.later hb); (try replace F9 := F9.later hb); (try replace G1 := G1.later hb); (try replace G2 := G2.later hb); (try replace G3 := G3.later hb); (try replace z := z.later hb); (try replace b := later b hb); (try replace bB := mixed hB bB hb); clear hb) | (with_reducible show wpList _ _ _ (⟨_, Op.alloc _, _, _, _, _⟩ :: _) _ _; clear mF2; refine wpl_mk_hash rfl rfl ?_; intro _ g2 hg2 F2 hb; (try have := F1.lt); (try have := F2.lt); (try have := F3.lt); (try have := F4.lt); (try have := F5.lt); (try have := F6.lt); (try have := F7.lt); (try have := F8.lt); (try have := F9.lt); (try have := z.lt); (try have := G1.lt); (try have := G2.lt); (try have := G3.lt); (try have := b.size); (try replace F1 := F1.later hb); (try replace F2 := F2.later hb); (try replace F3 := F3.later hb); (try replace F4 := F4.later hb); (try replace F5 := F5.later hb); (try replace F6 := F6.later hb); (try replace F7 := F7.later hb); (try replace F8 := F8.later hb); (try replace F9 := F9.later hb); (try replace G1 := G1.later hb); (try replace G2 := G2.later hb); (try replace G3 := G3.later hb); (try replace z := z.later hb); (try replace b := later b hb); (try replace bB := mixed hB bB hb); clear hb) | (with_reducible show wpList _ _ _ (⟨_, Op.load _ _, _, _, _, _⟩ :: _) _ _; refine wpl_ld_deed rfl _ rfl rfl F1 ?_) | (go_at_call 58; refine (HM.out _ b).mono ?_; rintro _ _ ⟨rfl, hc⟩; (try replace F1 := F1.later hc); (try replace F2 := F2.later hc); (try replace F3 := F3.later hc); (try replace F4 := F4.later hc); (try replace F5 := F5.later hc); (try replace F6 := F6.later hc); (try replace F7 := F7.later hc); (try replace F8 := F8.later hc); (try replace F9 := F9.later hc); (try replace G1 := G1.later hc); (try replace G2 := G2.later hc); (try replace G3 := G3.later hc); (try replace z := z.later hc); (try replace b := later b hc); (try replace bB := mixed hB bB hc); clear hc) | (with_reducible show wpList _ _ _ (⟨_, Op.build _ _, _, _, _, _⟩ :: _) _ _; refine wpl_zero_hash rfl rfl ?_) | (with_reducible show wpList _ _ _ (⟨_, Op.store _ _ _, _, _, _, _⟩ :: _) _ _; refine wpl_set_hash rfl _ _ rfl rfl rfl rfl F2 ?_; intro _ t1 ht; (try replace F1 := F1.tt ht); (try replace F2 := F2.tt ht); (try replace F3 := F3.tt ht); (try replace F4 := F4.tt ht); (try replace F5 := F5.tt ht); (try replace F6 := F6.tt ht); (try replace F7 := F7.tt ht); (try replace F8 := F8.tt ht); (try replace F9 := F9.tt ht); (try replace G1 := G1.tt ht); (try replace G2 := G2.tt ht); (try replace G3 := G3.tt ht); (try replace z := z.tt ht); (try replace b := below_touch b ht (by omega) (by omega)); (try replace bB := below_touch bB ht (by omega) hB); replace F2 := t1; clear ht))
    exact bodyPost_ret (ret_hash_tmp rfl _ _ _ rfl rfl F2) rfl ⟨rfl, b⟩
set_option maxRecDepth 100000 in
set_option maxHeartbeats 1600000 in
theorem great13_any (v : Value) (d : Deed) (w : World) (h : DeedIs w v d) (hf : d.Fit) :
    Calls Tryz.prog 11 #[v] w fun e w' => (∃ B : Bool, e = .returned (.bool B)) ∧ Below w.heap.size w w' := by
  have hm5 := hf.wits
  obtain ⟨v1, v2, v3, v4, v5, rfl, h1, h2, h3, h4, h5, ok⟩ := h
  obtain ⟨a1, c1, rfl, -⟩ := h1.shape
  obtain ⟨a2, c2, rfl, -⟩ := h2.shape
  obtain ⟨a3, c3, rfl, -⟩ := h3.shape
  obtain ⟨a4, c4, rfl, -⟩ := h4.shape
  obtain ⟨a5, c5, rfl, -⟩ := h5.shape
  have o1 : (Value.slice a1 d.ins.length c1).oneCell' = true := rfl
  have o2 : (Value.slice a2 d.outs.length c2).oneCell' = true := rfl
  have o3 : (Value.slice a3 d.certs.length c3).oneCell' = true := rfl
  have o4 : (Value.slice a4 d.pays.length c4).oneCell' = true := rfl
  have o5 : (Value.slice a5 d.wits.length c5).oneCell' = true := rfl
  have OKW := hide ok.wits
  obtain ⟨n5, hn5⟩ : ∃ n, n = d.wits.length := ⟨_, rfl⟩
  have HN := hide hn5
  have b := Below.refl w.heap.size w
  rw [← hn5] at o5 hm5 ⊢
  clear hn5 h1 h2 h3 h4 ok hf
  generalize d.ins.length = n1 at *
  generalize d.outs.length = n2 at *
  generalize d.certs.length = n3 at *
  generalize d.pays.length = n4 at *
  generalize d.fee = f at *
  generalize d.frm = s at *
  generalize d.til = t at *
  have mF1 := True.intro
  have mF2 := True.intro
  go_enter Tryz.func11, Tryz.ntmps11
  go_wp2_with (first | (with_reducible show wpList _ _ _ (⟨_, Op.box _ _, _, _, _, _⟩ :: _) _ _; clear mF1; refine wpl_box_deed rfl _ rfl rfl o1 o2 o3 o4 o5 ?_; intro _ g1 hg1 F1 hb; (try replace F1 := F1.later hb); (try replace F2 := F2.later hb); (try replace F3 := F3.later hb); (try replace F4 := F4.later hb); (try replace F5 := F5.later hb); (try replace F6 := F6.later hb); (try replace F7 := F7.later hb); (try replace F8 := F8.later hb); (try replace F9 := F9.later hb); (try replace G1 := G1.later hb); (try replace G2 := G2.later hb); (try replace G3 := G3.later hb); (try replace z := z.later hb); (try replace b := later b hb); (try replace bB := mixed hB bB hb); clear hb) | (with_reducible show wpList _ _ _ (⟨_, Op.load _ _, _, _, _, _⟩ :: _) _ _; first | ((with_reducible show wpList _ _ _ (⟨_, Op.load 24 _, _, _, _, _⟩ :: _) _ _); first | refine wpl_load_one rfl 24 _ rfl rfl (DAt.c2 F1) (by kernel_rfl) ?_ | refine wpl_load_one rfl 24 _ rfl rfl (DAt.c3 F1) (by kernel_rfl) ?_ | refine wpl_load_one rfl 24 _ rfl rfl (DAt.c4 F1) (by kernel_rfl) ?_) | refine wpl_load_one rfl 22 _ rfl rfl (DAt.c0 F1) (by kernel_rfl) ?_ | refine wpl_load_one rfl 23 _ rfl rfl (DAt.c1 F1) (by kernel_rfl) ?_ | refine wpl_load_one rfl 25 _ rfl rfl (DAt.c5 F1) (by kernel_rfl) ?_ | refine wpl_load_one rfl 26 _ rfl rfl (DAt.c6 F1) (by kernel_rfl) ?_ | refine wpl_load_one rfl 27 _ rfl rfl (DAt.c7 F1) (by kernel_rfl) ?_ | refine wpl_ld_deed rfl _ rfl rfl F1 ?_))
  go_loopw [8] (fun i wr => ∃ k : Nat, i = .int .i64 k ∧ k ≤ n5 ∧ DAt wr g1 (.slice a1 n1 c1) (.slice a2 n2 c2) (.slice a3 n3 c3) (.slice a4 n4 c4) (.slice a5 n5 c5) f s t ∧ Below w.heap.size w wr) (fun i _ => n5 - (RowKit.intOf i).toNat)
  case atStart => exact ⟨0, rfl, by omega, F1, b⟩
  case round =>
    clear b F1
    obtain ⟨k, rfl, hk, F1, b⟩ := hrel
    by_cases hlt : k < n5
    · obtain ⟨x, hx, ok⟩ := get_ok OKW.out (k := k) (by rw [← HN.out]; exact hlt)
      obtain ⟨bb, k0, c', he, _, hcs⟩ := (h5.later b).block (by rw [← HN.out]; omega)
      have d1 := hcs k x hx
      rw [← HN.out] at he
      simp only [Value.slice.injEq] at he
      obtain ⟨rfl, -, rfl⟩ := he
      have OK := hide ok
      clear hcs hx ok
      by_cases hg : (4096 : Int) < (x.sig.size : Int)
      · have cc := decide_eq_true hg
        go_wp2_with (first | (with_reducible show wpList _ _ _ (⟨_, Op.alloc _, _, _, _, _⟩ :: _) _ _; clear mF2; refine wpl_mk_wit rfl rfl ?_; intro _ g2 hg2 F2 ha; simp only [Act.put, List.setIfInBounds_toArray, List.set_cons_succ, List.set_cons_zero]) | ((with_reducible show wpList _ _ _ (⟨_, Op.store 74 _ _, _, _, _, _⟩ :: _) _ _); refine wpl_set_wit rfl _ _ rfl rfl rfl OK.out F2 ?_; intro _ t1 ht1; have hb := below_touch ha ht1 hg2 (Nat.le_refl _); clear F2; (try replace F1 := F1.later hb); (try replace F2 := F2.later hb); (try replace F3 := F3.later hb); (try replace F4 := F4.later hb); (try replace F5 := F5.later hb); (try replace F6 := F6.later hb); (try replace F7 := F7.later hb); (try replace F8 := F8.later hb); (try replace F9 := F9.later hb); (try replace G1 := G1.later hb); (try replace G2 := G2.later hb); (try replace G3 := G3.later hb); (try replace z := z.later hb); (try replace b := later b hb); (try replace bB := mixed hB bB hb); have F2 := t1; clear t1 ht1 ha hb; simp only [Act.put, List.setIfInBounds_toArray, List.set_cons_succ, List.set_cons_zero]) | ((with_reducible show wpList _ _ _ (⟨_, Op.load 74 _, _, _, _, _⟩ :: _) _ _); refine wpl_ld_wit rfl _ rfl rfl d1 OK.out ?_) | (with_reducible show wpList _ _ _ (⟨_, Op.load _ _, _, _, _, _⟩ :: _) _ _; refine wpl_load_one rfl 9 _ rfl rfl (WitAt.sig F2) (by kernel_rfl) ?_))
        go_ret
        exact ⟨⟨_, rfl⟩, b⟩
      · have cc := decide_eq_false hg
        go_wp2_with (first | (with_reducible show wpList _ _ _ (⟨_, Op.alloc _, _, _, _, _⟩ :: _) _ _; clear mF2; refine wpl_mk_wit rfl rfl ?_; intro _ g2 hg2 F2 ha; simp only [Act.put, List.setIfInBounds_toArray, List.set_cons_succ, List.set_cons_zero]) | ((with_reducible show wpList _ _ _ (⟨_, Op.store 74 _ _, _, _, _, _⟩ :: _) _ _); refine wpl_set_wit rfl _ _ rfl rfl rfl OK.out F2 ?_; intro _ t1 ht1; have hb := below_touch ha ht1 hg2 (Nat.le_refl _); clear F2; (try replace F1 := F1.later hb); (try replace F2 := F2.later hb); (try replace F3 := F3.later hb); (try replace F4 := F4.later hb); (try replace F5 := F5.later hb); (try replace F6 := F6.later hb); (try replace F7 := F7.later hb); (try replace F8 := F8.later hb); (try replace F9 := F9.later hb); (try replace G1 := G1.later hb); (try replace G2 := G2.later hb); (try replace G3 := G3.later hb); (try replace z := z.later hb); (try replace b := later b hb); (try replace bB := mixed hB bB hb); have F2 := t1; clear t1 ht1 ha hb; simp only [Act.put, List.setIfInBounds_toArray, List.set_cons_succ, List.set_cons_zero]) | ((with_reducible show wpList _ _ _ (⟨_, Op.load 74 _, _, _, _, _⟩ :: _) _ _); refine wpl_ld_wit rfl _ rfl rfl d1 OK.out ?_) | (with_reducible show wpList _ _ _ (⟨_, Op.load _ _, _, _, _, _⟩ :: _) _ _; refine wpl_load_one rfl 9 _ rfl rfl (WitAt.sig F2) (by kernel_rfl) ?_))
        go_roundw
        case rel => exact ⟨k + 1, by simp, by omega, F1, b⟩
        case measure => simp [RowKit.intOf]; omega
    · obtain rfl : n5 = k := by omega
      go_wp2_with (with_reducible show wpList _ _ _ (⟨_, Op.load _ _, _, _, _, _⟩ :: _) _ _; first | ((with_reducible show wpList _ _ _ (⟨_, Op.load 24 _, _, _, _, _⟩ :: _) _ _); first | refine wpl_load_one rfl 24 _ rfl rfl (DAt.c2 F1) (by kernel_rfl) ?_ | refine wpl_load_one rfl 24 _ rfl rfl (DAt.c3 F1) (by kernel_rfl) ?_ | refine wpl_load_one rfl 24 _ rfl rfl (DAt.c4 F1) (by kernel_rfl) ?_) | refine wpl_load_one rfl 22 _ rfl rfl (DAt.c0 F1) (by kernel_rfl) ?_ | refine wpl_load_one rfl 23 _ rfl rfl (DAt.c1 F1) (by kernel_rfl) ?_ | refine wpl_load_one rfl 25 _ rfl rfl (DAt.c5 F1) (by kernel_rfl) ?_ | refine wpl_load_one rfl 26 _ rfl rfl (DAt.c6 F1) (by kernel_rfl) ?_ | refine wpl_load_one rfl 27 _ rfl rfl (DAt.c7 F1) (by kernel_rfl) ?_ | refine wpl_ld_deed rfl _ rfl rfl F1 ?_)
      go_ret
      exact ⟨⟨_, rfl⟩, b⟩
end Go.Proofs.YtbbfnpfkbbpjgaaGreat

/- The elements of layer 13 as elements of slices. -/
namespace Go.Proofs.YtbbfnpfkbbpjgaaGreat
open Go.RowKit Go.Lib
set_option linter.unusedVariables false
set_option linter.unusedSimpArgs false

theorem elOf {P : Program} {t e sz by' : Nat} (ht : P.underlying t = some (.slice e)) (hz : 0 < sz) (h : (P.info? e).map (fun i => (i.size, i.bytes, i.zero.map (·.cells.size))) = some (sz, by', some sz)) : ElemOf P t e sz by' := by
  obtain ⟨i, hi, h1⟩ := Option.map_eq_some_iff.1 h
  simp only [Prod.mk.injEq] at h1
  obtain ⟨h2, h3, h4⟩ := h1
  obtain ⟨z, hz', h5⟩ := Option.map_eq_some_iff.1 h4
  exact ⟨ht, hz, i, z, hi, hz', h2, h3, h5⟩
theorem inElem : ElemOf Tryz.prog 22 80 33 40 := elOf Tryz.underlying22 (by decide) (by kernel_rfl)
theorem outElem : ElemOf Tryz.prog 23 84 65 72 := elOf Tryz.underlying23 (by decide) (by kernel_rfl)
theorem certElem : ElemOf Tryz.prog 25 87 68 96 := elOf Tryz.underlying25 (by decide) (by kernel_rfl)
theorem payElem : ElemOf Tryz.prog 26 89 33 40 := elOf Tryz.underlying26 (by decide) (by kernel_rfl)
theorem witElem : ElemOf Tryz.prog 27 74 33 48 := elOf Tryz.underlying27 (by decide) (by kernel_rfl)
theorem OwnR.off {w : World} {B e sz g : Nat} {v : Value} {els : List (List Value)} {X : List Nat} (h : OwnR w B e sz v els X) (hg : g < B) : ¬ v.ownBlock = some g := fun hs => by
  have := (World.ownsRow.lt h.1 g hs).1; omega
theorem OwnR.tg {w w' : World} {B e sz g : Nat} {v : Value} {els : List (List Value)} {X : List Nat} (h : OwnR w B e sz v els X) (ht : Touch (fun b => b = g) w w') (hg : g < B) : OwnR w' B e sz v els X :=
  ⟨owns_touch h.1 ht (fun b hb hs => h.off hg (by have e : b = g := hs; rw [e] at hb; exact hb)), h.2⟩
theorem OwnR.ge {w : World} {B e sz : Nat} {v : Value} {els : List (List Value)} {X : List Nat} (h : OwnR w B e sz v els X) : ∀ b, v.ownBlock = some b → B ≤ b := fun b hb => (World.ownsRow.lt h.1 b hb).1
theorem ok_snoc {α : Type} {P : α → Prop} {l : List α} {x : α} (h : ∀ y ∈ l, P y) (hx : P x) : ∀ y ∈ l ++ [x], P y := fun y hy => by
  rcases List.mem_append.1 hy with h1 | h1
  · exact h y h1
  · simp at h1; subst h1; exact hx
end Go.Proofs.YtbbfnpfkbbpjgaaGreat

/- Bytes in memory turned into a string, as a step. -/
namespace Go.Proofs.YtbbfnpfkbbpjgaaGreat
open Go.RowKit Go.Lib
set_option linter.unusedVariables false
set_option linter.unusedSimpArgs false

theorem conv_cells {w : World} {g k : Nat} {l : List UInt8} (h : Cells w g k (bvs l)) {n : Nat} (cap : Nat) (hn : l.length = n) : (convert 93 9 (.slice (some ⟨g, k, none⟩) n cap)).run Tryz.prog w = .ok (.string ⟨l.toArray⟩) w := by
  subst hn
  refine run_convert_bytes_back w _ _ 5 ⟨g, k, none⟩ cap l Tryz.underlying93 Tryz.underlying5 Tryz.underlying9 (fun j hj => ?_)
  rw [Cells.add]
  exact h j _ (by unfold bvs; rw [List.getElem?_map, List.getElem?_eq_getElem hj]; rfl)
section
variable {ops : Array Oper} {rest : List Oper} {o : Oper} {a : Act} {w w0 : World} {Q : Exit → Act → World → Prop} {K : Act → Prop} {g k n cap : Nat} {l : List UInt8}
theorem exec_conv (x : Operand) (ho : o.op = .convert 93 9 x) (hx : a.eval x = .slice (some ⟨g, k, none⟩) n cap) (h : Cells w g k (bvs l)) (hn : l.length = n) : (execOp a.eval o).run Tryz.prog w = .ok (.value (.string ⟨l.toArray⟩)) w := by
  unfold execOp
  simp only [ho, hx, Sem.run_bind, conv_cells h cap hn, Result.andThen_ok, Sem.run_pure]
end
end Go.Proofs.YtbbfnpfkbbpjgaaGreat
