/- deed.Full. -/
import Derived.Test.YtbbfnpfkbbpjgaaGreatQPDeed8
namespace Go.Proofs.YtbbfnpfkbbpjgaaGreat
open Go.RowKit Go.Lib
set_option linter.unusedVariables false
set_option linter.unusedSimpArgs false

def tagFull : List UInt8 := [102, 117, 108, 108]
def fullD (d : Deed) : List UInt8 × Int := if mayD d = true then (ofX tagFull [fullL d], 0) else (zero32, 2)
set_option maxRecDepth 100000 in
set_option maxHeartbeats 1600000 in
theorem deedFull_any (v : Value) (d : Deed) (w : World) (h : DeedIs w v d) (hf : d.Fit) :
    Calls Tryz.prog 21 #[v] w fun e w' => e = .returned (.tuple #[hv (fullD d).1, .int .i64 (fullD d).2]) ∧ Below w.heap.size w w' := by
  have HM := hide (fun (w' : World) (hb : Below w.heap.size w w') => mayF_any v d w' (h.later hb) hf)
  have hF : mayD d = true → d.FewW := fun hm => mayD_few (by obtain ⟨_, _, _, _, _, _, _, _, _, _, _, ok⟩ := h; exact ok) hm
  have HP := hide (fun (hm : mayD d = true) (w' : World) (hb : Below w.heap.size w w') => put_deed v d w' (h.later hb) (hF hm))
  have HBL := hide (fun (hm : mayD d = true) => full_len (hF hm))
  obtain ⟨v1, v2, v3, v4, v5, rfl, h1, h2, h3, h4, h5, ok⟩ := h
  have o1 := h1.one'
  have o2 := h2.one'
  have o3 := h3.one'
  have o4 := h4.one'
  have o5 := h5.one'
  have b := Below.refl w.heap.size w
  clear h1 h2 h3 h4 h5 ok hf hF
  generalize d.fee = f at *
  generalize d.frm = s at *
  generalize d.til = t at *
  unfold fullD
  by_cases hm : mayD d = true
  · have HP2 := hide (HP.out hm)
    have hbl := HBL.out hm
    rw [hm] at HM
    rw [if_pos hm]
    have HO : Hid (∀ w, Calls Tryz.prog 61 #[.string ⟨#[102, 117, 108, 108]⟩, .slice (some ⟨w.heap.size, 0, none⟩) 1 1] (w.alloc (.cells #[.string ⟨(fullL d).toArray⟩] 9)) fun e w' => e = .returned (hv (ofX tagFull [fullL d])) ∧ Below w.heap.size w w') := fun w => of1 tagFull _ w (by decide) (by omega)
    have HL := hide (ofX_length tagFull [fullL d])
    clear HP hm HBL hbl
    generalize ofX tagFull [fullL d] = R at *
    generalize (⟨(fullL d).toArray⟩ : ByteArray) = sb at *
    have mF1 := True.intro
    have mF2 := True.intro
    go_enter Tryz.func21, Tryz.ntmps21
    go_wp2_with (first | (with_reducible show wpList _ _ _ (⟨_, Op.box _ _, _, _, _, _⟩ :: _) _ _; clear mF1; refine wpl_box_deed rfl _ rfl rfl o1 o2 o3 o4 o5 ?_; intro _ g1 hg1 F1 hb; (try replace F1 := F1.later hb); (try replace F2 := F2.later hb); (try replace F3 := F3.later hb); (try replace F4 := F4.later hb); (try replace F5 := F5.later hb); (try replace F6 := F6.later hb); (try replace F7 := F7.later hb); (try replace F8 := F8.later hb); (try replace F9 := F9.later hb); (try replace G1 := G1.later hb); (try replace G2 := G2.later hb); (try replace G3 := G3.later hb); (try replace z := z.later hb); (try replace b := later b hb); (try replace bB := mixed hB bB hb); clear hb) | (with_reducible show wpList _ _ _ (⟨_, Op.alloc _, _, _, _, _⟩ :: _) _ _; clear mF2; refine wpl_mk_hash rfl rfl ?_; intro _ g2 hg2 F2 hb; (try have := F1.lt); (try have := F2.lt); (try have := F3.lt); (try have := F4.lt); (try have := F5.lt); (try have := F6.lt); (try have := F7.lt); (try have := F8.lt); (try have := F9.lt); (try have := z.lt); (try have := G1.lt); (try have := G2.lt); (try have := G3.lt); (try have := b.size); (try replace F1 := F1.later hb); (try replace F2 := F2.later hb); (try replace F3 := F3.later hb); (try replace F4 := F4.later hb); (try replace F5 := F5.later hb); (try replace F6 := F6.later hb); (try replace F7 := F7.later hb); (try replace F8 := F8.later hb); (try replace F9 := F9.later hb); (try replace G1 := G1.later hb); (try replace G2 := G2.later hb); (try replace G3 := G3.later hb); (try replace z := z.later hb); (try replace b := later b hb); (try replace bB := mixed hB bB hb); clear hb) | (with_reducible show wpList _ _ _ (⟨_, Op.load _ _, _, _, _, _⟩ :: _) _ _; refine wpl_ld_deed rfl _ rfl rfl F1 ?_) | (go_at_call 58; refine (HM.out _ b).mono ?_; rintro _ _ ⟨rfl, hc⟩; (try replace F1 := F1.later hc); (try replace F2 := F2.later hc); (try replace F3 := F3.later hc); (try replace F4 := F4.later hc); (try replace F5 := F5.later hc); (try replace F6 := F6.later hc); (try replace F7 := F7.later hc); (try replace F8 := F8.later hc); (try replace F9 := F9.later hc); (try replace G1 := G1.later hc); (try replace G2 := G2.later hc); (try replace G3 := G3.later hc); (try replace z := z.later hc); (try replace b := later b hc); (try replace bB := mixed hB bB hc); clear hc) | (go_at_call 60; refine (HP2.out _ b).mono ?_; rintro _ _ ⟨rfl, hc⟩; (try replace F1 := F1.later hc); (try replace F2 := F2.later hc); (try replace F3 := F3.later hc); (try replace F4 := F4.later hc); (try replace F5 := F5.later hc); (try replace F6 := F6.later hc); (try replace F7 := F7.later hc); (try replace F8 := F8.later hc); (try replace F9 := F9.later hc); (try replace G1 := G1.later hc); (try replace G2 := G2.later hc); (try replace G3 := G3.later hc); (try replace z := z.later hc); (try replace b := later b hc); (try replace bB := mixed hB bB hc); clear hc) | (go_at_call 61; refine (HO.out _).mono ?_; rintro _ _ ⟨rfl, hc⟩; (try replace F1 := F1.later hc); (try replace F2 := F2.later hc); (try replace F3 := F3.later hc); (try replace F4 := F4.later hc); (try replace F5 := F5.later hc); (try replace F6 := F6.later hc); (try replace F7 := F7.later hc); (try replace F8 := F8.later hc); (try replace F9 := F9.later hc); (try replace G1 := G1.later hc); (try replace G2 := G2.later hc); (try replace G3 := G3.later hc); (try replace z := z.later hc); (try replace b := later b hc); (try replace bB := mixed hB bB hc); clear hc) | (with_reducible show wpList _ _ _ (⟨_, Op.store _ _ _, _, _, _, _⟩ :: _) _ _; refine wpl_set_hash rfl _ _ rfl rfl rfl HL.out F2 ?_; intro _ t1 ht; (try replace F1 := F1.tt ht); (try replace F2 := F2.tt ht); (try replace F3 := F3.tt ht); (try replace F4 := F4.tt ht); (try replace F5 := F5.tt ht); (try replace F6 := F6.tt ht); (try replace F7 := F7.tt ht); (try replace F8 := F8.tt ht); (try replace F9 := F9.tt ht); (try replace G1 := G1.tt ht); (try replace G2 := G2.tt ht); (try replace G3 := G3.tt ht); (try replace z := z.tt ht); (try replace b := below_touch b ht (by omega) (by omega)); (try replace bB := below_touch bB ht (by omega) hB); replace F2 := t1; clear ht))
    exact bodyPost_ret (ret_hash_tmp rfl _ _ _ rfl rfl F2) rfl ⟨rfl, b⟩
  · have hm' : mayD d = false := by simpa using hm
    rw [hm'] at HM
    rw [if_neg hm]
    clear HP hm hm' HBL
    have mF1 := True.intro
    have mF2 := True.intro
    go_enter Tryz.func21, Tryz.ntmps21
    go_wp2_with (first | (with_reducible show wpList _ _ _ (⟨_, Op.box _ _, _, _, _, _⟩ :: _) _ _; clear mF1; refine wpl_box_deed rfl _ rfl rfl o1 o2 o3 o4 o5 ?_; intro _ g1 hg1 F1 hb; (try replace F1 := F1.later hb); (try replace F2 := F2.later hb); (try replace F3 := F3.later hb); (try replace F4 := F4.later hb); (try replace F5 := F5.later hb); (try replace F6 := F6.later hb); (try replace F7 := F7.later hb); (try replace F8 := F8.later hb); (try replace F9 := F9.later hb); (try replace G1 := G1.later hb); (try replace G2 := G2.later hb); (try replace G3 := G3.later hb); (try replace z := z.later hb); (try replace b := later b hb); (try replace bB := mixed hB bB hb); clear hb) | (with_reducible show wpList _ _ _ (⟨_, Op.alloc _, _, _, _, _⟩ :: _) _ _; clear mF2; refine wpl_mk_hash rfl rfl ?_; intro _ g2 hg2 F2 hb; (try have := F1.lt); (try have := F2.lt); (try have := F3.lt); (try have := F4.lt); (try have := F5.lt); (try have := F6.lt); (try have := F7.lt); (try have := F8.lt); (try have := F9.lt); (try have := z.lt); (try have := G1.lt); (try have := G2.lt); (try have := G3.lt); (try have := b.size); (try replace F1 := F1.later hb); (try replace F2 := F2.later hb); (try replace F3 := F3.later hb); (try replace F4 := F4.later hb); (try replace F5 := F5.later hb); (try replace F6 := F6.later hb); (try replace F7 := F7.later hb); (try replace F8 := F8.later hb); (try replace F9 := F9.later hb); (try replace G1 := G1.later hb); (try replace G2 := G2.later hb); (try replace G3 := G3.later hb); (try replace z := z.later hb); (try replace b := later b hb); (try replace bB := mixed hB bB hb); clear hb) | (with_reducible show wpList _ _ _ (⟨_, Op.load _ _, _, _, _, _⟩ :: _) _ _; refine wpl_ld_deed rfl _ rfl rfl F1 ?_) | (go_at_call 58; refine (HM.out _ b).mono ?_; rintro _ _ ⟨rfl, hc⟩; (try replace F1 := F1.later hc); (try replace F2 := F2.later hc); (try replace F3 := F3.later hc); (try replace F4 := F4.later hc); (try replace F5 := F5.later hc); (try replace F6 := F6.later hc); (try replace F7 := F7.later hc); (try replace F8 := F8.later hc); (try replace F9 := F9.later hc); (try replace G1 := G1.later hc); (try replace G2 := G2.later hc); (try replace G3 := G3.later hc); (try replace z := z.later hc); (try replace b := later b hc); (try replace bB := mixed hB bB hc); clear hc) | (with_reducible show wpList _ _ _ (⟨_, Op.build _ _, _, _, _, _⟩ :: _) _ _; refine wpl_zero_hash rfl rfl ?_) | (with_reducible show wpList _ _ _ (⟨_, Op.store _ _ _, _, _, _, _⟩ :: _) _ _; refine wpl_set_hash rfl _ _ rfl rfl rfl rfl F2 ?_; intro _ t1 ht; (try replace F1 := F1.tt ht); (try replace F2 := F2.tt ht); (try replace F3 := F3.tt ht); (try replace F4 := F4.tt ht); (try replace F5 := F5.tt ht); (try replace F6 := F6.tt ht); (try replace F7 := F7.tt ht); (try replace F8 := F8.tt ht); (try replace F9 := F9.tt ht); (try replace G1 := G1.tt ht); (try replace G2 := G2.tt ht); (try replace G3 := G3.tt ht); (try replace z := z.tt ht); (try replace b := below_touch b ht (by omega) (by omega)); (try replace bB := below_touch bB ht (by omega) hB); replace F2 := t1; clear ht))
    exact bodyPost_ret (ret_hash_tmp rfl _ _ _ rfl rfl F2) rfl ⟨rfl, b⟩
end Go.Proofs.YtbbfnpfkbbpjgaaGreat
