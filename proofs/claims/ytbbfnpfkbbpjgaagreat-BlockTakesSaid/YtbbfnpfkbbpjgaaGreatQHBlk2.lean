/- block.bytes. -/
import Derived.Test.YtbbfnpfkbbpjgaaGreatQHTreeRows
import Derived.Test.YtbbfnpfkbbpjgaaGreatQHDeed5
import Derived.Test.YtbbfnpfkbbpjgaaGreatQHBlkM
namespace Go.Proofs.YtbbfnpfkbbpjgaaGreat
open Go.RowKit Go.Lib
set_option linter.unusedVariables false
set_option linter.unusedSimpArgs false
set_option maxRecDepth 100000
set_option maxHeartbeats 4000000
theorem strElem : ElemOf Tryz.prog 96 9 1 16 := elOf Tryz.underlying96 (by decide) (by kernel_rfl)
theorem x1i {l : List Deed} {k : Nat} {d : Deed} (h : (l.take k).all mayD = true) (hd : l[k]? = some d) (hm : mayD d = true) : (l.take (k + 1)).all mayD = true := by
 obtain ⟨hk, rfl⟩ := List.getElem?_eq_some_iff.1 hd
 rw [List.take_succ_eq_append_getElem hk, List.all_append, h]
 simp [hm]
theorem x4v {l : List Deed} {k : Nat} {d : Deed} (hd : l[k]? = some d) (hm : mayD d = false) : l.all mayD = false := by
 rw [List.all_eq_false]
 exact ⟨d, List.mem_of_getElem? hd, by simp [hm]⟩
theorem map_take {α β : Type} (f : α → β) {l : List α} {k : Nat} {d : α} (hd : l[k]? = some d) : (l.take (k + 1)).map f = (l.take k).map f ++ [f d] := by
 obtain ⟨hk, rfl⟩ := List.getElem?_eq_some_iff.1 hd
 rw [List.take_succ_eq_append_getElem hk, List.map_append]
 rfl
def txC (d : Deed) : List Value := [.string ⟨(fullL d).toArray⟩]
def fuC (d : Deed) : List Value := bvs (fulB d)
theorem j5n (v : Value) (l : List Deed) (w : World) (h : DsIs w v l) (hn : l.length ≤ 1000) (hf : ∀ d ∈ l, d.Fit) :
  Calls Tryz.prog 62 #[v] w fun e w' => ((l.all mayD = true ∧ ∃ tv fv, e = .returned (.tuple #[tv, fv, .int .i64 0]) ∧ OwnR w' w.heap.size 9 1 tv (l.map txC) [] ∧ Sl w' fv 32 (l.map fuC)) ∨ (l.all mayD = false ∧ e = .returned (.tuple #[nilD, nilD, .int .i64 2]))) ∧ Below w.heap.size w w' := by
 obtain ⟨a1, c1, rfl⟩ := h.shape
 have HFT := hide hf
 have HMT := hide (fun k d (h : (l.take k).all mayD = true) (hd : l[k]? = some d) (hm : mayD d = true) => x1i h hd hm)
 obtain ⟨n, hn'⟩ : ∃ n, n = l.length := ⟨_, rfl⟩
 have HN := hide hn'
 rw [← hn'] at h hn ⊢
 clear hn' hf
 have b := Below.refl w.heap.size w
 have qB := Nat.le_refl w.heap.size
 have T1 := OwnR.nil w w.heap.size 9 1
 have U1 := OwnR.nil w w.heap.size 34 32
 have mF1 := True.intro
 have mF2 := True.intro
 go_enter Tryz.func62, Tryz.ntmps62
 go_wp2_with fail
 go_loopw [5, 6, 15] (fun tv fv i wr => ∃ k : Nat, i = .int .i64 k ∧ k ≤ n ∧ Hid ((l.take k).all mayD = true) ∧ OwnR wr w.heap.size 9 1 tv ((l.take k).map txC) [] ∧ OwnR wr w.heap.size 34 32 fv ((l.take k).map fuC) [] ∧ (∀ y, tv.ownBlock = some y → fv.ownBlock ≠ some y) ∧ Below w.heap.size w wr ∧ w.heap.size ≤ wr.heap.size) (fun _ _ i _ => n - (RowKit.intOf i).toNat)
 case atStart => exact ⟨0, rfl, by omega, hide (by simp), by simpa using T1, by simpa using U1, by intro y hy; simp [Value.ownBlock] at hy, b, qB⟩
 clear b T1 U1 qB
 obtain ⟨k, rfl, hk, HM, T1, U1, hTU, b, qB⟩ := hrel
 by_cases hlt : k < n
 case pos =>
  obtain ⟨d, hd⟩ : ∃ d, l[k]? = some d := ⟨_, List.getElem?_eq_getElem (by rw [← HN.out]; exact hlt)⟩
  obtain ⟨bb, k0, c', he, _, hcs⟩ := (h.later b).block (by rw [← HN.out]; omega)
  rw [← HN.out] at he
  simp only [Value.slice.injEq] at he
  obtain ⟨rfl, -, rfl⟩ := he
  obtain ⟨v1, v2, v3, v4, v5, d1, hD, o1, o2, o3, o4, o5⟩ := hcs k d hd
  have hft := HFT.out d (List.mem_of_getElem? hd)
  have HP := hide (fun (w' : World) (hb : Below wr.heap.size wr w') => x9s _ d w' (hD.later hb) hft)
  have HF := hide (fun (w' : World) (hb : Below wr.heap.size wr w') => j9c _ d w' (hD.later hb) hft)
  have HTL : Hid (((l.take k).map txC).length = k) := by rw [List.length_map, List.length_take]; exact Nat.min_eq_left (by rw [← HN.out]; omega)
  have HUL : Hid (((l.take k).map fuC).length = k) := by rw [List.length_map, List.length_take]; exact Nat.min_eq_left (by rw [← HN.out]; omega)
  have HTX := hide (map_take txC hd)
  have HUX := hide (map_take fuC hd)
  have HMN := hide (fun hm => x4v hd hm)
  have HMX' := hide (fun hm => HMT.out k d HM.out hd hm)
  obtain ⟨aT, cT, rfl⟩ := T1.shape
  obtain ⟨aU, cU, rfl⟩ := U1.shape
  rw [HTL.out] at T1 hTU ⊢
  rw [HUL.out] at U1 hTU ⊢
  have k2 := Below.refl wr.heap.size wr
  unfold fullD at HF
  clear hcs hd hD hft h
  by_cases hm : mayD d = true
  ·have HMX := hide (HMX'.out hm)
   rw [if_pos hm, if_pos hm] at HP
   rw [if_pos hm] at HF
   have HL : Hid ((fulB d).length = 32) := q9k d
   have e : (ofX tagFull [fullL d], (0 : Int)) = (fulB d, 0) := rfl
   rw [e] at HF
   have e1 : txC d = [.string ⟨(fullL d).toArray⟩] := rfl
   have e2 : fuC d = bvs (fulB d) := rfl
   rw [e1] at HTX
   rw [e2] at HUX
   clear hm HMN HMX' HMT e e1 e2
   generalize fulB d = R at *
   generalize (⟨(fullL d).toArray⟩ : ByteArray) = sF at *
   generalize d.fee = f at *
   generalize d.frm = s at *
   generalize d.til = t at *
   go_wp2_with (first | (with_reducible refine w11g ?_; first | refine q3w rfl _ rfl rfl d1 ?_ | refine q1g rfl _ rfl rfl F1 ?_) | (with_reducible refine w12g ?_; clear mF1; refine q1x rfl rfl ?_; intro _ g1 hg1 F1 ha; simp only [pS]) | ((with_reducible refine w13g ?_); refine q1b rfl _ _ rfl rfl (v1 := v1) (v2 := v2) (v3 := v3) (v4 := v4) (v5 := v5) (f := f) (s := s) (t := t) rfl o1 o2 o3 o4 o5 F1 ?_; intro _ t1 ht1; have hb := q0b ha ht1 hg1 (Nat.le_refl _); clear F1; replace T1 := T1.later hb; replace U1 := U1.later hb; replace b := later b hb; replace k2 := later k2 hb; replace qB := Nat.le_trans qB hb.size; have F1 := t1; clear t1 ht1 ha hb; simp only [pS]) | (go_at_call 19; refine (HP.out _ k2).mono ?_; rintro _ _ ⟨rfl, hb⟩; replace T1 := T1.later hb; replace U1 := U1.later hb; (try replace F1 := F1.later hb); replace b := later b hb; replace k2 := later k2 hb; replace qB := Nat.le_trans qB hb.size; clear hb) | (go_at_call 21; refine (HF.out _ k2).mono ?_; rintro _ _ ⟨rfl, hb⟩; replace T1 := T1.later hb; replace U1 := U1.later hb; (try replace F1 := F1.later hb); replace b := later b hb; replace k2 := later k2 hb; replace qB := Nat.le_trans qB hb.size; clear hb) | (with_reducible show wpList _ _ _ (⟨_, Op.alloc 34, _, _, _, _⟩ :: _) _ _; clear mF2; refine q0r rfl rfl ?_; have hT2 := T1.lt; have hU2 := U1.lt; intro _ g2 hg2 F2 ha; simp only [pS]) | (with_reducible refine w14g ?_; refine q0k rfl _ _ rfl rfl rfl HL.out F2 ?_; intro _ t1 ht1; have hb := q0b ha ht1 hg2 (Nat.le_refl _); clear F2; replace T1 := T1.later hb; replace U1 := U1.later hb; (try replace F1 := F1.later hb); replace b := later b hb; replace k2 := later k2 hb; replace qB := Nat.le_trans qB hb.size; have F2 := t1; clear t1 ht1 ha hb; simp only [pS]) | (with_reducible show Code.wp _ (Code.region _ _ true) _ _ _; fail))
   have hK0 : Lasts (fun x => Below w.heap.size w x ∧ HashAt x g2 R) := fun _ _ h hb => ⟨later h.1 hb, h.2.later hb⟩
   refine q1m (fun x => Below w.heap.size w x ∧ HashAt x g2 R) (.two [0, 1, 4, 5] 2 (.two [] 3 (.one [] 6 (.bar [] 7 (.stop [8, 9]))) 6 (.one [] 3 (.bar [] 7 (.stop [8, 9])))) 6 (.one [] 2 (.one [] 3 (.bar [] 7 (.stop [8, 9]))))) (by kernel_rfl) (by kernel_rfl) (by kernel_rfl) (by decide) hK0 ⟨b, F2⟩ ?_
   intro _ hb _ _
   replace T1 := T1.later hb
   replace U1 := U1.later hb
   replace F2 := F2.later hb
   replace b := later b hb
   replace qB := Nat.le_trans qB hb.size
   clear hb
   refine j2i ?_
   simp only [pickOps, opAt, List.getElem?_cons_succ, List.getElem?_cons_zero, List.nil_append, List.cons_append]
   repeat ((go_big_quiet_want; first | ((with_reducible refine w28g ?_); first | (refine q2i 34 _ rfl rfl (fun w hw => (fun h => Cells.arr h.2.2) (Kl.out hw)) _ Tryz.underlying34 rfl (by rw [q0c, HL.out]; exact hashInfo) ?_; simp only [pS]; go_big_quiet_on)) | (go_big_quiet_op; first | go_big_quiet_on)))
   refine wpQuiet_nil ?_
   intro _ hb _
   replace T1 := T1.later hb
   replace U1 := U1.later hb
   replace F2 := F2.later hb
   replace b := later b hb
   replace qB := Nat.le_trans qB hb.size
   clear hb
   refine ⟨?_, ?_⟩
   ·skip
    refine q2q rfl strElem (by decide) _ rfl (v := .string sF) (el := [.string sF]) rfl rfl rfl (by intro u hu; simp at hu; subst hu; rfl) ?_
    intro _ g9 _ O9 hb
    have S9 := O9.sl
    clear O9
    replace T1 := T1.later hb
    replace U1 := U1.later hb
    replace F2 := F2.later hb
    replace b := later b hb
    replace qB := Nat.le_trans qB hb.size
    clear hb
    refine q1e hK0 ⟨b, F2⟩ ?_
    (try simp only [pS])
    refine j2i ?_
    simp only [pickOps, opAt, List.getElem?_cons_succ, List.getElem?_cons_zero, List.nil_append, List.cons_append]
    repeat (fail)
    refine wpQuiet_nil ?_
    intro _ hb _
    replace T1 := T1.later hb
    replace U1 := U1.later hb
    replace F2 := F2.later hb
    replace b := later b hb
    replace qB := Nat.le_trans qB hb.size
    (try replace S9 := S9.later hb)
    clear hb
    refine ⟨?_, ?_⟩
    ·skip
     refine q0s rfl _ _ strElem rfl rfl T1 rfl S9 (Els.one rfl (by intro u hu; simp at hu; subst hu; rfl)) (k + 1) (by rw [HTL.out]; rfl) (by omega) (by omega) qB ?_
     intro a7 c7 w7 T2 ht hbk
     have U0 := U1
     replace U1 := U1.beside ht hTU
     replace F2 := F2.touch ht (fun hg => by have := hT2 _ hg; omega)
     replace b := b.trans (ht.below (B := w.heap.size) b.size (fun y hy => T1.ge y hy))
     replace qB := Nat.le_trans qB ht.size
     have hTU2 : ∀ y, (Value.slice a7 (k + 1) c7).ownBlock = some y → (Value.slice aU k cU).ownBlock ≠ some y := by
      intro y hy hz
      rcases hbk with h1 | h1
      ·exact hTU y (h1 ▸ hy) hz
      ·rw [h1] at hy; have := U0.lt y hz; have := Option.some.inj hy; omega
     clear hTU hbk ht T1
     have T1 := T2
     have hTU := hTU2
     clear T2 hTU2 U0
     refine q1e hK0 ⟨b, F2⟩ ?_
     (try simp only [pS])
     refine q0w ?_
     simp only [pickOps, opAt, List.getElem?_cons_succ, List.getElem?_cons_zero, List.nil_append, List.cons_append]
     repeat (fail)
     refine wpQuiet_nil ?_
     intro _ hb _
     replace T1 := T1.later hb
     replace U1 := U1.later hb
     replace F2 := F2.later hb
     replace b := later b hb
     replace qB := Nat.le_trans qB hb.size
     clear hb
     refine q2q rfl hashElem (by decide) _ rfl (v := hv R) (el := bvs R) rfl (by simp [hv, Value.cells]) (by rw [q0c]; exact HL.out) (fun u hu => List.all_eq_true.1 (q1f R) u hu) ?_
     have hT10 := T1.lt
     intro _ g10 _ O10 hb
     replace T1 := T1.later hb
     replace U1 := U1.later hb
     replace F2 := F2.later hb
     replace b := later b hb
     replace qB := Nat.le_trans qB hb.size
     clear hb
     refine q1e hK0 ⟨b, F2⟩ ?_
     (try simp only [pS])
     refine q2u ?_
     simp only [pickOps, opAt, List.getElem?_cons_succ, List.getElem?_cons_zero, List.nil_append, List.cons_append]
     repeat (fail)
     refine wpQuiet_nil ?_
     intro _ hb _
     replace T1 := T1.later hb
     replace U1 := U1.later hb
     replace F2 := F2.later hb
     replace b := later b hb
     replace qB := Nat.le_trans qB hb.size
     (try replace O10 := O10.later hb)
     clear hb
     refine q0s rfl _ _ hashElem rfl rfl U1 rfl O10.sl (Els.one (by rw [q0c]; exact HL.out) (fun u hu => List.all_eq_true.1 (q1f R) u hu)) (k + 1) (by rw [HUL.out]; rfl) (by omega) (by omega) qB ?_
     intro a8 c8 w8 U2 ht hbk
     have T0 := T1
     replace T1 := T1.beside ht (fun y hy hz => hTU y hz hy)
     replace b := b.trans (ht.below (B := w.heap.size) b.size (fun y hy => U1.ge y hy))
     replace qB := Nat.le_trans qB ht.size
     have hTU2 : ∀ y, (Value.slice a7 (k + 1) c7).ownBlock = some y → (Value.slice a8 (k + 1) c8).ownBlock ≠ some y := by
      intro y hy hz
      rcases hbk with h1 | h1
      ·exact hTU y hy (h1 ▸ hz)
      ·rw [h1] at hz; have := T0.lt y hy; have := Option.some.inj hz; omega
     clear hTU hbk ht U1 T0 F2
     have U1 := U2
     have hTU := hTU2
     clear U2 hTU2
     refine q1v ?_
     (try simp only [pS])
     refine q2l ?_
     simp only [pickOps, opAt, List.getElem?_cons_succ, List.getElem?_cons_zero, List.nil_append, List.cons_append]
     repeat ((go_big_quiet_want; first | (go_big_quiet_op; first | go_big_quiet_on)))
     refine wpQuiet_nil ?_
     intro _ hb _
     replace T1 := T1.later hb
     replace U1 := U1.later hb
     replace b := later b hb
     replace qB := Nat.le_trans qB hb.size
     clear hb
     go_wp2_with fail
     go_roundw
     case rel => exact ⟨k + 1, by simp, by omega, HMX.out, by rw [HTX.out]; exact T1, by rw [HUX.out]; exact U1, hTU, b, qB⟩
     case measure => simp [RowKit.intOf]; omega
    ·skip
     refine q2q rfl hashElem (by decide) _ rfl (v := hv R) (el := bvs R) rfl (by simp [hv, Value.cells]) (by rw [q0c]; exact HL.out) (fun u hu => List.all_eq_true.1 (q1f R) u hu) ?_
     have hT10 := T1.lt
     intro _ g10 _ O10 hb
     replace T1 := T1.later hb
     replace U1 := U1.later hb
     replace F2 := F2.later hb
     replace b := later b hb
     replace qB := Nat.le_trans qB hb.size
     (try replace S9 := S9.later hb)
     clear hb
     refine q1e hK0 ⟨b, F2⟩ ?_
     (try simp only [pS])
     refine q0w ?_
     simp only [pickOps, opAt, List.getElem?_cons_succ, List.getElem?_cons_zero, List.nil_append, List.cons_append]
     repeat (fail)
     refine wpQuiet_nil ?_
     intro _ hb _
     replace T1 := T1.later hb
     replace U1 := U1.later hb
     replace F2 := F2.later hb
     replace b := later b hb
     replace qB := Nat.le_trans qB hb.size
     (try replace S9 := S9.later hb)
     (try replace O10 := O10.later hb)
     clear hb
     refine q0s rfl _ _ strElem rfl rfl T1 rfl S9 (Els.one rfl (by intro u hu; simp at hu; subst hu; rfl)) (k + 1) (by rw [HTL.out]; rfl) (by omega) (by omega) qB ?_
     intro a7 c7 w7 T2 ht hbk
     have U0 := U1
     (try replace O10 := O10.beside ht (fun y hy hz => by have := hT10 y hy; have := O10.ge y hz; omega))
     replace U1 := U1.beside ht hTU
     replace F2 := F2.touch ht (fun hg => by have := hT2 _ hg; omega)
     replace b := b.trans (ht.below (B := w.heap.size) b.size (fun y hy => T1.ge y hy))
     replace qB := Nat.le_trans qB ht.size
     have hTU2 : ∀ y, (Value.slice a7 (k + 1) c7).ownBlock = some y → (Value.slice aU k cU).ownBlock ≠ some y := by
      intro y hy hz
      rcases hbk with h1 | h1
      ·exact hTU y (h1 ▸ hy) hz
      ·rw [h1] at hy; have := U0.lt y hz; have := Option.some.inj hy; omega
     clear hTU hbk ht T1
     have T1 := T2
     have hTU := hTU2
     clear T2 hTU2 U0
     refine q1e hK0 ⟨b, F2⟩ ?_
     (try simp only [pS])
     refine q2u ?_
     simp only [pickOps, opAt, List.getElem?_cons_succ, List.getElem?_cons_zero, List.nil_append, List.cons_append]
     repeat (fail)
     refine wpQuiet_nil ?_
     intro _ hb _
     replace T1 := T1.later hb
     replace U1 := U1.later hb
     replace F2 := F2.later hb
     replace b := later b hb
     replace qB := Nat.le_trans qB hb.size
     (try replace O10 := O10.later hb)
     clear hb
     refine q0s rfl _ _ hashElem rfl rfl U1 rfl O10.sl (Els.one (by rw [q0c]; exact HL.out) (fun u hu => List.all_eq_true.1 (q1f R) u hu)) (k + 1) (by rw [HUL.out]; rfl) (by omega) (by omega) qB ?_
     intro a8 c8 w8 U2 ht hbk
     have T0 := T1
     replace T1 := T1.beside ht (fun y hy hz => hTU y hz hy)
     replace b := b.trans (ht.below (B := w.heap.size) b.size (fun y hy => U1.ge y hy))
     replace qB := Nat.le_trans qB ht.size
     have hTU2 : ∀ y, (Value.slice a7 (k + 1) c7).ownBlock = some y → (Value.slice a8 (k + 1) c8).ownBlock ≠ some y := by
      intro y hy hz
      rcases hbk with h1 | h1
      ·exact hTU y hy (h1 ▸ hz)
      ·rw [h1] at hz; have := T0.lt y hy; have := Option.some.inj hz; omega
     clear hTU hbk ht U1 T0 F2
     have U1 := U2
     have hTU := hTU2
     clear U2 hTU2
     refine q1v ?_
     (try simp only [pS])
     refine q2l ?_
     simp only [pickOps, opAt, List.getElem?_cons_succ, List.getElem?_cons_zero, List.nil_append, List.cons_append]
     repeat ((go_big_quiet_want; first | (go_big_quiet_op; first | go_big_quiet_on)))
     refine wpQuiet_nil ?_
     intro _ hb _
     replace T1 := T1.later hb
     replace U1 := U1.later hb
     replace b := later b hb
     replace qB := Nat.le_trans qB hb.size
     clear hb
     go_wp2_with fail
     go_roundw
     case rel => exact ⟨k + 1, by simp, by omega, HMX.out, by rw [HTX.out]; exact T1, by rw [HUX.out]; exact U1, hTU, b, qB⟩
     case measure => simp [RowKit.intOf]; omega
   ·skip
    refine q2q rfl hashElem (by decide) _ rfl (v := hv R) (el := bvs R) rfl (by simp [hv, Value.cells]) (by rw [q0c]; exact HL.out) (fun u hu => List.all_eq_true.1 (q1f R) u hu) ?_
    have hT10 := T1.lt
    intro _ g10 _ O10 hb
    replace T1 := T1.later hb
    replace U1 := U1.later hb
    replace F2 := F2.later hb
    replace b := later b hb
    replace qB := Nat.le_trans qB hb.size
    clear hb
    refine q1e hK0 ⟨b, F2⟩ ?_
    (try simp only [pS])
    refine q0w ?_
    simp only [pickOps, opAt, List.getElem?_cons_succ, List.getElem?_cons_zero, List.nil_append, List.cons_append]
    repeat (fail)
    refine wpQuiet_nil ?_
    intro _ hb _
    replace T1 := T1.later hb
    replace U1 := U1.later hb
    replace F2 := F2.later hb
    replace b := later b hb
    replace qB := Nat.le_trans qB hb.size
    (try replace O10 := O10.later hb)
    clear hb
    refine q2q rfl strElem (by decide) _ rfl (v := .string sF) (el := [.string sF]) rfl rfl rfl (by intro u hu; simp at hu; subst hu; rfl) ?_
    intro _ g9 _ O9 hb
    have S9 := O9.sl
    clear O9
    replace T1 := T1.later hb
    replace U1 := U1.later hb
    replace F2 := F2.later hb
    replace b := later b hb
    replace qB := Nat.le_trans qB hb.size
    (try replace O10 := O10.later hb)
    clear hb
    refine q1e hK0 ⟨b, F2⟩ ?_
    (try simp only [pS])
    refine q0w ?_
    simp only [pickOps, opAt, List.getElem?_cons_succ, List.getElem?_cons_zero, List.nil_append, List.cons_append]
    repeat (fail)
    refine wpQuiet_nil ?_
    intro _ hb _
    replace T1 := T1.later hb
    replace U1 := U1.later hb
    replace F2 := F2.later hb
    replace b := later b hb
    replace qB := Nat.le_trans qB hb.size
    (try replace S9 := S9.later hb)
    (try replace O10 := O10.later hb)
    clear hb
    refine q0s rfl _ _ strElem rfl rfl T1 rfl S9 (Els.one rfl (by intro u hu; simp at hu; subst hu; rfl)) (k + 1) (by rw [HTL.out]; rfl) (by omega) (by omega) qB ?_
    intro a7 c7 w7 T2 ht hbk
    have U0 := U1
    (try replace O10 := O10.beside ht (fun y hy hz => by have := hT10 y hy; have := O10.ge y hz; omega))
    replace U1 := U1.beside ht hTU
    replace F2 := F2.touch ht (fun hg => by have := hT2 _ hg; omega)
    replace b := b.trans (ht.below (B := w.heap.size) b.size (fun y hy => T1.ge y hy))
    replace qB := Nat.le_trans qB ht.size
    have hTU2 : ∀ y, (Value.slice a7 (k + 1) c7).ownBlock = some y → (Value.slice aU k cU).ownBlock ≠ some y := by
     intro y hy hz
     rcases hbk with h1 | h1
     ·exact hTU y (h1 ▸ hy) hz
     ·rw [h1] at hy; have := U0.lt y hz; have := Option.some.inj hy; omega
    clear hTU hbk ht T1
    have T1 := T2
    have hTU := hTU2
    clear T2 hTU2 U0
    refine q1e hK0 ⟨b, F2⟩ ?_
    (try simp only [pS])
    refine q2u ?_
    simp only [pickOps, opAt, List.getElem?_cons_succ, List.getElem?_cons_zero, List.nil_append, List.cons_append]
    repeat (fail)
    refine wpQuiet_nil ?_
    intro _ hb _
    replace T1 := T1.later hb
    replace U1 := U1.later hb
    replace F2 := F2.later hb
    replace b := later b hb
    replace qB := Nat.le_trans qB hb.size
    (try replace O10 := O10.later hb)
    clear hb
    refine q0s rfl _ _ hashElem rfl rfl U1 rfl O10.sl (Els.one (by rw [q0c]; exact HL.out) (fun u hu => List.all_eq_true.1 (q1f R) u hu)) (k + 1) (by rw [HUL.out]; rfl) (by omega) (by omega) qB ?_
    intro a8 c8 w8 U2 ht hbk
    have T0 := T1
    replace T1 := T1.beside ht (fun y hy hz => hTU y hz hy)
    replace b := b.trans (ht.below (B := w.heap.size) b.size (fun y hy => U1.ge y hy))
    replace qB := Nat.le_trans qB ht.size
    have hTU2 : ∀ y, (Value.slice a7 (k + 1) c7).ownBlock = some y → (Value.slice a8 (k + 1) c8).ownBlock ≠ some y := by
     intro y hy hz
     rcases hbk with h1 | h1
     ·exact hTU y hy (h1 ▸ hz)
     ·rw [h1] at hz; have := T0.lt y hy; have := Option.some.inj hz; omega
    clear hTU hbk ht U1 T0 F2
    have U1 := U2
    have hTU := hTU2
    clear U2 hTU2
    refine q1v ?_
    (try simp only [pS])
    refine q2l ?_
    simp only [pickOps, opAt, List.getElem?_cons_succ, List.getElem?_cons_zero, List.nil_append, List.cons_append]
    repeat ((go_big_quiet_want; first | (go_big_quiet_op; first | go_big_quiet_on)))
    refine wpQuiet_nil ?_
    intro _ hb _
    replace T1 := T1.later hb
    replace U1 := U1.later hb
    replace b := later b hb
    replace qB := Nat.le_trans qB hb.size
    clear hb
    go_wp2_with fail
    go_roundw
    case rel => exact ⟨k + 1, by simp, by omega, HMX.out, by rw [HTX.out]; exact T1, by rw [HUX.out]; exact U1, hTU, b, qB⟩
    case measure => simp [RowKit.intOf]; omega
  ·have HMX := hide (HMN.out (by simpa using hm))
   rw [if_neg hm, if_neg hm] at HP
   clear hm HMN HMX' HMT HF HTX HUX
   generalize d.fee = f at *
   generalize d.frm = s at *
   generalize d.til = t at *
   go_wp2_with (first | (with_reducible refine w11g ?_; first | refine q3w rfl _ rfl rfl d1 ?_ | refine q1g rfl _ rfl rfl F1 ?_) | (with_reducible refine w12g ?_; clear mF1; refine q1x rfl rfl ?_; intro _ g1 hg1 F1 ha; simp only [pS]) | ((with_reducible refine w13g ?_); refine q1b rfl _ _ rfl rfl (v1 := v1) (v2 := v2) (v3 := v3) (v4 := v4) (v5 := v5) (f := f) (s := s) (t := t) rfl o1 o2 o3 o4 o5 F1 ?_; intro _ t1 ht1; have hb := q0b ha ht1 hg1 (Nat.le_refl _); clear F1; replace T1 := T1.later hb; replace U1 := U1.later hb; replace b := later b hb; replace k2 := later k2 hb; replace qB := Nat.le_trans qB hb.size; have F1 := t1; clear t1 ht1 ha hb; simp only [pS]) | (go_at_call 19; refine (HP.out _ k2).mono ?_; rintro _ _ ⟨rfl, hb⟩; replace T1 := T1.later hb; replace U1 := U1.later hb; (try replace F1 := F1.later hb); replace b := later b hb; replace k2 := later k2 hb; replace qB := Nat.le_trans qB hb.size; clear hb))
   go_ret3
   exact ⟨.inr ⟨HMX.out, rfl⟩, b⟩
 obtain rfl : n = k := by omega
 have HT : Hid (l.take n = l) := List.take_of_length_le (by rw [← HN.out]; exact Nat.le_refl _)
 rw [HT.out] at HM T1 U1
 clear hlt hk
 go_wp2_with fail
 go_ret3
 exact ⟨.inl ⟨HM.out, _, _, rfl, T1, U1.sl⟩, b⟩
end Go.Proofs.YtbbfnpfkbbpjgaaGreat
