/- Package tree: up. -/
import Derived.Test.YtikphhhkikdhaaaTreeA
import Derived.OwnWalk
namespace Go.Proofs.Ytikphhhkikdhaaa
open Go.RowKit Go.Lib
set_option linter.unusedVariables false
set_option linter.unusedSimpArgs false

theorem hashIe2 : ∃ ie z, Try.prog.info? 23 = some ie ∧ ie.size = 32 ∧ ie.bytes = 32 ∧ ie.zero = some z ∧ z.cells.size = 32 := by
  obtain ⟨i, hi, h⟩ := Option.map_eq_some_iff.1 (show (Try.prog.info? 23).map (fun i => (i.size, i.bytes, i.zero.map (·.cells.size))) = some (32, 32, some 32) by kernel_rfl)
  simp only [Prod.mk.injEq] at h
  obtain ⟨z, hz, hzs⟩ := Option.map_eq_some_iff.1 h.2.2
  exact ⟨i, z, hi, h.1, h.2.1, hz, hzs⟩
/-- Hashes, as cells. -/
def hcs (l : List H32) : List Value := (l.map bvs).flatten
theorem hcs_append (a b : List H32) : hcs (a ++ b) = hcs a ++ hcs b := by simp [hcs]
theorem hcs_one (a : H32) : hcs [a] = bvs a := by simp [hcs]
theorem hcs_length (l : List H32) (h : ∀ x ∈ l, x.length = 32) : (hcs l).length = l.length * 32 := by
  induction l with
  | nil => rfl
  | cons a r ih =>
    have := ih (fun x hx => h x (by simp [hx]))
    simp only [hcs, List.map_cons, List.flatten_cons, List.length_append, bvs_length, List.length_cons] at this ⊢
    rw [this, h a (by simp)]; omega
theorem hcs_oneCell (l : List H32) : ∀ u ∈ hcs l, u.oneCell' = true := by
  intro u hu
  obtain ⟨x, hx, hu⟩ := List.mem_flatten.1 hu
  obtain ⟨y, hy, rfl⟩ := List.mem_map.1 hx
  exact List.all_eq_true.1 (bvs_one y) u hu
/-- A slice of hashes that a call hands back. -/
def Fresh (w : World) (v : Value) : Prop := ∀ b k n c, v = .slice (some ⟨b, k, none⟩) n c → w.heap.size ≤ b
def HsPost (w : World) (l : List H32) (e : Ending) (w' : World) : Prop := ∃ v, e = .returned v ∧ Hs w' v l ∧ Below w.heap.size w w' ∧ Fresh w v
theorem Hs.own {w : World} {B n : Nat} {v : Value} {l : List H32} (hn : l.length = n) (hl : ∀ h ∈ l, h.length = 32) (h : w.ownsRow B 23 32 v n (hcs l)) : Hs w v l :=
  ⟨Sl.own (by simpa using hn) (fun x hx => by obtain ⟨y, hy, rfl⟩ := List.mem_map.1 hx; rw [bvs_length]; exact hl y hy) h, hl⟩
theorem up_rest : ∀ (l : List H32) (k : Nat), l.length ≤ 2 * k + 1 → 2 * k ≤ l.length → (upL l).take k ++ l.drop (2 * k) = upL l
  | [], k, _, h => by have : k = 0 := by simp at h; omega
                      subst this; rfl
  | [a], k, _, h => by have : k = 0 := by simp at h; omega
                       subst this; rfl
  | a :: b :: r, 0, h, _ => by simp at h
  | a :: b :: r, k + 1, h, h2 => by
    have := up_rest r k (by simp at h; omega) (by simp at h2; omega)
    rw [upL, List.take_succ_cons, show 2 * (k + 1) = 2 * k + 1 + 1 by omega, List.drop_succ_cons, List.drop_succ_cons, List.cons_append, this]
/-- A row of hashes of one's own. -/
def OwnHs (w : World) (B : Nat) (v : Value) (l : List H32) : Prop := w.ownsRow B 23 32 v l.length (hcs l)
theorem below_grown {w w' : World} (h : Below w.heap.size w w') : w.grownBy w' none := ⟨h.os, h.tape, h.output, h.size, fun k hk _ => h.block k hk⟩
theorem owns_later {w w' : World} {B e sz n : Nat} {v : Value} {xs : List Value} (h : w.ownsRow B e sz v n xs) (hb : Below w.heap.size w w') : w'.ownsRow B e sz v n xs := h.kept (below_grown hb) (by cases hv : v.ownBlock <;> simp)
theorem OwnHs.later {w w' : World} {B : Nat} {v : Value} {l : List H32} (h : OwnHs w B v l) (hb : Below w.heap.size w w') : OwnHs w' B v l := h.kept (below_grown hb) (by cases hv : v.ownBlock <;> simp)
theorem OwnHs.hs {w : World} {B : Nat} {v : Value} {l : List H32} (h : OwnHs w B v l) (hl : ∀ h ∈ l, h.length = 32) : Hs w v l := Hs.own rfl hl h
/-- The cells that a slice of hashes has. -/
theorem Hs.cellsOf {w : World} {b k n cap : Nat} {l : List H32} (h : Hs w (.slice (some ⟨b, k, none⟩) n cap) l) : ∀ j u, (hcs l)[j]? = some u → w.cell? ((⟨b, k, none⟩ : Addr).add j) = some u := by
  intro j u hu
  have hlen := hcs_length l h.2
  have hj : j < l.length * 32 := by rw [← hlen]; exact (List.getElem?_eq_some_iff.1 hu).1
  have hne : 0 < l.length := by omega
  obtain ⟨b', k', cap', hv, _, _, _, hc⟩ := h.block hne
  simp only [Value.slice.injEq, Option.some.injEq, Addr.mk.injEq, and_true] at hv
  obtain ⟨⟨rfl, rfl⟩, _, _⟩ := hv
  have hi : j / 32 < l.length := by omega
  have h1 := hc (j / 32) hi (j % 32)
  rw [Cells.add]
  have hg : (l.map bvs)[j / 32]? = some (bvs (l.getD (j / 32) [])) := by simp [hi]
  have hl : ∀ e ∈ l.map bvs, e.length = 32 := fun e he => by obtain ⟨y, hy, rfl⟩ := List.mem_map.1 he; rw [bvs_length]; exact h.2 y hy
  have h32 : (l.getD (j / 32) []).length = 32 := h.2 _ (by rw [List.getD_eq_getElem?_getD, List.getElem?_eq_getElem hi]; exact List.getElem_mem _)
  have hjl : j % 32 < (bvs (l.getD (j / 32) [])).length := by rw [bvs_length, h32]; omega
  have h2 := flatten_get 32 (l.map bvs) hl (j / 32) _ hg (j % 32) _ (List.getElem?_eq_getElem hjl)
  rw [show j / 32 * 32 + j % 32 = j by omega] at h2
  have hu' : u = (bvs (l.getD (j / 32) []))[j % 32] := Option.some.inj (hu.symm.trans h2)
  rw [show k + j = k + j / 32 * 32 + j % 32 by omega]
  rw [hu']
  exact h1 _ (List.getElem?_eq_getElem hjl)
theorem up_take (l : List H32) (k : Nat) (h : 2 * k + 1 < l.length) : hcs ((upL l).take (k + 1)) = hcs ((upL l).take k) ++ bvs (pairL (l.getD (2 * k) []) (l.getD (2 * k + 1) [])) := by
  have hk : k < (upL l).length := by rw [upL_length]; omega
  have hg := upL_get l k (by omega)
  rw [if_pos h] at hg
  rw [List.take_succ_eq_append_getElem hk, hcs_append, hcs_one, ← hg]
  simp [hk]

set_option maxRecDepth 100000 in
set_option maxHeartbeats 1600000 in
theorem up_any (v : Value) (l : List H32) (w : World) (hv0 : Hs w v l) (hm : l.length ≤ 1000000) :
    Calls Try.prog 75 #[v] w (HsPost w (upL l)) := by
  obtain ⟨ie, z, hi1, hi2, hi3, hi4, hi5⟩ := hashIe2
  obtain ⟨a, cap, rfl, hc1, hc2, hc0⟩ := hv0.shape
  obtain ⟨n, hn⟩ : ∃ n, n = l.length / 2 := ⟨_, rfl⟩
  have hlen := upL_length l
  have hn1 : 2 * n ≤ l.length := by omega
  have hn2 : l.length ≤ 2 * n + 1 := by omega
  obtain ⟨L, hL⟩ : ∃ L, L = l.length := ⟨_, rfl⟩
  have HL := hide hL
  rw [← hL] at hn hc1 hlen hn1 hn2 hm ⊢
  have hnn : ((L : Int) / 2) = (n : Int) := by omega
  have HN := hide hnn
  clear hn hL hnn
  go_enter Try.func75, Try.ntmps75
  go_wp2_with (refine wpList_make_own _ rfl _ _ 36 rfl w.heap.size 23 ie z 32 Try.underlying36 hi1 hi4 hi2 .i64 .i64 _ (n + 1) rfl rfl (by rw [HN.out]; omega) (by rw [hi3]; omega) (by unfold maxLen; omega) (Nat.le_refl _) ?_; intro w1 hown hg1)
  have hb1 : Below w.heap.size w w1 := (Below.refl _ _).grown hg1 (Nat.le_refl _) (fun k h => by cases h)
  have hown1 : w1.ownsRow w.heap.size 23 32 (.slice (some ⟨w.heap.size, 0, none⟩) 0 (n + 1)) 0 (hcs ((upL l).take 0)) := hown
  clear hg1 hown
  rw [HN.out]
  have HLEN := hide hlen
  clear hlen
  go_loopw [4, 13] (fun out i wr => ∃ k : Nat, k ≤ n ∧ i = .int .i64 k ∧ out = .slice (some ⟨w.heap.size, 0, none⟩) k (n + 1) ∧ wr.ownsRow w.heap.size 23 32 (.slice (some ⟨w.heap.size, 0, none⟩) k (n + 1)) k (hcs ((upL l).take k)) ∧ Below w.heap.size w wr) (fun _ i _ => n - (RowKit.intOf i).toNat)
  case atStart => exact ⟨0, by omega, rfl, rfl, hown1, hb1⟩
  case round =>
    obtain ⟨k, hk, rfl, rfl, hown, hb⟩ := hrel
    clear hown1 hb1
    have hvr := hv0.later hb
    by_cases hlt : k < n
    · obtain ⟨b, k0, cap', hv, _, _, _, hcs⟩ := hvr.block (by rw [← HL.out]; omega)
      simp only [Value.slice.injEq] at hv
      obtain ⟨rfl, _, rfl⟩ := hv
      have c0 := hcs (2 * k) (by rw [← HL.out]; omega)
      have c1 := hcs (2 * k + 1) (by rw [← HL.out]; omega)
      have l0 : (l.getD (2 * k) []).length = 32 := hvr.2 _ (by rw [List.getD_eq_getElem?_getD, List.getElem?_eq_getElem (by rw [← HL.out]; omega)]; exact List.getElem_mem _)
      have l1 : (l.getD (2 * k + 1) []).length = 32 := hvr.2 _ (by rw [List.getD_eq_getElem?_getD, List.getElem?_eq_getElem (by rw [← HL.out]; omega)]; exact List.getElem_mem _)
      have hT := up_take l k (by rw [← HL.out]; omega)
      generalize l.getD (2 * k) [] = x at *
      generalize l.getD (2 * k + 1) [] = y at *
      have HT := hide hT
      have HP := hide (fun w => pair_any x y l0 l1 w)
      clear hcs hT
      have L0 := hide l0
      have L1 := hide l1
      clear l0 l1
      go_wp2_with fail
      refine region_plan (fun x => Below (wr).heap.size (wr) x) (.fl [0, 1, 2, 3, 4, 5, 6, 7, 8, 9, 10, 11] 12 (.one [] 13 (.bar [] 14 (.stop [15])))) (by kernel_rfl) (by kernel_rfl) (by kernel_rfl) (by decide) (lasts_below (Nat.le_refl _)) (Below.refl _ _) ?_
      intro wpl0 _ _ _
      refine plan_fl ?_
      simp only [pickOps, opAt, List.getElem?_cons_succ, List.getElem?_cons_zero, List.nil_append, List.cons_append]
      repeat (first | go_big_quiet_skip | (go_big_quiet_want; first | (refine plan_load_hash _ rfl rfl (by assumption) ?_; simp only [Act.put, List.setIfInBounds_toArray, List.set_cons_succ, List.set_cons_zero]; go_big_quiet_on) | ((refine plan_load_elem _ rfl rfl (by assumption) (by first | exact L0.out | exact L1.out) ?_); simp only [Act.put, List.setIfInBounds_toArray, List.set_cons_succ, List.set_cons_zero]; go_big_quiet_on) | (go_big_quiet_op; go_big_quiet_on)))
      refine wpQuiet_nil ?_
      refine fl_call (args := #[hv x, hv y]) (by rfl) rfl (by kernel_rfl) (by simp only [List.map_toArray, List.map_cons, List.map_nil]; rfl) (fun w' hC => HP.out w') ?_
      simp only [Act.put, List.setIfInBounds_toArray, List.set_cons_succ, List.set_cons_zero]
      refine plan_one ?_
      simp only [pickOps, opAt, List.getElem?_cons_succ, List.getElem?_cons_zero, List.nil_append, List.cons_append]
      refine wpQuiet_nil ?_
      intro w13 hw13 hk13
      refine wpl_hashes rfl 1 _ rfl [pairL x y] rfl (by simp only [List.map_toArray, List.map_cons, List.map_nil]; rfl) (by intro h hh; simp at hh; subst hh; exact pairL_length _ _) (by decide) (by decide) ?_
      intro w14 hs14 hb14 hz14
      have hk14 := later hk13 hb14
      refine goQ_since (lasts_below (Nat.le_refl _)) hk14 (plan_bar ?_)
      simp only [pickOps, opAt, List.getElem?_cons_succ, List.getElem?_cons_zero, List.nil_append, List.cons_append]
      refine wpQuiet_nil ?_
      intro w15 hw15 hk15
      have hown15 := owns_later hown (later hk14 hk15)
      have hs15 := hs14.later hk15
      have hb15 := later hb (later hk14 hk15)
      clear hown hb hk13 hk14 hk15 hw13 hw15 hs14 hb14 hz14 c0 c1 hvr
      generalize w13.heap.size = g at *
      refine wpList_append_fits _ rfl _ _ 36 rfl w.heap.size 23 ie 32 Try.underlying36 hi1 hi2 w.heap.size k (n + 1) _ rfl hown15 ⟨g, 0, none⟩ 1 1 (bvs (pairL x y)) rfl (by rw [bvs_length, pairL_length]) (fun j u hu => hs15.cellsOf j u (by rw [hcs_one]; exact hu)) (fun u hu => List.all_eq_true.1 (bvs_one _) u hu) (by omega) ?_
      intro w16 hown16 hg16
      rw [← HT.out] at hown16
      have hb16 := hb15.grown hg16 hb15.size (fun k h => by have := Option.some.inj h; omega)
      clear hg16 hown15 hs15 hb15
      refine goB_since (plan_stop ?_)
      simp only [pickOps, opAt, List.getElem?_cons_succ, List.getElem?_cons_zero, List.nil_append, List.cons_append]
      simp only [Act.put, List.setIfInBounds_toArray, List.set_cons_succ, List.set_cons_zero]
      repeat (first | go_big_quiet_skip | (go_big_quiet_want; first | (refine plan_load_hash _ rfl rfl (by assumption) ?_; simp only [Act.put, List.setIfInBounds_toArray, List.set_cons_succ, List.set_cons_zero]; go_big_quiet_on) | (go_big_quiet_op; go_big_quiet_on)))
      refine wpQuiet_nil ?_
      intro w17 _ hk17
      replace hown16 := owns_later hown16 hk17
      replace hb16 := later hb16 hk17
      clear hk17
      go_wp2_with fail
      go_roundw
      case rel => exact ⟨k + 1, by omega, by simp, rfl, hown16, hb16⟩
      case measure => simp [RowKit.intOf]; omega
    · have hkn : k = n := by omega
      subst hkn
      go_wp2_with fail
      refine region_since_tail 9 (by kernel_rfl) (by kernel_rfl) ?_
      simp only [List.take_succ_cons, List.take_zero]
      repeat (first | go_big_quiet_skip | (go_big_quiet_want; go_big_quiet_op; go_big_quiet_on))
      refine wpQuiet_nil ?_
      intro w3 hw3
      simp only [List.drop_succ_cons, List.drop_zero]
      have hown3 := owns_later hown hw3
      have hd3 := (hvr.later hw3).drop (2 * k) (by rw [← HL.out]; omega)
      rw [← HL.out] at hd3
      have hb3 := later hb hw3
      have hsh := hd3.shape
      have hlen3 : (l.drop (2 * k)).length = L - 2 * k := by rw [List.length_drop, HL.out]
      have HF : Hid (hcs ((upL l).take k) ++ hcs (l.drop (2 * k)) = hcs (upL l)) := by
        unfold Hid
        rw [← hcs_append, up_rest l k (by rw [← HL.out]; omega) (by rw [← HL.out]; omega)]
      clear hown hvr hb hw3
      obtain ⟨ao, hao⟩ : ∃ ao, ao = if cap = 2 * k then a else Option.map (fun x => x.add (2 * k * 32)) a := ⟨_, rfl⟩
      rw [← hao] at hd3 hsh ⊢
      obtain ⟨a3, c3, hs1, hs2, hs3, hs4⟩ := hsh
      simp only [Value.slice.injEq] at hs1
      obtain ⟨rfl, _, rfl⟩ := hs1
      clear hao
      refine wpList_append_fits_any _ rfl _ _ 36 rfl w.heap.size 23 ie 32 Try.underlying36 hi1 hi2 w.heap.size k (k + 1) _ rfl hown3 ao (L - 2 * k) (cap - 2 * k) (hcs (l.drop (2 * k))) rfl (by rw [hcs_length _ hd3.2, hlen3]) (fun h => ⟨by have := hs4 h; omega, hs4 h⟩) (fun ad had j u hu => ?_) (hcs_oneCell _) (by omega) ?_
      · subst had
        obtain ⟨b, o, sp⟩ := ad
        have hsp : sp = none := by
          by_cases h0 : 0 < (l.drop (2 * k)).length
          · obtain ⟨b', k', cap', hv', _⟩ := hd3.block h0
            simp only [Value.slice.injEq, Option.some.injEq, Addr.mk.injEq] at hv'
            exact hv'.1.2.2
          · have : l.drop (2 * k) = [] := List.eq_nil_of_length_eq_zero (by omega)
            rw [this] at hu; simp [hcs] at hu
        subst hsp
        exact hd3.cellsOf j u hu
      · intro w4 hown4 hg4
        rw [HF.out] at hown4
        have hb4 := hb3.grown hg4 hb3.size (fun k h => by have := Option.some.inj h; omega)
        have hk4 : (upL l).length = k + (L - 2 * k) := by rw [HLEN.out]; omega
        have h32 := upL_32 l hv0.2
        have hres : Hs w4 (.slice (some ⟨w.heap.size, 0, none⟩) (k + (L - 2 * k)) (k + 1)) (upL l) := Hs.own hk4 h32 hown4
        have hfr : Fresh w (.slice (some ⟨w.heap.size, 0, none⟩) (k + (L - 2 * k)) (k + 1)) := fun b k n c h => by
          simp only [Value.slice.injEq, Option.some.injEq, Addr.mk.injEq] at h
          exact Nat.le_of_eq h.1.1
        clear hk4 hg4 hown4 hs2 hs3 hs4 hown3 hb3 hd3
        simp only [Act.put, List.setIfInBounds_toArray, List.set_cons_succ, List.set_cons_zero]
        go_wp2_with fail
        go_ret
        exact ⟨_, rfl, hres, hb4, hfr⟩
end Go.Proofs.Ytikphhhkikdhaaa
