/- The reference's Rows (mintageref04). -/
import Derived.Test.YtbbfnpfkbbpjgaaGreatQHTreeRows
namespace Go.Proofs.YtbbfnpfkbbpjgaaGreat
open Go.RowKit Go.Lib
set_option linter.unusedVariables false
set_option linter.unusedSimpArgs false
set_option maxRecDepth 100000
set_option maxHeartbeats 4000000
theorem z0i (tag : List UInt8) (ps : List (List UInt8)) (v : Value) (w : World) (hv0 : Strs w v (ps.map txt)) (ht : tag.length ≤ 1048576) (hp : ∀ p ∈ ps, p.length ≤ 1048576) (hn : ps.length ≤ 16) :
  Calls Tryz.prog 114 #[.string (txt tag), v] w fun e w' => e = .returned (hv (ofX tag ps)) ∧ Below w.heap.size w w' := by
 have hl : (putText (txt tag).data.toList ++ tellL (ps.map txt)).length ≤ 1099511627776 := by
  have h1 := q5i tag
  have h2 := j2h ps 1048576 hp
  rw [q8g, List.length_append]
  have h3 : ps.length * (10 + 1048576) ≤ 16 * (10 + 1048576) := Nat.mul_le_mul_right _ hn
  show (putText tag).length + _ ≤ _
  omega
 refine (j8g (txt tag) (ps.map txt) v w hv0 (by simp; omega) hl).mono ?_
 rintro e w' ⟨rfl, hb⟩
 rw [j6w]
 exact ⟨rfl, hb⟩
/-- All rows, from a row up to the one of one hash. -/
def rowsOf : Nat → List H32 → List (List H32)
 | 0, r => [r]
 | f + 1, r => if r.length ≤ 1 then [r] else r :: rowsOf f (upL r)
theorem x2f (f : Nat) (r : List H32) (h : r.length ≤ 1) : rowsOf f r = [r] := by cases f <;> simp [rowsOf, h]
theorem x4m (f : Nat) (r : List H32) (h : 1 < r.length) (hf : r.length ≤ f) : rowsOf f r = r :: rowsOf (f - 1) (upL r) := by
 cases f with
 | zero => omega
 | succ f => rw [rowsOf, if_neg (by omega)]; rfl
/-- What Rows hands back. -/
def rowsL (l : List H32) : List (List H32) := if l = [] then [[noneL]] else rowsOf l.length (l.map leafL)
/-- Slices of hashes, side by side, each of one's own. -/
def RowsOwn (w : World) (B : Nat) (vs : List Value) (rs : List (List H32)) : Prop := vs.length = rs.length ∧ ∀ (i : Nat) (v : Value) (r : List H32), vs[i]? = some v → rs[i]? = some r → OwnHs w B v r ∧ ∀ h ∈ r, h.length = 32
theorem RowsOwn.later {w w' : World} {B : Nat} {vs : List Value} {rs : List (List H32)} (h : RowsOwn w B vs rs) (hb : Below w.heap.size w w') : RowsOwn w' B vs rs := ⟨h.1, fun i v r h1 h2 => ⟨(h.2 i v r h1 h2).1.later hb, (h.2 i v r h1 h2).2⟩⟩
theorem RowsOwn.nil (w : World) (B : Nat) : RowsOwn w B [] [] := ⟨rfl, fun i v r h => by simp at h⟩
theorem RowsOwn.snoc {w : World} {B : Nat} {vs : List Value} {rs : List (List H32)} {v : Value} {r : List H32} (h : RowsOwn w B vs rs) (hv : OwnHs w B v r) (hr : ∀ h ∈ r, h.length = 32) : RowsOwn w B (vs ++ [v]) (rs ++ [r]) := by
 refine ⟨by simp [h.1], fun i v' r' h1 h2 => ?_⟩
 rcases Nat.lt_trichotomy i vs.length with hi | hi | hi
 ·rw [List.getElem?_append_left hi] at h1
  rw [List.getElem?_append_left (by rw [← h.1]; exact hi)] at h2
  exact h.2 i v' r' h1 h2
 ·subst hi
  rw [List.getElem?_append_right (Nat.le_refl _), Nat.sub_self] at h1
  rw [h.1, List.getElem?_append_right (Nat.le_refl _), Nat.sub_self] at h2
  simp at h1 h2
  subst h1 h2
  exact ⟨hv, hr⟩
 ·rw [List.getElem?_eq_none (by simp; omega)] at h1; cases h1
/-- A row of slices of one's own. -/
def OutOwn (w : World) (B : Nat) (v : Value) (vs : List Value) : Prop := w.ownsRow B 63 1 v vs.length vs
theorem OutOwn.later {w w' : World} {B : Nat} {v : Value} {vs : List Value} (h : OutOwn w B v vs) (hb : Below w.heap.size w w') : OutOwn w' B v vs := q5y h hb
/-- The two kinds of rows never share a block. -/
theorem q8b {w : World} {B B' : Nat} {v v' : Value} {vs : List Value} {r : List H32} (h : OutOwn w B v vs) (h' : OwnHs w B' v' r) : ∀ b, v'.ownBlock = some b → ¬ v.ownBlock = some b := by
 intro b h1 h2
 rcases h.2 with ⟨rfl, _⟩ | ⟨g, cap, cur, rfl, _, hg, _⟩
 ·cases h2
 ·rcases h'.2 with ⟨rfl, _⟩ | ⟨g', cap', cur', rfl, _, hg', _⟩
  ·cases h1
  ·simp only [Value.ownBlock, Option.some.injEq] at h1 h2
   subst h1
   subst h2
   rw [hg] at hg'
   simp only [Option.some.injEq, Obj.cells.injEq] at hg'
   exact absurd hg'.2.1 (by decide)
theorem sliceElem : ElemOf Tryz.prog 129 63 1 24 := by
 obtain ⟨i, hi, h⟩ := Option.map_eq_some_iff.1 (show (Tryz.prog.info? 63).map (fun i => (i.size, i.bytes, i.zero.map (·.cells.size))) = some (1, 24, some 1) by kernel_rfl)
 simp only [Prod.mk.injEq] at h
 obtain ⟨z, hz, hzs⟩ := Option.map_eq_some_iff.1 h.2.2
 exact ⟨Tryz.underlying129, by decide, i, z, hi, hz, h.1, h.2.1, hzs⟩
theorem x6t (l : List H32) (k : Nat) (h : k < l.length) : (l.map leafL).take (k + 1) = (l.map leafL).take k ++ [leafL (l.getD k [])] := by
 have h' : k < (l.map leafL).length := by rw [List.length_map]; exact h
 rw [List.take_succ_eq_append_getElem h']
 simp [h]
theorem x8m (l : List H32) (k : Nat) (h : 2 * k < l.length) : (upL l).take (k + 1) = (upL l).take k ++ [if 2 * k + 1 < l.length then pairL (l.getD (2 * k) []) (l.getD (2 * k + 1) []) else l.getD (2 * k) []] := by
 have hk : k < (upL l).length := by rw [q4z]; omega
 have hg := x0q l k (by omega)
 rw [List.take_succ_eq_append_getElem hk, ← hg]
 simp [hk]
theorem j6x (w : World) (v : Value) (t : TypeId) : ∀ j u, ([v] : List Value)[j]? = some u → (w.alloc (.cells #[v] t)).cell? ((⟨w.heap.size, 0, none⟩ : Addr).add j) = some u := by
 intro j u hu
 have := Cells.arr (Arr.new w [v] t) j u hu
 rw [Cells.add]
 exact this
theorem RowsOwn.touch {S : Nat → Prop} {w w' : World} {B : Nat} {vs : List Value} {rs : List (List H32)} (h : RowsOwn w B vs rs) (ht : Touch S w w') (hS : ∀ v r, OwnHs w B v r → ∀ b, v.ownBlock = some b → ¬ S b) : RowsOwn w' B vs rs :=
 ⟨h.1, fun i v r h1 h2 => ⟨q2m (h.2 i v r h1 h2).1 ht (hS v r (h.2 i v r h1 h2).1), (h.2 i v r h1 h2).2⟩⟩
/-- What Rows hands back. -/
def RowsVal (w : World) (rs : List (List H32)) (e : Ending) (w' : World) : Prop := ∃ v vs, e = .returned v ∧ OutOwn w' w.heap.size v vs ∧ RowsOwn w' w.heap.size vs rs ∧ Below w.heap.size w w'
theorem j9i (v : Value) (l : List H32) (w : World) (hv0 : Hs w v l) (hm : l.length ≤ 300000) :
    Calls Tryz.prog 92 #[v] w (RowsVal w (rowsL l)) := by
  obtain ⟨a, cap, rfl, hc1, hc2, hc0⟩ := hv0.shape
  obtain ⟨n, hn⟩ : ∃ n, n = l.length := ⟨_, rfl⟩
  have HN := hide hn
  have h32 : ∀ h ∈ l.map leafL, h.length = 32 := fun h hh => by obtain ⟨y, _, rfl⟩ := List.mem_map.1 hh; exact q4l y
  rw [← hn] at hc1 hm ⊢
  clear hn
  go_enter Tryz.func92, Tryz.ntmps92
  go_wp2_with fail
  go_loopw [3, 4] (fun row i wr => ∃ (k : Nat) (vr : Value), k ≤ n ∧ i = .int .i64 k ∧ row = vr ∧ OwnHs wr w.heap.size vr ((l.map leafL).take k) ∧ Below w.heap.size w wr) (fun _ i _ => n - (RowKit.intOf i).toNat)
  case atStart => exact ⟨0, _, by omega, rfl, rfl, World.ownsRow_nil _ _ _ _, Below.refl _ _⟩
  case round =>
    obtain ⟨k, vr, hk, rfl, hvr, hown, b⟩ := hrel
    have hvl := hv0.later b
    by_cases hlt : k < n
    · obtain ⟨bb, k0, cap', hv, _, _, _, hcs0⟩ := hvl.block (by rw [← HN.out]; omega)
      simp only [Value.slice.injEq] at hv
      obtain ⟨rfl, _, rfl⟩ := hv
      have c0 := hcs0 k (by rw [← HN.out]; omega)
      have l0 : (l.getD k []).length = 32 := hvl.2 _ (by rw [List.getD_eq_getElem?_getD, List.getElem?_eq_getElem (by rw [← HN.out]; omega)]; exact List.getElem_mem _)
      have hT := x6t l k (by rw [← HN.out]; omega)
      generalize l.getD k [] = x at *
      have HT := hide hT
      have L0 := hide l0
      have HP := hide (fun w => j9y x l0 w)
      have HLX := hide (q4l x)
      have hlen : ((l.map leafL).take k).length = k := by rw [List.length_take, List.length_map, ← HN.out]; omega
      have HLEN := hide hlen
      subst hvr
      clear hcs0 hT l0 hlen
      go_wp2_with (refine q0h rfl _ rfl rfl c0 L0.out ?_)
      refine (HP.out _).mono ?_
      rintro _ wc1 ⟨rfl, hc1⟩
      replace hown := hown.later hc1
      replace b := later b hc1
      clear hc1
      go_wp2_with (first
        | (refine q8p rfl 1 _ rfl [leafL x] rfl (by simp only [List.map_toArray, List.map_cons, List.map_nil]; rfl) (by intro h hh; simp at hh; subst hh; exact HLX.out) (by decide) (by decide) ?_; intro w4 hs4 hb4 hz4; replace hown := hown.later hb4; replace b := later b hb4; clear hb4)
        | (refine q6c rfl _ _ rfl rfl hown rfl hs4 k HLEN.out (by rw [HLEN.out]; omega) b.size ?_; intro a' c' w5 hown5 ht5 hb5; have b5 := b.trans (ht5.below b.size (fun x hx => (World.ownsRow.lt hown x hx).1))))
      rw [← HT.out] at hown5
      clear ht5 hb5
      go_roundw
      case rel => exact ⟨k + 1, _, by omega, by simp, rfl, hown5, b5⟩
      case measure => simp [RowKit.intOf]; omega
    · have hkn : k = n := by omega
      subst hkn
      subst hvr
      rw [List.take_of_length_le (by rw [List.length_map, HN.out]; omega)] at hown
      have hr0 : (l.map leafL).length ≤ 300000 := by rw [List.length_map, ← HN.out]; exact hm
      have hrf : (l.map leafL).length ≤ k := by rw [List.length_map, ← HN.out]; exact Nat.le_refl _
      obtain ⟨R0, hR0⟩ : ∃ R0, R0 = rowsOf k (l.map leafL) := ⟨_, rfl⟩
      have hcase : Hid (rowsL l = if k = 0 then [[noneL]] else R0) := by
        unfold Hid rowsL
        rw [hR0, ← HN.out]
        by_cases h0 : l = []
        · subst h0; rw [if_pos rfl, if_pos (by rw [HN.out]; rfl)]
        · rw [if_neg h0, if_neg (by rw [HN.out]; intro h1; exact h0 (List.eq_nil_of_length_eq_zero h1))]
      have HRS0 : Hid ([] ++ rowsOf k (l.map leafL) = R0) := hR0.symm
      have hne0 : 0 < k → 0 < (l.map leafL).length := fun h => by rw [List.length_map, ← HN.out]; exact h
      clear hR0
      go_wp2_with fail
      go_loopw [3, 5] (fun row out wr => ∃ (r : List H32) (f : Nat) (acc : List (List H32)) (vr vo : Value) (vs : List Value), row = vr ∧ out = vo ∧ OwnHs wr w.heap.size vr r ∧ (∀ h ∈ r, h.length = 32) ∧ OutOwn wr w.heap.size vo vs ∧ RowsOwn wr w.heap.size vs acc ∧ Below w.heap.size w wr ∧
        r.length ≤ f ∧ r.length ≤ 300000 ∧ acc.length + f ≤ k ∧ (0 < k → 0 < r.length) ∧ (k = 0 → acc = []) ∧ Hid (acc ++ rowsOf f r = R0)) (fun row _ _ => sliceLen row)
      case atStart => exact ⟨l.map leafL, k, [], _, _, [], rfl, rfl, hown, h32, World.ownsRow_nil _ _ _ _, RowsOwn.nil _ _, b, hrf, hr0, by simp, hne0, fun _ => rfl, HRS0⟩
      case round =>
        obtain ⟨r, f, acc, vr, vo, vs, hvr, hvo, hown, h32, hout, hrows, b, hf, hr, haf, hne, hacc, HR⟩ := hrel
        obtain ⟨ar, cr, hs⟩ := q7h hown
        subst hs
        subst hvr
        have hvo' := hvo.symm
        clear hvo
        subst hvo'
        obtain ⟨R, hRl⟩ : ∃ R, R = r.length := ⟨_, rfl⟩
        have HRL := hide hRl
        rw [← hRl] at hown
        by_cases h1 : 1 < r.length
        · have hR' : Hid ((acc ++ [r]) ++ rowsOf (f - 1) (upL r) = R0) := by
            unfold Hid; rw [← HR.out, x4m f r h1 hf, List.append_assoc]; rfl
          have hup := q4z r
          rw [← hRl] at h1 hf hr hne ⊢
          have HUP := hide hup
          have hvl := hrows.1
          have hvs : vs.length + 1 ≤ 300001 := by omega
          clear hup HR hRl hvl
          go_wp2_with (refine q4t (v := vo) rfl _ _ sliceElem rfl rfl (OutOwn.later hout (below1 _ _)) rfl (news := [.slice ar R cr]) rfl (j6x _ _ _) (fun u hu => by simp at hu; subst hu; rfl) (by unfold maxLen; omega) (by omega) (Nat.le_trans b.size (below1 wr _).size) ?_; intro a' c' w5 hout5 ht5 hb5)
          have ht := (q2s (S := fun b => vo.ownBlock = some b) (below1 wr (.cells #[.slice ar R cr] 63))).add ht5 (fun _ h => h)
          have hown5 : OwnHs w5 w.heap.size (.slice ar R cr) r := q2m hown ht (q8b hout hown)
          have hrows5 := (hrows.touch ht (fun v r h => q8b hout h)).snoc hown5 h32
          have b5 := b.trans (ht.below b.size (fun x hx => (World.ownsRow.lt hout x hx).1))
          have hout6 : OutOwn w5 w.heap.size (.slice a' (vs.length + 1) c') (vs ++ [.slice ar R cr]) := by unfold OutOwn; rw [List.length_append]; exact hout5
          have hacl : (acc ++ [r]).length = acc.length + 1 := by simp
          have hacl' : acc.length + 1 + (f - 1) ≤ k := by omega
          have hM : w.heap.size ≤ w5.heap.size := b5.size
          have HACL := hide hacl
          clear ht5 hb5 ht hown hrows b hout hout5 hacl hr0 hrf hne0 HRS0 hvl
          go_loopw [6, 7] (fun nx i wq => ∃ (m : Nat) (vn : Value), i = .int .i64 m ∧ nx = vn ∧ m ≤ R + 1 ∧ Hid (m = 2 * (m / 2)) ∧ OwnHs wq w5.heap.size vn ((upL r).take (m / 2)) ∧ Below w5.heap.size w5 wq) (fun _ i _ => R + 2 - (RowKit.intOf i).toNat)
          case atStart => exact ⟨0, _, rfl, rfl, by omega, by unfold Hid; omega, World.ownsRow_nil _ _ _ _, Below.refl _ _⟩
          case round =>
            obtain ⟨m, vn, rfl, hvn, hmR, HM, hnx, hbq⟩ := hrel
            have hvn' := hvn.symm
            clear hvn
            subst hvn'
            have hrq := (hown5.later hbq).hs h32
            by_cases hmlt : m < R
            · obtain ⟨bb, k0, cap', hv, _, _, _, hcs0⟩ := hrq.block (by rw [← HRL.out]; omega)
              simp only [Value.slice.injEq] at hv
              obtain ⟨rfl, -, rfl⟩ := hv
              have c0 := hcs0 m (by rw [← HRL.out]; omega)
              have l0 : (r.getD m []).length = 32 := hrq.2 _ (by rw [List.getD_eq_getElem?_getD, List.getElem?_eq_getElem (by rw [← HRL.out]; omega)]; exact List.getElem_mem _)
              have hT := x8m r (m / 2) (by rw [← HM.out, ← HRL.out]; exact hmlt)
              have htl : ((upL r).take (m / 2)).length = m / 2 := by rw [List.length_take, HUP.out, ← HRL.out]; have := HM.out; omega
              have HTL := hide htl
              rw [← HM.out, ← HRL.out] at hT
              clear htl
              by_cases hpr : m + 1 < R
              · rw [if_pos hpr] at hT
                have c1 := hcs0 (m + 1) (by rw [← HRL.out]; omega)
                have l1 : (r.getD (m + 1) []).length = 32 := hrq.2 _ (by rw [List.getD_eq_getElem?_getD, List.getElem?_eq_getElem (by rw [← HRL.out]; omega)]; exact List.getElem_mem _)
                generalize r.getD m [] = x at *
                generalize r.getD (m + 1) [] = y at *
                have HT := hide hT
                have HP := hide (fun w => x0n x y l0 l1 w)
                have HPL := hide (q6o x y)
                generalize pairL x y = z at *
                have L0 := hide l0
                have L1 := hide l1
                clear hT l0 l1 hcs0 hrq
                go_wp2_with fail
                refine q1m (fun x => Below (wr).heap.size (wr) x) (.fl [0, 1, 2, 3, 4, 5, 6, 7, 8, 9] 10 (.one [] 11 (.bar [] 12 (.stop [13])))) (by kernel_rfl) (by kernel_rfl) (by kernel_rfl) (by decide) (q3h (Nat.le_refl _)) (Below.refl _ _) ?_
                intro wpl0 _ _ _
                refine q7m ?_
                simp only [pickOps, opAt, List.getElem?_cons_succ, List.getElem?_cons_zero, List.nil_append, List.cons_append]
                repeat ((go_big_quiet_want; first | ((refine q5m _ rfl rfl (by assumption) (by first | exact L0.out | exact L1.out) ?_); simp only [pS]; go_big_quiet_on) | (go_big_quiet_op; go_big_quiet_on)))
                refine wpQuiet_nil ?_
                refine q7p (args := #[hv x, hv y]) (by rfl) rfl (by kernel_rfl) (by simp only [List.map_toArray, List.map_cons, List.map_nil]; rfl) (fun w' hC => HP.out w') ?_
                simp only [pS]
                refine q0w ?_
                simp only [pickOps, opAt, List.getElem?_cons_succ, List.getElem?_cons_zero, List.nil_append, List.cons_append]
                refine wpQuiet_nil ?_
                intro w13 hw13 hk13
                refine q8p rfl 1 _ rfl [z] rfl (by simp only [List.map_toArray, List.map_cons, List.map_nil]; rfl) (by intro h hh; simp at hh; subst hh; exact HPL.out) (by decide) (by decide) ?_
                intro w14 hs14 hb14 hz14
                have hk14 := later hk13 hb14
                refine q6y (q3h (Nat.le_refl _)) hk14 (q2u ?_)
                simp only [pickOps, opAt, List.getElem?_cons_succ, List.getElem?_cons_zero, List.nil_append, List.cons_append]
                refine wpQuiet_nil ?_
                intro w15 hw15 hk15
                have hnx15 := hnx.later (later hk14 hk15)
                have hs15 := hs14.later hk15
                have hb15 := later hbq (later hk14 hk15)
                clear hnx hbq hk13 hk14 hk15 hw13 hw15 hs14 hb14 hz14 c0 c1
                generalize w13.heap.size = g at *
                refine q6c (v := vn) rfl _ _ rfl rfl hnx15 rfl hs15 (m / 2) HTL.out (by rw [HTL.out]; omega) hb15.size ?_
                intro a2 c2 w16 hnx16 ht16 _
                have hb16 := hb15.trans (ht16.below hb15.size (fun x hx => (World.ownsRow.lt hnx15 x hx).1))
                rw [← HT.out] at hnx16
                clear hnx15 hs15 hb15 ht16
                refine q1v (q2l ?_)
                simp only [pickOps, opAt, List.getElem?_cons_succ, List.getElem?_cons_zero, List.nil_append, List.cons_append]
                simp only [pS]
                repeat ((go_big_quiet_want; first | (go_big_quiet_op; go_big_quiet_on)))
                refine wpQuiet_nil ?_
                intro w17 _ hk17
                replace hnx16 := hnx16.later hk17
                replace hb16 := later hb16 hk17
                clear hk17
                have em : (m + 2) / 2 = m / 2 + 1 := by omega
                have HM2 : Hid (m + 2 = 2 * ((m + 2) / 2)) := by unfold Hid; have := HM.out; omega
                have hnx17 : OwnHs w17 w5.heap.size (.slice a2 (m / 2 + 1) c2) ((upL r).take ((m + 2) / 2)) := by rw [em]; exact hnx16
                clear em hnx16
                go_wp2_with fail
                go_roundw
                case rel => exact ⟨m + 2, _, by simp, rfl, by omega, HM2, hnx17, hb16⟩
                case measure => simp [RowKit.intOf]; omega
              · rw [if_neg hpr] at hT
                generalize r.getD m [] = x at *
                have HT := hide hT
                have L0 := hide l0
                clear hT l0 hcs0 hrq
                go_wp2_with (first | (refine q0h rfl _ rfl rfl c0 L0.out ?_) | (refine q8p rfl 1 _ rfl [x] rfl (by simp only [List.map_toArray, List.map_cons, List.map_nil]; rfl) (by intro h hh; simp at hh; subst hh; exact L0.out) (by decide) (by decide) ?_; intro w14 hs14 hb14 hz14; replace hnx := hnx.later hb14; replace hbq := later hbq hb14; clear hb14) | (refine q6c (v := vn) rfl _ _ rfl rfl hnx rfl hs14 (m / 2) HTL.out (by rw [HTL.out]; omega) hbq.size ?_; intro a2 c2 w16 hnx16 ht16 _))
                have hb16 := hbq.trans (ht16.below hbq.size (fun x hx => (World.ownsRow.lt hnx x hx).1))
                rw [← HT.out] at hnx16
                have em : (m + 2) / 2 = m / 2 + 1 := by omega
                have HM2 : Hid (m + 2 = 2 * ((m + 2) / 2)) := by unfold Hid; have := HM.out; omega
                have hnx17 : OwnHs w16 w5.heap.size (.slice a2 (m / 2 + 1) c2) ((upL r).take ((m + 2) / 2)) := by rw [em]; exact hnx16
                clear hnx hs14 hbq ht16 em hnx16
                go_roundw
                case rel => exact ⟨m + 2, _, by simp, rfl, by omega, HM2, hnx17, hb16⟩
                case measure => simp [RowKit.intOf]; omega
            · have hall : (upL r).take (m / 2) = upL r := List.take_of_length_le (by rw [HUP.out, ← HRL.out]; have := HM.out; omega)
              rw [hall] at hnx
              have hnx' : OwnHs wr w.heap.size vn (upL r) := j4f hnx hM
              have hout' := hout6.later hbq
              have hrows' := hrows5.later hbq
              have b' := later b5 hbq
              have hu32 := x1q r h32
              obtain ⟨an, cn, hvne⟩ := q7h hnx'
              have hms : sliceLen vn < R := by rw [hvne, HUP.out, ← HRL.out]; show (R + 1) / 2 < R; omega
              have hq2 : (upL r).length ≤ f - 1 := by rw [HUP.out, ← HRL.out]; omega
              have hq3 : (upL r).length ≤ 300000 := by rw [HUP.out, ← HRL.out]; omega
              have hq4 : 0 < k → 0 < (upL r).length := fun _ => by rw [HUP.out, ← HRL.out]; omega
              have hq5 : (acc ++ [r]).length + (f - 1) ≤ k := by rw [HACL.out]; exact hacl'
              have hq6 : k = 0 → acc ++ [r] = [] := fun h => by omega
              clear hall hnx hvne hown5 hrows5 hout6 b5 hbq hrq
              go_wp2_with fail
              go_roundw
              case rel => exact ⟨upL r, f - 1, acc ++ [r], _, _, _, rfl, rfl, hnx', hu32, hout', hrows', b', hq2, hq3, hq5, hq4, hq6, hR'⟩
              case measure => exact hms
        · have hr1 : rowsOf f r = [r] := x2f f r (by omega)
          have hR2 : Hid (acc ++ [r] = R0) := by unfold Hid; rw [← hr1]; exact HR.out
          have hvl := hrows.1
          have hvs : vs.length + 1 ≤ 300001 := by omega
          rw [← hRl] at h1 hf hr hne ⊢
          by_cases h0 : R = 0
          · have hk0 : k = 0 := by omega
            have ha0 : acc = [] := hacc hk0
            have hv0 : vs = [] := List.eq_nil_of_length_eq_zero (by rw [hvl, ha0]; rfl)
            have hc := hcase.out
            rw [if_pos hk0] at hc
            subst hv0
            subst h0
            obtain ⟨N, hN⟩ : ∃ N, N = noneL := ⟨_, rfl⟩
            have HO : Hid (∀ w, Calls Tryz.prog 114 #[.string ⟨#[110, 111, 110, 101]⟩, .slice none 0 0] w fun e w' => e = .returned (hv N) ∧ Below w.heap.size w w') := fun w => by
              rw [hN]; exact z0i tagNone [] _ w (x1s w) (by decide) (by simp) (by simp)
            have HL : Hid (N.length = 32) := by rw [hN]; exact j1y
            rw [← hN] at hc
            have HCR := hide hc
            clear hN hc hR2 HR hcase hrows hown hr1 HRL hRl hvl hne hacc haf hf hr hr0 hrf hne0 HRS0
            go_wp2_with fail
            refine (HO.out _).mono ?_
            rintro _ wc2 ⟨rfl, hc2⟩
            replace hout := hout.later hc2
            replace b := later b hc2
            clear hc2
            go_wp2_with (first | (refine j4n rfl 1 _ rfl [N] rfl (by simp only [List.map_toArray, List.map_cons, List.map_nil]; rfl) (by intro h hh; simp at hh; subst hh; exact HL.out) (by decide) (by decide) ?_; intro w4 hown4 hb4 hz4; replace hown4 := j4f hown4 b.size; replace hout := hout.later hb4; replace b := later b hb4; clear hb4 hz4) | (refine q4t (v := vo) (n := 0) rfl _ _ sliceElem rfl rfl (OutOwn.later hout (below1 _ _)) rfl (news := [_]) rfl (j6x _ _ _) (fun u hu => by simp at hu; subst hu; rfl) (by unfold maxLen; omega) (by omega) (Nat.le_trans b.size (below1 _ _).size) ?_; intro a' c' w5 hout5 ht5 hb5))
            have ht := (q2s (S := fun b => vo.ownBlock = some b) (below1 w4 (.cells #[.slice (some ⟨wc2.heap.size, 0, none⟩) 1 1] 63))).add ht5 (fun _ h => h)
            have hown5 := q2m hown4 ht (q8b hout hown4)
            have hrows5 := (RowsOwn.nil w5 w.heap.size).snoc hown5 (by intro h hh; simp at hh; subst hh; exact HL.out)
            have b5 := b.trans (ht.below b.size (fun x hx => (World.ownsRow.lt hout x hx).1))
            have hout6 : OutOwn w5 w.heap.size (.slice a' (0 + 1) c') ([] ++ [.slice (some ⟨wc2.heap.size, 0, none⟩) 1 1]) := hout5
            clear ht5 hb5 ht hown4 b hout hout5
            go_ret
            exact ⟨_, _, rfl, hout6, by rw [HCR.out]; exact hrows5, b5⟩
          · have hcr : rowsL l = acc ++ [r] := by
              have hk0 : k ≠ 0 := by omega
              have hc := hcase.out
              rw [if_neg hk0] at hc
              rw [hc, hR2.out]
            have HCR := hide hcr
            have h01 : ((R : Int) == 0) = false := beq_eq_false_iff_ne.2 (by omega)
            clear hcr hR2 HR hcase hr1 hRl hvl
            go_wp2_with (refine q4t (v := vo) rfl _ _ sliceElem rfl rfl (OutOwn.later hout (below1 _ _)) rfl (news := [.slice ar R cr]) rfl (j6x _ _ _) (fun u hu => by simp at hu; subst hu; rfl) (by unfold maxLen; omega) (by omega) (Nat.le_trans b.size (below1 wr _).size) ?_; intro a' c' w5 hout5 ht5 hb5)
            have ht := (q2s (S := fun b => vo.ownBlock = some b) (below1 wr (.cells #[.slice ar R cr] 63))).add ht5 (fun _ h => h)
            have hown5 : OwnHs w5 w.heap.size (.slice ar R cr) r := q2m hown ht (q8b hout hown)
            have hrows5 := (hrows.touch ht (fun v r h => q8b hout h)).snoc hown5 h32
            have b5 := b.trans (ht.below b.size (fun x hx => (World.ownsRow.lt hout x hx).1))
            have hout6 : OutOwn w5 w.heap.size (.slice a' (vs.length + 1) c') (vs ++ [.slice ar R cr]) := by unfold OutOwn; rw [List.length_append]; exact hout5
            clear ht5 hb5 ht hown hrows b hout hout5
            go_ret
            exact ⟨_, _, rfl, hout6, by rw [HCR.out]; exact hrows5, b5⟩
/-- What stands in rows handed back. -/
theorem z1u {w : World} {B B' : Nat} {v : Value} {vs : List Value} {rs : List (List H32)} (h1 : OutOwn w B v vs) (h2 : RowsOwn w B' vs rs) (hne : 0 < rs.length) :
  ∃ g cap, v = .slice (some ⟨g, 0, none⟩) rs.length cap ∧ rs.length ≤ cap ∧ ∀ i r, rs[i]? = some r → ∃ a c, w.cell? ⟨g, i, none⟩ = some (.slice a r.length c) ∧ Hs w (.slice a r.length c) r := by
 have hlen := h2.1
 rcases h1.2 with ⟨_, h0⟩ | ⟨g, cap, cur, hv, _, hg, hn, hm, hs, ht⟩
 ·omega
 ·refine ⟨g, cap, by rw [← hlen]; exact hv, by omega, fun i r hi => ?_⟩
  have hil : i < vs.length := by rw [hlen]; exact (List.getElem?_eq_some_iff.1 hi).1
  obtain ⟨u, hu⟩ : ∃ u, vs[i]? = some u := ⟨_, List.getElem?_eq_getElem hil⟩
  obtain ⟨ho, h32⟩ := h2.2 i u r hu hi
  obtain ⟨a, c, rfl⟩ := q7h ho
  refine ⟨a, c, ?_, ho.hs h32⟩
  rw [Nat.mul_one] at ht
  have hgi : cur[i]? = some (.slice a r.length c) := by
   rw [← ht, List.getElem?_take_of_lt hil] at hu
   simpa using hu
  simp [World.cell?, hg, hgi]
theorem j2s : ∀ (f : Nat) (r : List H32), r.length ≤ f → ∃ A r', rowsOf f r = A ++ [r'] ∧ r'.getD 0 [] = topF f r ∧ (0 < r.length → 0 < r'.length) ∧ A.length ≤ f
 | 0, r, h => ⟨[], r, rfl, rfl, fun h => h, by simp⟩
 | f + 1, r, h => by
  by_cases h1 : r.length ≤ 1
  ·exact ⟨[], r, by rw [rowsOf, if_pos h1]; rfl, by rw [topF, if_pos h1], fun h => h, by simp⟩
  ·have hl := q4z r
   obtain ⟨A, r', h2, h3, h4, h5⟩ := j2s f (upL r) (by omega)
   exact ⟨r :: A, r', by rw [rowsOf, if_neg h1, h2]; rfl, by rw [topF, if_neg h1]; exact h3, fun _ => h4 (by omega), by simp; omega⟩
theorem x2s (l : List H32) : ∃ A r', rowsL l = A ++ [r'] ∧ r'.getD 0 [] = topL l ∧ 0 < r'.length ∧ A.length ≤ l.length := by
 unfold rowsL topL
 by_cases h : l = []
 ·rw [if_pos h, if_pos h]
  exact ⟨[], [noneL], rfl, rfl, by simp, by simp⟩
 ·rw [if_neg h, if_neg h]
  obtain ⟨A, r', h2, h3, h4, h5⟩ := j2s l.length (l.map leafL) (by simp)
  exact ⟨A, r', h2, h3, h4 (by rw [List.length_map]; exact List.length_pos_iff.2 h), h5⟩
theorem x0g (v : Value) (l : List H32) (w : World) (hv0 : Hs w v l) (hm : l.length ≤ 300000) :
  Calls Tryz.prog 65 #[v] w fun e w' => e = .returned (hv (treeL l)) ∧ Below w.heap.size w w' := by
 obtain ⟨a, cap, rfl, hc1, hc2, hc0⟩ := hv0.shape
 obtain ⟨R, hR⟩ : ∃ R, R = treeL l := ⟨_, rfl⟩
 obtain ⟨T, hT⟩ : ∃ T, T = topL l := ⟨_, rfl⟩
 have HRR : Hid (∀ w, Calls Tryz.prog 137 #[.int .i64 l.length, hv T] w fun e w' => e = .returned (hv R) ∧ Below w.heap.size w w') := fun w => by rw [hR, hT]; exact j9k l.length _ (by omega) (q7o l) w
 have HL : Hid (R.length = 32) := by rw [hR]; exact q5a _ _
 have HTL : Hid (T.length = 32) := by rw [hT]; exact q7o _
 obtain ⟨A, r', hA, htop, hr0, hAl⟩ := x2s l
 have z := HashAt.zero w
 have b := below1 w (.cells (bvs zero32).toArray 34)
 have hv1 := hv0.later b
 rw [← hT] at htop
 have HTOP := hide htop
 rw [← hR]
 clear hR hT htop
 go_enter Tryz.func65, Tryz.ntmps65
 go_wp2_with fail
 show Calls _ _ _ (w.alloc (.cells (bvs zero32).toArray 34)) _
 generalize w.alloc (.cells (bvs zero32).toArray 34) = W at *
 refine (j9i _ l _ hv1 hm).mono ?_
 rintro _ w1 ⟨v1, vs, rfl, hout, hrows, hb1⟩
 rw [hA] at hrows
 obtain ⟨g, c1, rfl, hgc, hcell⟩ := z1u hout hrows (by simp)
 obtain ⟨a2, c2, hc, hh⟩ := hcell A.length r' (by simp)
 obtain ⟨bb, k0, cap', hve, _, _, _, hcs0⟩ := hh.block hr0
 simp only [Value.slice.injEq] at hve
 obtain ⟨rfl, -, rfl⟩ := hve
 have c0 := hcs0 0 hr0
 rw [Nat.zero_mul, Nat.add_zero, HTOP.out] at c0
 obtain ⟨m, hm'⟩ : ∃ m, m = A.length := ⟨_, rfl⟩
 obtain ⟨q, hq⟩ : ∃ q, q = r'.length := ⟨_, rfl⟩
 have en : (A ++ [r']).length = m + 1 := by rw [List.length_append, hm']; rfl
 rw [en] at hgc ⊢
 rw [← hm'] at hc hAl
 rw [← hq] at hc hr0
 have z1 := z.later hb1
 have b1 := later b hb1
 have ei : ((m : Int) + 1 - 1) = m := by omega
 clear hb1 z b hv0 hv1 hout hrows hcell hh hcs0 en hm' hq hA HTOP
 go_wp2_with ((refine q0h rfl _ rfl rfl c0 HTL.out ?_))
 refine (HRR.out _).mono ?_
 rintro _ wc1 ⟨rfl, hc1⟩
 replace z1 := z1.later hc1
 replace b1 := later b1 hc1
 clear hc1
 have zr := z1.row R HL.out
 have br := q0p (b := w.heap.size) b1 (Nat.le_refl _) (bvs R).toArray
 go_wp2_with (refine q0y rfl _ _ rfl rfl rfl HL.out z1 ?_)
 exact bodyPost_ret (v := hv R) (q2v rfl _ _ rfl zr) rfl ⟨rfl, br⟩
end Go.Proofs.YtbbfnpfkbbpjgaaGreat
