/- A Builder of its own: all but its own blocks and rows of bytes lies as it lay. -/
import Derived.Test.YtbbfnpfkbbpjgaaGreatQHHd7
import Derived.Test.YtbbfnpfkbbpjgaaGreatQHRowE
import Derived.Test.YtbbfnpfkbbpjgaaGreatQHBkR1
import Derived.Test.YtbbfnpfkbbpjgaaGreatQHDeed7
import Derived.Test.YtbbfnpfkbbpjgaaGreatQHBlkM
import Derived.Test.YtbbfnpfkbbpjgaaGreatQHTakeL
namespace Go.Proofs.YtbbfnpfkbbpjgaaGreat
open Go.RowKit Go.Lib
set_option linter.unusedVariables false
set_option linter.unusedSimpArgs false
set_option maxRecDepth 100000
set_option maxHeartbeats 4000000
theorem j2d (b : Nat) (w : World) (h0 : w.cell? ⟨b, 0, none⟩ = some (.pointer none)) (hsh : w.shape? b = some (113, 2)) (hfz : w.frozen? ⟨b, 0, none⟩ = false) :
  Calls Tryz.prog 150 #[.pointer (some ⟨b, 0, none⟩)] w fun e w' => e = .returned (.tuple #[]) ∧ w' = w.setCell ⟨b, 0, none⟩ (.pointer (some ⟨b, 0, none⟩)) := by
 obtain ⟨j, hj, hjs⟩ := Option.map_eq_some_iff.1 sizeBuilder
 go_enter Tryz.func150, Tryz.ntmps150
 go_wp2
 rw [Lib.run_to_unsafe w ⟨b, 0, none⟩ Tryz.underlying111 Tryz.underlying202 hj (by rw [hjs]; decide) hsh (Nat.zero_lt_succ 1)]
 simp only [Result.andThen]
 rw [Oper.upon_value]
 go_wp2
 rw [run_callFunc_extern Tryz.func177 (by kernel_rfl) (by kernel_rfl) (by kernel_rfl) (e := Extern.AbiNoEscape.same) (by kernel_rfl)]
 rw [Lib.run_noEscape]
 simp only [Result.andThen]
 rw [Oper.upon_value]
 go_wp2
 rw [Lib.run_from_unsafe w ⟨b, 0, none⟩ Tryz.underlying202 Tryz.underlying111 hj hsh liesBuilder]
 simp only [Result.andThen]
 rw [Oper.upon_value]
 go_wp2
 go_end0
 exact ⟨rfl, rfl⟩
theorem copyCheckS (B b : Nat) (bs : List Value) (w : World) (h : Lib.IsBuilder 113 5 B b bs w) :
  Calls Tryz.prog 150 #[.pointer (some ⟨b, 0, none⟩)] w fun e w' => e = .returned (.tuple #[]) ∧ (Lib.BuilderAt 113 5 B b (.pointer (some ⟨b, 0, none⟩)) bs w' ∧ Below B w w' ∧ KeepT b w w') := by
 rcases h with h | h
 ·refine (j2d b w h.cell0 h.shape h.frozen0).mono ?_
  rintro e w' ⟨rfl, rfl⟩
  exact ⟨rfl, h.used _, (Below.refl B w).setCell (p := ⟨b, 0, none⟩) h.1 _, KeepT.set _⟩
 ·refine (q6t b w h.cell0).mono ?_
  rintro e w' ⟨rfl, rfl⟩
  exact ⟨rfl, h, Below.refl B _, KeepT.refl _ _⟩
theorem writeStringS (B b : Nat) (bs : List Value) (s : ByteArray) (w : World) (h : Lib.IsBuilder 113 5 B b bs w) (hlen : bs.length + s.size ≤ 140737488355328) (hBw : B ≤ w.heap.size) :
  Calls Tryz.prog 75 #[.pointer (some ⟨b, 0, none⟩), .string s] w fun e w' => e = .returned (.tuple #[.int .i64 s.size, .nilIface]) ∧ (Lib.BuilderAt 113 5 B b (.pointer (some ⟨b, 0, none⟩)) (bs ++ Lib.strCells s) w' ∧ Below B w w' ∧ KeepT b w w') := by
 obtain ⟨i0, hi, hz0, hz1, hz2⟩ := info_parts info8
 go_enter Tryz.func75, Tryz.ntmps75
 go_wp2_with (go_at_call 150; refine (copyCheckS B b bs _ h).mono ?_)
 rintro e w1 ⟨rfl, h1, hb1, hk1⟩
 obtain ⟨hB, v, hbk, hown, hne⟩ := h1
 have c0 : w1.cell? ⟨b, 0, none⟩ = some (.pointer (some ⟨b, 0, none⟩)) := by rw [Lib.cell_of_heap hbk]; rfl
 have c1 : w1.cell? ⟨b, 1, none⟩ = some v := by rw [Lib.cell_of_heap hbk]; rfl
 go_wp2_with (at_builtin; refine Lib.wpList_append_own_string _ rfl _ _ 93 9 rfl B 5 i0 Tryz.underlying93 Tryz.underlying9 hi hz0 hz1 hz2 _ _ _ rfl hown s rfl ?c3 ?c4 ?c5 ?_)
 case c3 => unfold maxLen; omega
 case c4 => omega
 case c5 => have := hb1.size; omega
 intro v' w2 hown' hgrow _
 have hlt : b < w1.heap.size := by
  rcases Nat.lt_or_ge b w1.heap.size with h' | h'
  ·exact h'
  ·simp [Array.getElem?_eq_none h'] at hbk
 have hb2 : w2.heap[b]? = some (.cells #[.pointer (some ⟨b, 0, none⟩), v] 113 (0, 0)) := by
  rw [hgrow.block b hlt (fun e => hne e.symm)]
  exact hbk
 have d0 : w2.cell? ⟨b, 0, none⟩ = some (.pointer (some ⟨b, 0, none⟩)) := by rw [Lib.cell_of_heap hb2]; rfl
 have d1 : w2.cell? ⟨b, 1, none⟩ = some v := by rw [Lib.cell_of_heap hb2]; rfl
 have f1 : w2.frozen? ⟨b, 1, none⟩ = false := Lib.frozen_of_heap hb2 1
 obtain ⟨ao, n', cap, rfl⟩ : ∃ ao n' cap, v' = .slice ao n' cap := by
  rcases hown'.2 with ⟨hv, _⟩ | ⟨g, cap, cur, hv, _⟩
  ·exact ⟨_, _, _, hv⟩
  ·exact ⟨_, _, _, hv⟩
 go_wp2
 go_ret2
 refine ⟨rfl, ?_, ?_, ?_⟩
 ·exact Lib.BuilderAt.put (T := 113) (e := 5) hB hb2 (bs' := bs ++ Lib.strCells s) (by simpa [Lib.strCells_length] using hown') (by decide)
 ·exact (hb1.grown hgrow (by have := hb1.size; omega) (fun k hk => (hown.lt k hk).1)).setCell (p := ⟨b, 1, none⟩) hB _
 ·exact ((hk1.trans (KeepT.grown hown hgrow)).trans (KeepT.set _))
/-- The writer at block g has the bytes s; all that is its own stands from g on. -/
def Wrs (w : World) (g : Nat) (s : List UInt8) : Prop := Lib.IsBuilder 113 5 g g (Lib.byteCells s) w
theorem x4c (g : Nat) (l : List UInt8) (w : World) (h : Wrs w g l) (hl : l ≠ []) :
  Calls Tryz.prog 78 #[.pointer (some ⟨g, 0, none⟩)] w fun e w' => e = .returned (.string ⟨l.toArray⟩) ∧ Below g w w' := by
 have h0 : l.length ≠ 0 := by simpa using hl
 obtain ⟨p, hB, v, hbk, hown, hne⟩ : ∃ p, Lib.BuilderAt 113 5 g g p (Lib.byteCells l) w := by
  rcases h with h | h
  ·exact ⟨_, h⟩
  ·exact ⟨_, h⟩
 rw [Lib.byteCells_length] at hown
 obtain ⟨q, cap, cur, rfl, hbg, hg, hnc, hcm, hcs, htake⟩ : ∃ q cap cur, v = .slice (some ⟨q, 0, none⟩) l.length cap ∧ g ≤ q ∧ w.heap[q]? = some (.cells cur 5 (0, 0)) ∧ l.length ≤ cap ∧ cap ≤ maxLen ∧ cur.size = cap * 1 ∧ cur.toList.take (l.length * 1) = Lib.byteCells l := by
  rcases hown.2 with ⟨_, hz⟩ | ⟨q, cap, cur, hv, r⟩
  ·exact absurd hz h0
  ·exact ⟨q, cap, cur, hv, r⟩
 have c1 : w.drew.cell? ⟨g, 1, none⟩ = some (.slice (some ⟨q, 0, none⟩) l.length cap) := by
  have : w.drew.heap[g]? = some (.cells #[p, .slice (some ⟨q, 0, none⟩) l.length cap] 113 (0, 0)) := hbk
  rw [Lib.cell_of_heap this]; rfl
 have hSD : (Builtin.unsafeSliceData_ #[93] 186 #[.slice (some ⟨q, 0, none⟩) l.length cap]).run Tryz.prog w.drew = .ok (.pointer (some ⟨q, 0, none⟩)) w.drew :=
  Lib.run_unsafeSliceData_row _ _ _ _ _ _ (by omega)
 have hUS : (Builtin.unsafeString_ #[186, 3] 9 #[.pointer (some ⟨q, 0, none⟩), .int .i64 l.length]).run Tryz.prog w.drew = .ok (.string ⟨l.toArray⟩) (w.drew.freeze ⟨q, 0, none⟩ l.length) := by
  refine Lib.run_unsafeString_row w.drew 186 3 9 5 Tryz.underlying186 byteAlone q cur.size (by have hg' : w.drew.heap[q]? = some (.cells cur 5 (0, 0)) := hg; simp [World.shape?, hg']) l hl (by omega) (by unfold maxLen at hcm; omega) ?_
  intro j x hx
  have := hown.cells (g := q) rfl j (.int .u8 x.toNat) (by simp [Lib.byteCells, hx])
  exact this
 have mixed : Tryz.prog.follows .mixedOrders = true := by kernel_rfl
 clear hown htake hcs hne
 go_enter Tryz.func78, Tryz.ntmps78
 go_wp2
 go_region_o
 all_goals (go_wp2; go_ret; exact ⟨rfl, Lib.below_freeze (Below.drew (Below.refl g w)) (p := ⟨q, 0, none⟩) hbg _⟩)
theorem Wrs.later {w w' : World} {g : Nat} {s : List UInt8} (h : Wrs w g s) (hb : Below w.heap.size w w') : Wrs w' g s := q5b h hb
theorem Wrs.lt {w : World} {g : Nat} {s : List UInt8} (h : Wrs w g s) : g < w.heap.size := by
 rcases h with ⟨_, v, h, _⟩ | ⟨_, v, h, _⟩ <;> exact (Array.getElem?_eq_some_iff.1 h).1
theorem j8c (g : Nat) (x : List UInt8) (s : ByteArray) (w : World) (h : Wrs w g x) (hl : x.length + s.size ≤ 140737488355328) :
  Calls Tryz.prog 75 #[.pointer (some ⟨g, 0, none⟩), .string s] w fun e w' => e = .returned (.tuple #[.int .i64 s.size, .nilIface]) ∧ Wrs w' g (x ++ s.data.toList) ∧ Below g w w' ∧ KeepT g w w' := by
 refine (writeStringS g g _ s w h (by rw [Lib.byteCells_length]; exact hl) (Nat.le_of_lt h.lt)).mono ?_
 rintro e w' ⟨he, hb, hB, hK⟩
 refine ⟨he, .inr ?_, hB, hK⟩
 have e : Lib.byteCells (x ++ s.data.toList) = Lib.byteCells x ++ Lib.strCells s := by simp [Lib.byteCells, Lib.strCells]
 rw [e]
 exact hb
theorem wrsZero : (Tryz.prog.info? 113).bind (·.zero) = some (.agg #[.pointer none, .slice none 0 0]) := by kernel_rfl
theorem x2p {ops : Array Oper} {rest : List Oper} {o : Oper} {a : Act} {w : World} {Q : Exit → Act → World → Prop} (hw : Region.wanted o (yielded ops a.tmps) = true) (ho : o.op = .alloc 113)
  (hk : ∀ w2 g, w.heap.size ≤ g → Wrs w2 g [] → Below w.heap.size w w2 → wpList Tryz.prog ops Q rest (a.put o.dst (.pointer (some ⟨g, 0, none⟩))) w2) : wpList Tryz.prog ops Q (o :: rest) a w :=
 q5e hw 113 ho wrsZero (cs := [.pointer none, .slice none 0 0]) rfl (fun w2 g hg h hb => hk w2 g hg (Or.inl ⟨Nat.le_refl _, .slice none 0 0, h, World.ownsRow_nil _ _ _ _, by simp [Value.ownBlock]⟩) hb)
theorem OwnR.keep {w w' : World} {B e sz g : Nat} {v : Value} {els : List (List Value)} (h : OwnR w B e sz v els []) (hk : KeepT g w w') (hne : e ≠ 5) (hg : g < B) : OwnR w' B e sz v els [] := by
 refine ⟨?_, h.2.1, by simp⟩
 obtain ⟨h1, h2⟩ := h.1
 refine ⟨h1, ?_⟩
 rcases h2 with h3 | ⟨q, cap, cur, e1, e2, e3, r⟩
 ·exact .inl h3
 ·exact .inr ⟨q, cap, cur, e1, e2, hk q cur.toList e (by omega) hne (by simpa [Arr] using e3), r⟩
theorem KAt.keep {w w' : World} {g k : Nat} {d : Hd} {v : Value} (h : KAt w k d v) (hk : KeepT g w w') (hn : k ≠ g) : KAt w' k d v := ⟨h.ok, h.one, hk k _ _ hn (by decide) h.arr⟩
def ptB (d : Deed) : List UInt8 := putText (fullL d)
theorem ptB_le {l : List Deed} (hs : sizB l ≤ 32768) (h16 : l.length ≤ 16) (k : Nat) : ((l.take k).flatMap ptB).length ≤ 600000 := by
 have h1 := q3g ptB (l.take k) 32778 (fun d hd => by
  have h2 := x1n (List.mem_of_mem_take hd)
  have h3 := q5i (fullL d)
  unfold ptB
  omega)
 have h2 : (l.take k).length ≤ 16 := by rw [List.length_take]; omega
 have h3 : (l.take k).length * 32778 ≤ 16 * 32778 := Nat.mul_le_mul_right _ h2
 omega
theorem x8j (v : Value) (x : Blk) (w : World) (h : BlkIs w v x) (hn : x.deeds.length ≤ 1000) (hf : ∀ d ∈ x.deeds, d.Fit) :
  Calls Tryz.prog 31 #[v] w fun e w' => e = .returned (.tuple #[.string ⟨(if mayB x = true then putB x else []).toArray⟩, .int .i64 (if mayB x = true then 0 else 2)]) ∧ Below w.heap.size w w' := by
 have HM := hide (fun (w' : World) (hb : Below w.heap.size w w') => j6p v x w' (h.later hb) hn hf)
 obtain ⟨u, rfl, hD, hok⟩ := h
 have HBB := hide (fun (w' : World) (hb : Below w.heap.size w w') => j5n u x.deeds w' (hD.later hb) hn hf)
 obtain ⟨a1, c1, rfl⟩ := hD.shape
 have o1 : (Value.slice a1 x.deeds.length c1).oneCell' = true := rfl
 have HOK := hide hok
 have b := Below.refl w.heap.size w
 by_cases hm : mayB x = true
 ·have hmh := x8i hm
  have hfw := x1x hm
  simp only [fewB, Bool.and_eq_true, decide_eq_true_eq] at hfw
  obtain ⟨hall, h16, hsz⟩ := hfw
  have HPB := hide (ptB_le hsz h16)
  have HPL := hide (q8w hok hmh)
  have HHP : Hid (∀ w, Calls Tryz.prog 74 #[hdV x.head] w fun e w' => e = .returned (.tuple #[.string ⟨(putH x.head).toArray⟩, .int .i64 0]) ∧ Below w.heap.size w w') := fun w => by
   have := x5l x.head hok w
   unfold putHR at this
   rw [if_pos hmh] at this
   exact this
  have hts : ∀ d ∈ x.deeds, (fullL d).length ≤ 32768 := fun d hd => Nat.le_trans (x1n hd) hsz
  have HTS := hide hts
  have HRES : Hid (putB x = (putH x.head ++ putL x.deeds.length) ++ x.deeds.flatMap ptB) := by unfold putB; rw [List.append_assoc]; exact hide rfl
  rw [if_pos hm] at HM
  rw [if_pos hm, if_pos hm]
  rw [hall] at HBB
  clear hm hmh hall hsz hts hD hok hf
  generalize putB x = RES at *
  generalize x.head = d at *
  generalize x.deeds = l at *
  clear x
  obtain ⟨n, hn'⟩ : ∃ n, n = l.length := ⟨_, rfl⟩
  have HN := hide hn'
  rw [← hn'] at HM HBB HRES h16 o1 ⊢
  have HLM : Hid ((l.map txC).length = n) := by rw [List.length_map]; exact hn'.symm
  clear hn hn'
  have HPN := hide (fun w => j9h n w (by omega))
  obtain ⟨s1, hs1⟩ : ∃ u : ByteArray, u = ⟨(putH d).toArray⟩ := ⟨_, rfl⟩
  obtain ⟨s2, hs2⟩ : ∃ u : ByteArray, u = ⟨(putL n).toArray⟩ := ⟨_, rfl⟩
  rw [← hs1] at HHP
  rw [← hs2] at HPN
  have e1 : s1.size = 2320 := by rw [hs1, ← HPL.out]; show (putH d).toArray.size = _; rw [List.size_toArray]
  have e2 : s2.size ≤ 10 := by rw [hs2]; show (putL n).toArray.size ≤ _; rw [List.size_toArray]; exact q0g n
  have z1 : ¬ 9223372036854775807 < s1.size + s2.size := by omega
  have kw : IntKind.u64.wrap (n : Int) = (n : Int) := by rw [IntKind.wrap_u64]; omega
  obtain ⟨Y, hY⟩ : ∃ Y, Y = putH d ++ putL n := ⟨_, rfl⟩
  rw [← hY] at HRES
  have HYS : Hid ((s1 ++ s2).data.toList = Y) := by rw [hs1, hs2, hY]; exact hide (by simp [ByteArray.data_append])
  have hYL : Y.length ≤ 2330 := by
   have := q0g n
   rw [hY, List.length_append, HPL.out]; omega
  have HYN : Hid (Y ≠ []) := by
   intro h0
   have := congrArg List.length h0
   rw [hY, List.length_append, HPL.out] at this
   simp at this
  have hsl : (s1 ++ s2).size ≤ 3000 := by rw [ByteArray.size_append]; omega
  have HSL := hide hsl
  clear hs1 hs2 hY hsl HPL
  have mF1 := True.intro
  have mF2 := True.intro
  go_enter Tryz.func31, Tryz.ntmps31
  go_wp2_with (first | (with_reducible refine w2g ?_; clear mF1; refine q1h rfl _ rfl rfl HOK.out o1 ?_; intro _ g1 hg1 F1 hb; (try replace b := later b hb); clear hb) | (with_reducible refine w16g ?_; refine q0v rfl _ rfl rfl F1 ?_) | (go_at_call 36; refine (HM.out _ b).mono ?_; rintro _ _ ⟨rfl, hc⟩; (try replace F1 := F1.later hc); (try replace b := later b hc); clear hc) | (with_reducible refine w3g ?_; clear mF2; refine x2p rfl rfl ?_; intro _ g2 hg2 F2 hb; have hgw : w.heap.size ≤ g2 := (by have := b.size; omega); have q12 : g1 ≠ g2 := (by have := F1.lt; omega); (try replace F1 := F1.later hb); (try replace b := later b hb); clear hb) | (with_reducible refine w9g ?_; refine q1y rfl _ rfl rfl F1 ?_) | (with_reducible refine w0g ?_; refine q0a rfl 42 _ rfl rfl (KAt.ds F1) (by kernel_rfl) ?_) | (go_at_call 74; refine (HHP.out _).mono ?_; rintro _ _ ⟨rfl, hc⟩; (try replace F1 := F1.later hc); (try replace F2 := F2.later hc); (try replace b := later b hc); clear hc) | (go_at_call 76; refine (HPN.out _).mono ?_; rintro _ _ ⟨rfl, hc⟩; (try replace F1 := F1.later hc); (try replace F2 := F2.later hc); (try replace b := later b hc); clear hc) | (go_at_call 75; refine (j8c g2 [] _ _ F2 (by have := HSL.out; simp only [List.length_nil]; omega)).mono ?_; rintro _ _ ⟨rfl, h1, hc, hk⟩; clear F2; have F2 := h1; clear h1; replace F1 := F1.keep hk q12; replace b := q0u b hc hgw; clear hc hk) | (go_at_call 62; have q2 := F2.lt; refine (HBB.out _ b).mono ?_; rintro _ _ ⟨hx, hc⟩; (try replace F1 := F1.later hc); (try replace F2 := F2.later hc); (try replace b := later b hc); clear hc; replace hx := hx.resolve_right (fun h => by cases h.1); obtain ⟨_, tv, fv, rfl, F3, _⟩ := hx; obtain ⟨aT, cT, rfl⟩ := F3.shape; replace F3 := F3.base (B' := g2 + 1) q2; rw [HLM.out] at F3 ⊢))
  rw [List.nil_append, HYS.out] at F2
  clear HM HBB HHP HPN HYS HSL kw z1
  go_loopw [41] (fun i wr => ∃ k : Nat, i = .int .i64 k ∧ k ≤ n ∧ Wrs wr g2 (Y ++ (l.take k).flatMap ptB) ∧ OwnR wr (g2 + 1) 9 1 (.slice aT n cT) (l.map txC) [] ∧ Below w.heap.size w wr) (fun i _ => n - (RowKit.intOf i).toNat)
  case atStart => exact ⟨0, rfl, by omega, by simpa using F2, F3, b⟩
  clear F2 F3 b F1
  obtain ⟨k, rfl, hk, F2, F3, b⟩ := hrel
  by_cases hlt : k < n
  case pos =>
   obtain ⟨dd, hd⟩ : ∃ d, l[k]? = some d := ⟨_, List.getElem?_eq_getElem (by rw [← HN.out]; exact hlt)⟩
   obtain ⟨bb, k0, c', he, _, hcs⟩ := Sl.block (f := txC) (l := l) F3.sl (by rw [← HN.out]; omega)
   simp only [Value.slice.injEq] at he
   obtain ⟨rfl, -, rfl⟩ := he
   have d1 : wr.cell? ⟨bb, k0 + k * 1, none⟩ = some (.string ⟨(fullL dd).toArray⟩) := (hcs k dd hd).one
   rw [Nat.mul_one] at d1
   have hsd := HTS.out dd (List.mem_of_getElem? hd)
   have HNX := hide (q3m ptB l k dd hd)
   obtain ⟨sF, hsF⟩ : ∃ u : ByteArray, u = ⟨(fullL dd).toArray⟩ := ⟨_, rfl⟩
   obtain ⟨sT, hsT⟩ : ∃ u : ByteArray, u = ⟨(ptB dd).toArray⟩ := ⟨_, rfl⟩
   have hFL : sF.data.toList = fullL dd := by rw [hsF]
   have hFZ : sF.size ≤ 32768 := by rw [hsF]; show (fullL dd).toArray.size ≤ _; rw [List.size_toArray]; exact hsd
   have HPT : Hid (∀ w, Calls Tryz.prog 77 #[.string sF] w fun e w' => e = .returned (.string sT) ∧ Below w.heap.size w w') := fun w => by
    have := q9h sF w (by omega)
    rw [hFL] at this
    rw [hsT]
    exact this
   have HTL : Hid (sT.data.toList = ptB dd) := by rw [hsT]; exact hide rfl
   have hTZ : sT.size ≤ 32778 := by
    have h3 := q5i (fullL dd)
    rw [hsT]; show (ptB dd).toArray.size ≤ _; rw [List.size_toArray]; unfold ptB; omega
   rw [← hsF] at d1
   have hX : (Y ++ (l.take k).flatMap ptB).length ≤ 602330 := by
    have := HPB.out k
    rw [List.length_append]; omega
   have HXL : Hid ((Y ++ (l.take k).flatMap ptB).length + sT.size ≤ 1000000) := hide (by omega)
   clear hcs hd hsd hsF hsT hFL hFZ hX hTZ
   generalize hXe : (Y ++ (l.take k).flatMap ptB) = X at *
   have HXE := hide hXe
   clear hXe
   go_wp2_with (first | (with_reducible refine w0g ?_; refine q0a rfl 9 _ rfl rfl d1 (by kernel_rfl) ?_) | (go_at_call 77; refine (HPT.out _).mono ?_; rintro _ _ ⟨rfl, hc⟩; (try replace F2 := F2.later hc); (try replace F3 := F3.later hc); (try replace b := later b hc); clear hc) | (go_at_call 75; refine (j8c g2 _ _ _ F2 (by have := HXL.out; omega)).mono ?_; rintro _ _ ⟨rfl, h1, hc, hk2⟩; clear F2; have F2 := h1; clear h1; replace F3 := F3.keep hk2 (by decide) (by omega); replace b := q0u b hc hgw; clear hc hk2))
   go_roundw
   case rel => exact ⟨k + 1, by simp, by omega, by rw [HNX.out, ← List.append_assoc, HXE.out, ← HTL.out]; exact F2, F3, b⟩
   case measure => simp [RowKit.intOf]; omega
  obtain rfl : n = k := by omega
  rw [List.take_of_length_le (by rw [← HN.out]; exact Nat.le_refl _), ← HRES.out] at F2
  have HNE : Hid (RES ≠ []) := by
   intro h0
   rw [HRES.out] at h0
   exact HYN.out (List.append_eq_nil_iff.1 h0).1
  go_wp2_with (go_at_call 78; refine (x4c g2 _ _ F2 HNE.out).mono ?_; rintro _ _ ⟨rfl, hc⟩; replace b := q0u b hc hgw; clear hc)
  go_ret2
  exact ⟨rfl, b⟩
 ·rw [if_neg hm] at HM
  rw [if_neg hm, if_neg hm]
  clear hm HBB hD hok hf
  generalize x.head = d at *
  generalize x.deeds.length = n at *
  have mF1 := True.intro
  go_enter Tryz.func31, Tryz.ntmps31
  go_wp2_with (first | (with_reducible refine w2g ?_; clear mF1; refine q1h rfl _ rfl rfl HOK.out o1 ?_; intro _ g1 hg1 F1 hb; (try replace b := later b hb); clear hb) | (with_reducible refine w16g ?_; refine q0v rfl _ rfl rfl F1 ?_) | (go_at_call 36; refine (HM.out _ b).mono ?_; rintro _ _ ⟨rfl, hc⟩; (try replace F1 := F1.later hc); (try replace b := later b hc); clear hc))
  go_ret2
  exact ⟨rfl, b⟩
theorem j5u {S T : Nat → Prop} {w w' : World} (h : Touch S w w') (hs : ∀ x, S x → T x) : Touch T w w' := ⟨h.os, h.tape, h.output, h.size, fun k hk hn => h.block k hk (fun q => hn (hs k q))⟩
/-- v is the deed d, whatever is turned in blocks other than those of D. -/
def Kpd (D : Nat → Prop) (w : World) (v : Value) (d : Deed) : Prop := ∀ w', Touch (fun b => ¬ D b) w w' → DeedIs w' v d
section
variable {D : Nat → Prop} {w w' : World} {v : Value} {d : Deed}
theorem Kpd.now (h : Kpd D w v d) : DeedIs w v d := h w (Touch.refl _ w)
theorem Kpd.touch {S : Nat → Prop} (h : Kpd D w v d) (ht : Touch S w w') (hS : ∀ b, S b → ¬ D b) : Kpd D w' v d := fun w2 h2 => h w2 (Touch.trans (j5u ht hS) h2 (fun x hx => .inl hx))
theorem Kpd.later (h : Kpd D w v d) (hb : Below w.heap.size w w') : Kpd D w' v d := h.touch (q2s (S := fun _ => False) hb) (fun _ h => h.elim)
theorem Kpd.more {D' : Nat → Prop} (h : Kpd D w v d) (hs : ∀ b, D b → D' b) : Kpd D' w v d := fun w2 h2 => h w2 (j5u h2 (fun b hb hd => hb (hs b hd)))
theorem DeedOwn.kpd {B : Nat} (h : DeedOwn w B v d) : ∃ D : Nat → Prop, (∀ b, D b → B ≤ b ∧ b < w.heap.size) ∧ Kpd D w v d := by
 obtain ⟨v1, v2, v3, v4, v5, h0, h1, h2, h3, h4, h5, h6⟩ := h
 refine ⟨fun b => v1.ownBlock = some b ∨ v2.ownBlock = some b ∨ v3.ownBlock = some b ∨ v4.ownBlock = some b ∨ v5.ownBlock = some b, ?_, ?_⟩
 ·intro b hb
  rcases hb with hb | hb | hb | hb | hb
  ·exact ⟨h1.ge b hb, h1.lt b hb⟩
  ·exact ⟨h2.ge b hb, h2.lt b hb⟩
  ·exact ⟨h3.ge b hb, h3.lt b hb⟩
  ·exact ⟨h4.ge b hb, h4.lt b hb⟩
  ·exact ⟨h5.ge b hb, h5.lt b hb⟩
 ·intro w2 ht
  refine ⟨v1, v2, v3, v4, v5, h0, ?_, ?_, ?_, ?_, ?_, h6⟩
  ·exact OwnR.sl (X := []) ⟨q2m h1.1 ht (fun b hb hs => hs (.inl hb)), h1.2.1, by simp⟩
  ·exact OwnR.sl (X := []) ⟨q2m h2.1 ht (fun b hb hs => hs (.inr (.inl hb))), h2.2.1, by simp⟩
  ·exact OwnR.sl (X := []) ⟨q2m h3.1 ht (fun b hb hs => hs (.inr (.inr (.inl hb)))), h3.2.1, by simp⟩
  ·exact OwnR.sl (X := []) ⟨q2m h4.1 ht (fun b hb hs => hs (.inr (.inr (.inr (.inl hb))))), h4.2.1, by simp⟩
  ·exact OwnR.sl (X := []) ⟨q2m h5.1 ht (fun b hb hs => hs (.inr (.inr (.inr (.inr hb))))), h5.2.1, by simp⟩
end
/-- v is a slice of the deeds l, a row of one's own; they stand in blocks of one's own. -/
def DsOwn (w : World) (B : Nat) (v : Value) (l : List Deed) : Prop :=
 ∃ (vs : List (List Value)) (D : Nat → Prop), OwnR w B 29 8 v vs [] ∧ vs.length = l.length ∧ (∀ b, D b → B ≤ b ∧ b < w.heap.size) ∧ (∀ b, v.ownBlock = some b → ¬ D b) ∧
  ∀ (i : Nat) (cs : List Value) (d : Deed), vs[i]? = some cs → l[i]? = some d → Kpd D w (.agg cs.toArray) d
section
variable {w w' : World} {B : Nat} {v : Value} {l : List Deed}
theorem DsOwn.is (h : DsOwn w B v l) : DsIs w v l := by
 obtain ⟨vs, D, h1, h2, _, _, h5⟩ := h
 exact ⟨vs, h1.sl, h2, fun i cs d hi hd => (h5 i cs d hi hd).now⟩
theorem DsOwn.shape (h : DsOwn w B v l) : ∃ a c, v = .slice a l.length c := h.is.shape
theorem DsOwn.nil (w : World) (B : Nat) : DsOwn w B nilD [] := ⟨[], fun _ => False, OwnR.nil _ _ _ _, rfl, fun _ h => h.elim, fun _ _ h => h, by simp⟩
theorem DsOwn.later (h : DsOwn w B v l) (hb : Below w.heap.size w w') : DsOwn w' B v l := by
 obtain ⟨vs, D, h1, h2, h3, h4, h5⟩ := h
 exact ⟨vs, D, h1.later hb, h2, fun b hd => ⟨(h3 b hd).1, Nat.lt_of_lt_of_le (h3 b hd).2 hb.size⟩, h4, fun i cs d hi hd => (h5 i cs d hi hd).later hb⟩
theorem DsOwn.touch {S : Nat → Prop} (h : DsOwn w B v l) (ht : Touch S w w') (hS : ∀ b, S b → b < B) : DsOwn w' B v l := by
 obtain ⟨vs, D, h1, h2, h3, h4, h5⟩ := h
 refine ⟨vs, D, ⟨q2m h1.1 ht (fun b hb hs => ?_), h1.2⟩, h2, fun b hd => ⟨(h3 b hd).1, Nat.lt_of_lt_of_le (h3 b hd).2 ht.size⟩, h4, fun i cs d hi hd => (h5 i cs d hi hd).touch ht (fun b hb hD => ?_)⟩
 ·have := h1.ge b hb
  have := hS b hs
  omega
 ·have := (h3 b hD).1
  have := hS b hb
  omega
theorem DsOwn.tt {g : Nat} (h : DsOwn w B v l) (ht : Touch (fun x => x = g) w w') (hg : g < B) : DsOwn w' B v l := h.touch ht (fun b hb => by have : b = g := hb; omega)
theorem DsOwn.lt (h : DsOwn w B v l) : ∀ b, v.ownBlock = some b → b < w.heap.size := by
 obtain ⟨vs, D, h1, _⟩ := h
 exact h1.lt
theorem DsOwn.ge (h : DsOwn w B v l) : ∀ b, v.ownBlock = some b → B ≤ b := by
 obtain ⟨vs, D, h1, _⟩ := h
 exact h1.ge
end
theorem bdElem : ElemOf Tryz.prog 42 29 8 144 := elOf Tryz.underlying42 (by decide) (by kernel_rfl)
theorem j0m {v1 v2 v3 v4 v5 : Value} (o1 : v1.oneCell' = true) (o2 : v2.oneCell' = true) (o3 : v3.oneCell' = true) (o4 : v4.oneCell' = true) (o5 : v5.oneCell' = true) (f s t : Nat) : ∀ u ∈ deedCs v1 v2 v3 v4 v5 f s t, u.oneCell' = true := by
 intro u hu
 unfold deedCs at hu
 simp only [List.mem_cons, List.not_mem_nil, or_false] at hu
 rcases hu with rfl | rfl | rfl | rfl | rfl | rfl | rfl | rfl
 ·exact o1
 ·exact o2
 ·rfl
 ·rfl
 ·rfl
 ·exact o3
 ·exact o4
 ·exact o5
/-- A literal of one deed. -/
theorem j8n {ops : Array Oper} {rest : List Oper} {o : Oper} {a : Act} {w : World} {Q : Exit → Act → World → Prop} (hw : Region.wanted o (yielded ops a.tmps) = true) (x : Operand) (ho : o.op = .buildSlice 42 1 #[(0, x)]) {v1 v2 v3 v4 v5 : Value} {f s t : Nat} (hx : a.eval x = deedV v1 v2 v3 v4 v5 f s t)
  (o1 : v1.oneCell' = true) (o2 : v2.oneCell' = true) (o3 : v3.oneCell' = true) (o4 : v4.oneCell' = true) (o5 : v5.oneCell' = true)
  (hk : ∀ w2 g, w.heap.size ≤ g → Sl w2 (.slice (some ⟨g, 0, none⟩) 1 1) 8 [deedCs v1 v2 v3 v4 v5 f s t] → Below w.heap.size w w2 → wpList Tryz.prog ops Q rest (a.put o.dst (.slice (some ⟨g, 0, none⟩) 1 1)) w2) : wpList Tryz.prog ops Q (o :: rest) a w :=
 q2q hw bdElem (by decide) x ho (v := deedV v1 v2 v3 v4 v5 f s t) (el := deedCs v1 v2 v3 v4 v5 f s t) hx (by simp [deedV, Value.cells]) rfl (j0m o1 o2 o3 o4 o5 f s t) (fun w2 g hg O hb => hk w2 g hg O.sl hb)
/-- A deed appended to a row of one's own. -/
theorem j1p {ops : Array Oper} {rest : List Oper} {o : Oper} {a : Act} {w : World} {Q : Exit → Act → World → Prop} (hw : Region.wanted o (yielded ops a.tmps) = true) (s x : Operand) (ho : o.op = .call { callee := .builtin .append, args := #[s, x], argTypes := #[42, 42] }) {B Bd : Nat} {v v2 : Value} {l : List Deed} {v1 v2' v3 v4 v5 : Value} {d : Deed} {D2 : Nat → Prop}
  (hs : a.eval s = v) (hown : DsOwn w B v l) (hx : a.eval x = v2) (hxs : Sl w v2 8 [deedCs v1 v2' v3 v4 v5 d.fee d.frm d.til]) (hK : Kpd D2 w (deedV v1 v2' v3 v4 v5 d.fee d.frm d.til) d) (hD2 : ∀ b, D2 b → Bd ≤ b ∧ b < w.heap.size) (hvB : ∀ b, v.ownBlock = some b → b < Bd) (hBd : B ≤ Bd)
  (o1 : v1.oneCell' = true) (o2 : v2'.oneCell' = true) (o3 : v3.oneCell' = true) (o4 : v4.oneCell' = true) (o5 : v5.oneCell' = true) (n : Nat) (hn : l.length + 1 = n) (hm : n ≤ 1000) (hB : B ≤ w.heap.size)
  (hk : ∀ a' c' w', DsOwn w' B (.slice a' n c') (l ++ [d]) → Touch (fun b => v.ownBlock = some b) w w' → wpList Tryz.prog ops Q rest (a.put o.dst (.slice a' n c')) w') : wpList Tryz.prog ops Q (o :: rest) a w := by
 obtain ⟨vs, D, h1, h2, h3, h4, h5⟩ := hown
 refine q0s hw s x bdElem ho hs h1 hx hxs (Els.one rfl (j0m o1 o2 o3 o4 o5 _ _ _)) n (by rw [h2]; exact hn) (by omega) (by omega) hB ?_
 intro a' c' w' O2 ht hbk
 refine hk a' c' w' ⟨vs ++ [deedCs v1 v2' v3 v4 v5 d.fee d.frm d.til], fun b => D b ∨ D2 b, O2, by simp [h2], ?_, ?_, ?_⟩ ht
 ·intro b hb
  have hsz := ht.size
  rcases hb with hb | hb
  ·have := h3 b hb; omega
  ·have := hD2 b hb; omega
 ·intro b hb hD
  rcases hbk with e | e
  ·have hb' := e ▸ hb
   rcases hD with hD | hD
   ·exact h4 b hb' hD
   ·have := hvB b hb'
    have := (hD2 b hD).1
    omega
  ·rw [e] at hb
   have hb2 := Option.some.inj hb
   rcases hD with hD | hD
   ·have := (h3 b hD).2; omega
   ·have := (hD2 b hD).2; omega
 ·intro i cs e hi he
  by_cases hlt : i < vs.length
  ·rw [List.getElem?_append_left hlt] at hi
   rw [List.getElem?_append_left (by omega)] at he
   exact ((h5 i cs e hi he).touch ht (fun b hb hD => h4 b hb hD)).more (fun b hb => .inl hb)
  ·rw [List.getElem?_append_right (by omega)] at hi
   rw [List.getElem?_append_right (by omega)] at he
   have hi0 : i - vs.length = 0 := by have := (List.getElem?_eq_some_iff.1 hi).1; simp at this; omega
   have he0 : i - l.length = 0 := by omega
   rw [hi0] at hi
   rw [he0] at he
   simp only [List.getElem?_cons_zero, Option.some.injEq] at hi he
   subst hi he
   exact (hK.touch ht (fun b hb hD => by have := hvB b hb; have := (hD2 b hD).1; omega)).more (fun b hb => .inr hb)
/-- With st ahead (none: something was wrong) p has read v, and st' is ahead. -/
def Got {α : Type} (p : Rdr α) (st : Option (List UInt8)) (v : α) (st' : Option (List UInt8)) : Prop :=
 (∀ s, st = some s → (∃ r, p s = some (v, r) ∧ st' = some r) ∨ (p s = none ∧ st' = none)) ∧ (st = none → st' = none)
theorem j6j {α : Type} (a : α) (st : Option (List UInt8)) : Got (pureP a) st a st := ⟨fun s h => .inl ⟨s, rfl, h⟩, fun h => h⟩
theorem Got.bind {α β : Type} {p : Rdr α} {q : α → Rdr β} {st st1 st2 : Option (List UInt8)} {a : α} {b : β} (h : Got p st a st1) (k : Got (q a) st1 b st2) : Got (bindP p q) st b st2 := by
 refine ⟨fun s hs => ?_, fun hs => k.2 (h.2 hs)⟩
 rcases h.1 s hs with ⟨r, h1, h2⟩ | ⟨h1, h2⟩
 ·rw [q0l h1]; exact k.1 r h2
 ·rw [q2t h1]; exact .inr ⟨rfl, k.2 h2⟩
theorem Got.last {α β : Type} {p : Rdr α} {f : α → β} {st st1 : Option (List UInt8)} {a : α} (h : Got p st a st1) : Got (bindP p fun a => pureP (f a)) st (f a) st1 := h.bind (j6j _ _)
/-- Too many. -/
theorem x1j {α : Type} (v : α) (st : Option (List UInt8)) : Got (fun _ => none) st v none := ⟨fun _ _ => .inr ⟨rfl, rfl⟩, fun _ => rfl⟩
theorem x6w {α : Type} (p : Rdr α) (v : α) : Got p none v none := ⟨fun _ h => (by cases h), fun _ => rfl⟩
/-- n things more. -/
theorem q5k {α : Type} (p : Rdr α) (st : Option (List UInt8)) : Got (manyP p 0) st [] st := j6j _ _
theorem j1l {α : Type} (p : Rdr α) : ∀ n s, manyP p (n + 1) s = bindP (manyP p n) (fun l => bindP p fun a => pureP (l ++ [a])) s
 | 0, s => by
  show bindP p _ s = bindP (pureP []) _ s
  rw [q0l (show pureP [] s = some ([], s) from rfl)]
  cases h : p s with
  | none => rw [q2t h, q2t h]
  | some x => obtain ⟨a, r⟩ := x; rw [q0l h, q0l h]; rfl
 | n + 1, s => by
  show bindP p (fun a => bindP (manyP p (n + 1)) fun l => pureP (a :: l)) s = bindP (bindP p fun a => bindP (manyP p n) fun l => pureP (a :: l)) _ s
  cases h : p s with
  | none => rw [q2t h, q2t (q2t h)]
  | some x =>
   obtain ⟨a, r⟩ := x
   rw [q0l h]
   have e := j1l p n r
   cases hm : manyP p n r with
   | none =>
    rw [q2t hm] at e
    rw [q2t e, q2t (by rw [q0l h, q2t hm])]
   | some y =>
    obtain ⟨l, t⟩ := y
    rw [q0l hm] at e
    have e2 : bindP p (fun a => bindP (manyP p n) fun l => pureP (a :: l)) s = some (a :: l, t) := by rw [q0l h, q0l hm]; rfl
    rw [q0l e2]
    cases hp : p t with
    | none => rw [q2t hp] at e; rw [q2t e, q2t hp]
    | some z =>
     obtain ⟨b, u⟩ := z
     rw [q0l hp] at e
     rw [q0l e, q0l hp]
     rfl
theorem Got.snoc {α : Type} {p : Rdr α} {n : Nat} {st st1 st2 : Option (List UInt8)} {l : List α} {a : α} (h : Got (manyP p n) st l st1) (k : Got p st1 a st2) : Got (manyP p (n + 1)) st (l ++ [a]) st2 := by
 have e : manyP p (n + 1) = bindP (manyP p n) (fun l => bindP p fun a => pureP (l ++ [a])) := funext (j1l p n)
 rw [e]
 exact h.bind k.last
theorem Got.list {α : Type} {p : Rdr α} {most n : Nat} {st st1 st2 : Option (List UInt8)} {l : List α} (h : Got numP st n st1) (hn : ¬ most < n) (k : Got (manyP p n) st1 l st2) : Got (listP most p) st l st2 :=
 h.bind (by rw [if_neg hn]; exact k)
theorem Got.over {α : Type} {p : Rdr α} {most n : Nat} {st st1 : Option (List UInt8)} (h : Got numP st n st1) (hn : most < n) (l : List α) : Got (listP most p) st l none :=
 h.bind (by rw [if_pos hn]; exact x1j l st1)
/-- What was begun, and was wrong. -/
theorem Got.stop {α : Type} {p : Rdr α} {n k : Nat} {st : Option (List UInt8)} {l : List α} (h : Got (manyP p n) st l none) (m : List α) : Got (manyP p (n + k)) st m none := by
  induction k with
  | zero => exact ⟨fun s hs => by
      rcases h.1 s hs with ⟨r, _, h2⟩ | h2
      · cases h2
      · exact .inr h2, fun _ => rfl⟩
  | succ k ih =>
    refine ⟨fun s hs => .inr ⟨?_, rfl⟩, fun _ => rfl⟩
    rcases ih.1 s hs with ⟨r, _, h2⟩ | ⟨h2, _⟩
    · cases h2
    · show manyP p (n + k + 1) s = none
      rw [j1l, q2t h2]
/-- The end of Take: a deed was read, and nothing is left. -/
theorem j8b {s : List UInt8} {d : Deed} {st : Option (List UInt8)} (h : Got deedP (some s) d st) : takeD s = if st = some [] ∧ mayD d = true then (d, 0) else (deed0, 6) := by
 unfold takeD
 rcases h.1 s rfl with ⟨r, h1, h2⟩ | ⟨h1, h2⟩
 ·rw [h1, h2]
  cases r with
  | nil => simp
  | cons x y => simp
 ·rw [h1, h2]
  simp
end Go.Proofs.YtbbfnpfkbbpjgaaGreat
