/- origin.Take. -/
import Derived.Test.YtbbfnpfkbbpjgaaOBOrigT
import Derived.Test.YtbbfnpfkbbpjgaaOBOrigD
import Derived.Test.YtbbfnpfkbbpjgaaOBDeed9
namespace Go.Proofs.Ytbbfnpfkbbpjgaa
open Go.RowKit Go.Lib
set_option linter.unusedVariables false
set_option linter.unusedSimpArgs false

theorem orbBuilt (s : ByteArray) : Try.prog.built 84 [(0, .string s)] = some #[.string s, .bool false] := by kernel_rfl
theorem orpZero : (Try.prog.info? 82).bind (·.zero) = some (.pointer none) := by kernel_rfl
theorem orpSize : (Try.prog.info? 82).map (·.size) = some 1 := by kernel_rfl
theorem flat1 : ∀ L : List Value, (∀ v ∈ L, v.cells = #[v]) → L.flatMap (fun v => v.cells.toList) = L
  | [], _ => rfl
  | x :: r, h => by
    rw [List.flatMap_cons, h x (by simp), flat1 r (fun v hv => h v (by simp [hv]))]; rfl
/-- Where an origin's first numbers stand. -/
def ptrsL (g : Nat) : List Value := [.pointer (some ⟨g, 0, none⟩), .pointer (some ⟨g, 1, none⟩), .pointer (some ⟨g, 2, none⟩), .pointer (some ⟨g, 3, none⟩), .pointer (some ⟨g, 4, none⟩)]
def PAt (w : World) (p g : Nat) : Prop := Arr w p 85 (ptrsL g)
theorem PAt.later {w w' : World} {p g : Nat} (h : PAt w p g) (hb : Below w.heap.size w w') : PAt w' p g := Arr.later h hb
theorem PAt.tt {w w' : World} {p g g' : Nat} (h : PAt w p g) (ht : Touch (fun y => y = g') w w') (hS : ¬ p = g' := by omega) : PAt w' p g := Arr.touch h ht hS
theorem PAt.lt {w : World} {p g : Nat} (h : PAt w p g) : p < w.heap.size := Arr.lt h
theorem PAt.cell {w : World} {p g k : Nat} (h : PAt w p g) (hk : k < 5) : w.cell? ⟨p, k, none⟩ = some (.pointer (some ⟨g, k, none⟩)) := by
  have hc : k = 0 ∨ k = 1 ∨ k = 2 ∨ k = 3 ∨ k = 4 := by omega
  rcases hc with rfl | rfl | rfl | rfl | rfl <;> exact Arr.cell h (by simp [ptrsL])
theorem ptrInfo : ∃ i z, Try.prog.info? 85 = some i ∧ i.size = 1 ∧ i.zero = some z ∧ z.cells.size = 1 := by
  obtain ⟨i, hi, h1⟩ := Option.map_eq_some_iff.1 (show (Try.prog.info? 85).map (fun i => (i.size, i.zero)) = some (1, some (.pointer none)) by kernel_rfl)
  simp only [Prod.mk.injEq] at h1
  exact ⟨i, _, hi, h1.1, h1.2, rfl⟩
set_option maxRecDepth 100000 in
theorem wpl_ptrs {ops : Array Oper} {rest : List Oper} {o : Oper} {a : Act} {w : World} {Q : Exit → Act → World → Prop} (hw : Region.wanted o (yielded ops a.tmps) = true) (parts : Array (Nat × Operand)) (ho : o.op = .buildSlice 86 5 parts) (gt : Nat)
    (hp : (parts.map fun (i, x) => (i, a.eval x)).toList = (ptrsL gt).zipIdx.map fun x => (x.2, x.1))
    (hk : ∀ w2 g, w.heap.size ≤ g → PAt w2 g gt → Below w.heap.size w w2 → wpList Try.prog ops Q rest (a.put o.dst (.slice (some ⟨g, 0, none⟩) 5 5)) w2) : wpList Try.prog ops Q (o :: rest) a w := by
  obtain ⟨i, z, hi, hs, hz, hzs⟩ := ptrInfo
  refine BigFrame.wpList_want hw fun _ hK => ?_
  have h1 : ∀ v ∈ ptrsL gt, v.cells = #[v] := by
    intro v hv
    simp only [ptrsL, List.mem_cons, List.not_mem_nil, or_false] at hv
    rcases hv with rfl | rfl | rfl | rfl | rfl <;> rfl
  have hr := run_dense (P := Try.prog) w 86 85 1 (ptrsL gt) _ hp i Try.underlying86 hi hs z hz (by intro v hv; rw [h1 v hv]; rfl) (by show 0 < 5 * 1; decide) (by show 5 * 1 ≤ 16777216; decide)
  rw [flat1 _ h1, show (ptrsL gt).length = 5 from rfl] at hr
  unfold Oper.wp execOp
  simp only [ho, Sem.run_bind, hr, Result.andThen_ok]
  exact hK _ _ (hk _ _ (Nat.le_refl _) (by simpa [PAt] using Arr.new w (ptrsL gt) 85) (below1 _ _))
theorem set_u64 {ns : List Nat} {i n : Nat} (h : ∀ x ∈ ns, U64 x) (hn : U64 n) : ∀ x ∈ ns.set i n, U64 x := fun x hx => by
  rcases List.mem_or_eq_of_mem_set hx with h1 | rfl
  · exact h x h1
  · exact hn
theorem set_take {ns : List Nat} {k n : Nat} (h : k < ns.length) : (ns.set k n).take (k + 1) = ns.take k ++ [n] := by
  rw [List.take_succ_eq_append_getElem (by rw [List.length_set]; exact h), List.take_set_of_le (by omega), List.getElem_set_self]
theorem set_mid5 {ns : List Nat} {k n : Nat} (h : 5 + k < ns.length) : ((ns.set (5 + k) n).drop 5).take (k + 1) = (ns.drop 5).take k ++ [n] := by
  rw [List.drop_set, if_neg (by omega), show 5 + k - 5 = k by omega]
  exact set_take (by rw [List.length_drop]; omega)
theorem set_low5 {ns : List Nat} {k n : Nat} : (ns.set (5 + k) n).take 5 = ns.take 5 := List.take_set_of_le (by omega)
theorem ns_split {ns : List Nat} (h : ns.length = 15) : ∃ k e p ra rb ps x y, ps.length = 8 ∧ ns = k :: e :: p :: ra :: rb :: (ps ++ [x, y]) ∧ ns.take 5 = [k, e, p, ra, rb] ∧ (ns.drop 5).take 8 = ps := by
  match ns, h with
  | [n0, n1, n2, n3, n4, n5, n6, n7, n8, n9, n10, n11, n12, n13, n14], _ => exact ⟨n0, n1, n2, n3, n4, [n5, n6, n7, n8, n9, n10, n11, n12], n13, n14, rfl, rfl, rfl, rfl⟩
theorem ns_last {k e p ra rb x y r t : Nat} {ps : List Nat} (h : ps.length = 8) : ((k :: e :: p :: ra :: rb :: (ps ++ [x, y])).set 13 r).set 14 t = k :: e :: p :: ra :: rb :: (ps ++ [r, t]) := by
  match ps, h with
  | [p0, p1, p2, p3, p4, p5, p6, p7], _ => rfl
/-- Five numbers. -/
theorem many5 {α : Type} (f : Nat → Nat → Nat → Nat → Nat → Rdr α) (d : Rdr α) : (bindP numP fun k => bindP numP fun e => bindP numP fun p => bindP numP fun a => bindP numP fun b => f k e p a b) = bindP (manyP numP 5) (fun l => match l with | [k, e, p, a, b] => f k e p a b | _ => d) := by
  funext s
  simp only [manyP]
  cases h1 : numP s with
  | none => simp only [bind_none h1, bind_none (bind_none h1)]
  | some x1 =>
    obtain ⟨k, s1⟩ := x1
    rw [bind_some h1]
    cases h2 : numP s1 with
    | none => simp only [bind_none h2]; rw [bind_none]; simp only [bind_some h1, bind_none (bind_none h2)]
    | some x2 =>
      obtain ⟨e, s2⟩ := x2
      rw [bind_some h2]
      cases h3 : numP s2 with
      | none => simp only [bind_none h3]; rw [bind_none]; simp only [bind_some h1]; rw [bind_none]; simp only [bind_some h2, bind_none (bind_none h3)]
      | some x3 =>
        obtain ⟨p, s3⟩ := x3
        rw [bind_some h3]
        cases h4 : numP s3 with
        | none => simp only [bind_none h4]; rw [bind_none]; simp only [bind_some h1]; rw [bind_none]; simp only [bind_some h2]; rw [bind_none]; simp only [bind_some h3, bind_none (bind_none h4)]
        | some x4 =>
          obtain ⟨a, s4⟩ := x4
          rw [bind_some h4]
          cases h5 : numP s4 with
          | none => simp only [bind_none h5]; rw [bind_none]; simp only [bind_some h1]; rw [bind_none]; simp only [bind_some h2]; rw [bind_none]; simp only [bind_some h3]; rw [bind_none]; simp only [bind_some h4, bind_none (bind_none h5)]
          | some x5 =>
            obtain ⟨b, s5⟩ := x5
            rw [bind_some h5]
            have e5 : bindP numP (fun a => bindP (pureP []) fun l => pureP (a :: l)) s4 = some ([b], s5) := by rw [bind_some h5]; rfl
            have e4 : bindP numP (fun a => bindP (bindP numP fun a => bindP (pureP []) fun l => pureP (a :: l)) fun l => pureP (a :: l)) s3 = some ([a, b], s5) := by rw [bind_some h4, bind_some e5]; rfl
            have e3 : bindP numP (fun a => bindP (bindP numP fun a => bindP (bindP numP fun a => bindP (pureP []) fun l => pureP (a :: l)) fun l => pureP (a :: l)) fun l => pureP (a :: l)) s2 = some ([p, a, b], s5) := by rw [bind_some h3, bind_some e4]; rfl
            have e2 : bindP numP (fun a => bindP (bindP numP fun a => bindP (bindP numP fun a => bindP (bindP numP fun a => bindP (pureP []) fun l => pureP (a :: l)) fun l => pureP (a :: l)) fun l => pureP (a :: l)) fun l => pureP (a :: l)) s1 = some ([e, p, a, b], s5) := by rw [bind_some h2, bind_some e3]; rfl
            have e1 : bindP numP (fun a => bindP (bindP numP fun a => bindP (bindP numP fun a => bindP (bindP numP fun a => bindP (bindP numP fun a => bindP (pureP []) fun l => pureP (a :: l)) fun l => pureP (a :: l)) fun l => pureP (a :: l)) fun l => pureP (a :: l)) fun l => pureP (a :: l)) s = some ([k, e, p, a, b], s5) := by rw [bind_some h1, bind_some e2]; rfl
            rw [bind_some e1]
theorem got_orig {st0 s5 s13 s14 s15 s16 s17 s18 s19 : Option (List UInt8)} {k e p ra rb r t : Nat} {ps : List Nat} {nc : List UInt8} {l1 : List OutT} {l2 : List SeatT} {l3 : List TrustT}
    (G1 : Got (manyP numP 5) st0 [k, e, p, ra, rb] s5) (G2 : Got (manyP numP 8) s5 ps s13) (G3 : Got numP s13 r s14) (G4 : Got numP s14 t s15) (G5 : Got (textP 32) s15 nc s16) (G6 : Got (listP 32 outP) s16 l1 s17) (G7 : Got (listP 16 seatP) s17 l2 s18) (G8 : Got (listP 32 trustP) s18 l3 s19) :
    Got origP st0 ⟨k, e, p, ra, rb, ps, r, t, nc, l1, l2, l3⟩ s19 := by
  unfold origP
  rw [many5 _ (fun _ => none)]
  exact G1.bind (G2.bind (G3.bind (G4.bind (G5.bind (G6.bind (G7.bind (G8.last (f := fun u => (⟨k, e, p, ra, rb, ps, r, t, nc, l1, l2, u⟩ : Orig)))))))))
theorem origOwn_mk {w : World} {B B1 B2 B3 : Nat} {v1 v2 v3 : Value} {k e p ra rb r t : Nat} {ps : List Nat} {nc : List UInt8} {l1 : List OutT} {l2 : List SeatT} {l3 : List TrustT} (O1 : OwnR w B1 48 65 v1 (l1.map outCs) []) (O2 : OwnR w B2 93 67 v2 (l2.map seatCs) []) (O3 : OwnR w B3 97 64 v3 (l3.map trustCs) [])
    (h1 : B ≤ B1) (h2 : B ≤ B2) (h3 : B ≤ B3) (ok : Orig.Ok ⟨k, e, p, ra, rb, ps, r, t, nc, l1, l2, l3⟩) : OrigOwn w B (origV (k :: e :: p :: ra :: rb :: (ps ++ [r, t])) nc v1 v2 v3) ⟨k, e, p, ra, rb, ps, r, t, nc, l1, l2, l3⟩ :=
  ⟨_, _, _, rfl, O1.base h1, O2.base h2, O3.base h3, ok⟩
theorem ns0_u64 : ∀ x ∈ ns0, U64 x := by intro x hx; simp only [ns0, List.mem_cons, List.not_mem_nil, or_false, or_self] at hx; subst hx; decide
theorem orig_ok_of {k e p ra rb r t x y : Nat} {ps : List Nat} {nc : List UInt8} {l1 : List OutT} {l2 : List SeatT} {l3 : List TrustT} (h : ∀ n ∈ (k :: e :: p :: ra :: rb :: (ps ++ [x, y])), U64 n) (hr : U64 r) (ht : U64 t) (hp : ps.length = 8) (hn : nc.length = 32) (h1 : ∀ x ∈ l1, x.Ok) (h2 : ∀ x ∈ l2, x.Ok) (h3 : ∀ x ∈ l3, x.Ok) : Orig.Ok ⟨k, e, p, ra, rb, ps, r, t, nc, l1, l2, l3⟩ :=
  ⟨h _ (by simp), h _ (by simp), h _ (by simp), h _ (by simp), h _ (by simp), hp, fun x hx => h x (by simp [hx]), hr, ht, hn, h1, h2, h3⟩
set_option maxRecDepth 100000 in
set_option maxHeartbeats 12800000 in
theorem oTake_any (s : ByteArray) (w : World) (hs : s.size ≤ 1048576) :
    Calls Try.prog 17 #[.string s] w fun e w' => (∃ v, e = .returned (.tuple #[v, .int .i64 (takeOr s.data.toList).2]) ∧ OrigOwn w' w.heap.size v (takeOr s.data.toList).1) ∧ Below w.heap.size w w' := by
  have HRB := hide (orbBuilt s)
  have HT := hide (fun d st (h : Got origP (some s.data.toList) d st) => takeOr_got h)
  have b := Below.refl w.heap.size w
  generalize hL : s.data.toList = L at *
  have HLs := hide hL
  clear hL
  generalize takeOr L = T at *
  obtain ⟨st0, hst0⟩ : ∃ st0, st0 = some L := ⟨_, rfl⟩
  have HT : Hid (∀ d st, Got origP st0 d st → T = if st = some [] ∧ mayOr d = true then (d, 0) else (orig0, 6)) := by rw [hst0]; exact HT
  have HST := hide hst0
  clear hst0
  have mF8 := True.intro
  have mF2 := True.intro
  have mF1 := True.intro
  go_enter Try.func17, Try.ntmps17
  go_wp2_with (first | (with_reducible show wpList _ _ _ (⟨_, Op.alloc 32, _, _, _, _⟩ :: _) _ _; clear mF8; refine wpl_mk_orig rfl rfl ?_; intro _ g8 hg8 F8 hb; replace b := later b hb; clear hb) | ((with_reducible show wpList _ _ _ (⟨_, Op.build 84 _, _, _, _, _⟩ :: _) _ _); refine wpl_built1 rfl 84 _ rfl rfl (cs := [.string s, .bool false]) HRB.out ?_) | ((with_reducible show wpList _ _ _ (⟨_, Op.box 84 _, _, _, _, _⟩ :: _) _ _); have l8 := F8.lt; have lb := b.size; refine wpl_box rfl 84 _ rfl (v := .agg #[.string s, .bool false]) rfl (cs := [.string s, .bool false]) rfl ?_; intro _ g hg F5x hb; have F5 := RdO.good F5x hs HLs.out; rw [← HST.out] at F5; have h8g : g8 < g := (by omega); clear F5x; replace F8 := F8.later hb; replace b := later b hb; clear hb l8 lb hg) | ((with_reducible show wpList _ _ _ (⟨_, Op.alloc 82, _, _, _, _⟩ :: _) _ _); clear mF1; have l5 := F5.lt; refine wpl_mk rfl 82 rfl orpZero (cs := [.pointer none]) rfl ?_; intro _ c hc F1 hb; have hgc : g < c := (by omega); replace F5 := F5.later hb; replace F8 := F8.later hb; replace b := later b hb; clear hb l5 hc) | ((with_reducible show wpList _ _ _ (⟨_, Op.store 82 _ _, _, _, _, _⟩ :: _) _ _); refine wpl_set_one rfl 82 _ _ rfl (v := .pointer (some ⟨g, 0, none⟩)) rfl rfl F1 (by decide) orpSize rfl rfl ?_; intro _ t1 ht1; clear F1; replace F5 := F5.tt ht1; replace F8 := F8.tt ht1; replace b := below_touch b ht1 (by omega) (Nat.le_refl _); have F1 : One _ c 82 (.pointer (some ⟨g, 0, none⟩)) := t1; have hcg : c ≠ g := (by omega); clear t1 ht1) | (with_reducible show wpList _ _ _ (⟨_, Op.alloc 32, _, _, _, _⟩ :: _) _ _; clear mF2; have l1 := F1.lt; refine wpl_mk_orig rfl rfl ?_; intro _ gt hgt F2 hb; have hct : c < gt := (by omega); replace F1 := F1.later hb; replace F5 := F5.later hb; replace F8 := F8.later hb; replace b := later b hb; clear hb hgt l1) | ((with_reducible show wpList _ _ _ (⟨_, Op.buildSlice _ _ _, _, _, _, _⟩ :: _) _ _); have l2 := F2.lt; refine wpl_ptrs rfl _ rfl gt (by simp only [List.map_toArray, List.map_cons, List.map_nil]; rfl) ?_; intro _ gp hgp F7 hb; have htp : gt < gp := (by omega); (try replace F1 := F1.later hb); (try replace F2 := F2.later hb); (try replace F5 := F5.later hb); (try replace F7 := F7.later hb); (try replace F8 := F8.later hb); (try replace O1 := O1.later hb); (try replace O2 := O2.later hb); (try replace O3 := O3.later hb); replace b := later b hb; clear hb hgp l2))
  go_loopw [19] (fun i wr => ∃ (k : Nat) (ns : List Nat) (sk : Option (List UInt8)), i = .int .i64 k ∧ k ≤ 5 ∧ Hid (∀ x ∈ ns, U64 x) ∧ Hid (Got (manyP numP k) st0 (ns.take k) sk) ∧ RdO wr g sk ∧ One wr c 82 (.pointer (some ⟨g, 0, none⟩)) ∧ OAt wr gt ns zero32 nilS nilS nilS ∧ OAt wr g8 ns0 zero32 nilS nilS nilS ∧ PAt wr gp gt ∧ Below w.heap.size w wr) (fun i _ => 5 - (RowKit.intOf i).toNat)
  case atStart => exact ⟨0, ns0, st0, rfl, by omega, hide ns0_u64, hide (got_none _ _), F5, F1, F2, F8, F7, b⟩
  clear F5 F1 F2 F8 F7 b
  obtain ⟨k, ns, sk, rfl, hk, HU, HK, F5, F1, F2, F8, F7, b⟩ := hrel
  by_cases hlt : k < 5
  case pos =>
    have d1 := F7.cell hlt
    have hnl := F2.len
    have hk15 : k < 15 := by omega
    have HX := hide (fun n => set_take (ns := ns) (k := k) (n := n) (by omega))
    clear hnl
    go_wp2_with (first | (with_reducible show wpList _ _ _ (⟨_, Op.load _ _, _, _, _, _⟩ :: _) _ _; refine wpl_load_one rfl 85 _ rfl rfl d1 (by kernel_rfl) ?_) | (with_reducible show wpList _ _ _ (⟨_, Op.load _ _, _, _, _, _⟩ :: _) _ _; refine wpl_load_one rfl 82 _ rfl rfl (One.cell F1) (by kernel_rfl) ?_) | (go_at_call 52; refine (rdONumber g _ _ F5).mono ?_; rintro _ _ ⟨n, s1, rfl, hl, h1, hg, ht1⟩; clear F5; have F5 := h1; clear h1; replace F1 := F1.tt ht1; replace F2 := F2.tt ht1; (try replace F7 := F7.tt ht1); replace F8 := F8.tt ht1; replace b := below_touch b ht1 (by omega) (Nat.le_refl _); have G1 := hide hg; have K1 := hide hl; clear hg hl ht1) | ((with_reducible show wpList _ _ _ (⟨_, Op.store 23 _ _, _, _, _, _⟩ :: _) _ _); refine wpl_set_onum rfl _ _ rfl rfl rfl (by omega) F2 ?_; intro _ t1 ht1; clear F2; replace F1 := F1.tt ht1; replace F5 := F5.tt ht1; (try replace F7 := F7.tt ht1); replace F8 := F8.tt ht1; replace b := below_touch b ht1 (by omega) (Nat.le_refl _); have F2 := t1; clear t1 ht1))
    first
      | (go_roundw
         case rel => exact ⟨k + 1, ns.set k n, s1, by simp, by omega, hide (set_u64 HU.out K1.out), by rw [HX.out]; exact hide (HK.out.snoc G1.out), F5, F1, F2, F8, F7, b⟩)
      | (refine ⟨?_, ?measure⟩; (repeat apply Exists.intro); refine ⟨?rel, rfl⟩
         case rel => exact ⟨k + 1, ns.set k n, s1, by simp, by omega, hide (set_u64 HU.out K1.out), by rw [HX.out]; exact hide (HK.out.snoc G1.out), F5, F1, F2, F8, F7, b⟩)
    case measure => simp [RowKit.intOf]; omega
  obtain rfl : k = 5 := by omega
  clear hlt hk F7
  obtain ⟨A5, hA5⟩ : ∃ A, A = ns.take 5 := ⟨_, rfl⟩
  rw [← hA5] at HK
  have HA5 := hide hA5
  clear hA5
  go_wp2_with fail
  go_loopw [28] (fun i wr => ∃ (k : Nat) (ns : List Nat) (s13 : Option (List UInt8)), i = .int .i64 k ∧ k ≤ 8 ∧ Hid (A5 = ns.take 5) ∧ Hid (∀ x ∈ ns, U64 x) ∧ Hid (Got (manyP numP k) sk ((ns.drop 5).take k) s13) ∧ RdO wr g s13 ∧ One wr c 82 (.pointer (some ⟨g, 0, none⟩)) ∧ OAt wr gt ns zero32 nilS nilS nilS ∧ OAt wr g8 ns0 zero32 nilS nilS nilS ∧ Below w.heap.size w wr) (fun i _ => 8 - (RowKit.intOf i).toNat)
  case atStart => exact ⟨0, ns, sk, rfl, by omega, HA5, HU, hide (got_none _ _), F5, F1, F2, F8, b⟩
  clear F5 F1 F2 F8 b HU HA5
  obtain ⟨k, ns, s13, rfl, hk, HA5, HU, HK8, F5, F1, F2, F8, b⟩ := hrel
  by_cases hlt : k < 8
  case pos =>
    have hnl := F2.len
    have hk15 : 5 + k < 15 := by omega
    have HX := hide (fun n => set_mid5 (ns := ns) (k := k) (n := n) (by omega))
    clear hnl
    go_wp2_with (first | (with_reducible show wpList _ _ _ (⟨_, Op.load _ _, _, _, _, _⟩ :: _) _ _; refine wpl_load_one rfl 82 _ rfl rfl (One.cell F1) (by kernel_rfl) ?_) | (go_at_call 52; refine (rdONumber g _ _ F5).mono ?_; rintro _ _ ⟨n, s1, rfl, hl, h1, hg, ht1⟩; clear F5; have F5 := h1; clear h1; replace F1 := F1.tt ht1; replace F2 := F2.tt ht1; (try replace F7 := F7.tt ht1); replace F8 := F8.tt ht1; replace b := below_touch b ht1 (by omega) (Nat.le_refl _); have G1 := hide hg; have K1 := hide hl; clear hg hl ht1) | ((with_reducible show wpList _ _ _ (⟨_, Op.store 23 _ _, _, _, _, _⟩ :: _) _ _); refine wpl_set_onum rfl _ _ rfl rfl rfl (by omega) F2 ?_; intro _ t1 ht1; clear F2; replace F1 := F1.tt ht1; replace F5 := F5.tt ht1; (try replace F7 := F7.tt ht1); replace F8 := F8.tt ht1; replace b := below_touch b ht1 (by omega) (Nat.le_refl _); have F2 := t1; clear t1 ht1))
    first
      | (go_roundw
         case rel => exact ⟨k + 1, ns.set (5 + k) n, s1, by simp, by omega, by rw [set_low5]; exact HA5, hide (set_u64 HU.out K1.out), by rw [HX.out]; exact hide (HK8.out.snoc G1.out), F5, F1, F2, F8, b⟩)
      | (refine ⟨?_, ?measure⟩; (repeat apply Exists.intro); refine ⟨?rel, rfl⟩
         case rel => exact ⟨k + 1, ns.set (5 + k) n, s1, by simp, by omega, by rw [set_low5]; exact HA5, hide (set_u64 HU.out K1.out), by rw [HX.out]; exact hide (HK8.out.snoc G1.out), F5, F1, F2, F8, b⟩)
    case measure => simp [RowKit.intOf]; omega
  obtain rfl : k = 8 := by omega
  clear hlt hk
  obtain ⟨n0, n1, n2, n3, n4, ps, x, y, hps, rfl, e1, e2⟩ := ns_split F2.len
  rw [HA5.out, e1] at HK
  rw [e2] at HK8
  have HPS := hide hps
  clear HA5 e1 e2 hps
  go_wp2_with (with_reducible show Code.wp _ (Code.region _ _ true) _ _ _; (try simp only [Act.put, List.setIfInBounds_toArray, List.set_cons_succ, List.set_cons_zero]); fail)
  (try simp only [Act.put, List.setIfInBounds_toArray, List.set_cons_succ, List.set_cons_zero])
  refine region_plan (fun x => One x c 82 (.pointer (some ⟨g, 0, none⟩))) (.one [0, 2] 1 (.one [] 3 (.bar [4] 5 (.bar [6] 7 (.stop []))))) (by kernel_rfl) (by kernel_rfl) (by kernel_rfl) (by decide) (fun _ _ h hb => h.later hb) F1 ?_
  intro _ hb0 _ _
  (try replace F1 := F1.later hb0); (try replace F2 := F2.later hb0); (try replace F5 := F5.later hb0); (try replace F7 := F7.later hb0); (try replace F8 := F8.later hb0); (try replace O1 := O1.later hb0); (try replace O2 := O2.later hb0); (try replace O3 := O3.later hb0); replace b := later b hb0
  clear hb0
  refine plan_one ?_
  simp only [pickOps, opAt, List.getElem?_cons_succ, List.getElem?_cons_zero, List.nil_append, List.cons_append]
  repeat (first | go_big_quiet_skip | (go_big_quiet_want; first | ((with_reducible show Oper.quiet _ ⟨_, Op.load _ _, _, _, _, _⟩ _ _ _); first | (refine quiet_load_one 82 _ rfl rfl (fun w hw => One.cell (Kl.out hw)) (by kernel_rfl) ?_; simp only [Act.put, List.setIfInBounds_toArray, List.set_cons_succ, List.set_cons_zero]; go_big_quiet_on)) | (go_big_quiet_op; first | go_big_quiet_on | (refine ⟨_, fun _ => rfl, ?_⟩; go_big_quiet_on))))
  refine wpQuiet_nil ?_
  intro _ hb _
  (try replace F1 := F1.later hb); (try replace F2 := F2.later hb); (try replace F5 := F5.later hb); (try replace F7 := F7.later hb); (try replace F8 := F8.later hb); (try replace O1 := O1.later hb); (try replace O2 := O2.later hb); (try replace O3 := O3.later hb); replace b := later b hb
  clear hb
  go_wp2_with (go_at_call 52; refine (rdONumber g _ _ F5).mono ?_; rintro _ _ ⟨nr, s14, rfl, hl, h1, hg, ht1⟩; clear F5; have F5 := h1; clear h1; replace F1 := F1.tt ht1; replace F2 := F2.tt ht1; (try replace F7 := F7.tt ht1); replace F8 := F8.tt ht1; replace b := below_touch b ht1 (by omega) (Nat.le_refl _); have G3 := hide hg; have K3 := hide hl; clear hg hl ht1)
  refine goQ_same (fun _ _ h hb => h.later hb) F1 ?_
  (try simp only [Act.put, List.setIfInBounds_toArray, List.set_cons_succ, List.set_cons_zero])
  refine plan_one ?_
  simp only [pickOps, opAt, List.getElem?_cons_succ, List.getElem?_cons_zero, List.nil_append, List.cons_append]
  repeat (first | go_big_quiet_skip | (go_big_quiet_want; first | ((with_reducible show Oper.quiet _ ⟨_, Op.load _ _, _, _, _, _⟩ _ _ _); first | fail) | (go_big_quiet_op; first | go_big_quiet_on | (refine ⟨_, fun _ => rfl, ?_⟩; go_big_quiet_on))))
  refine wpQuiet_nil ?_
  intro _ hb _
  (try replace F1 := F1.later hb); (try replace F2 := F2.later hb); (try replace F5 := F5.later hb); (try replace F7 := F7.later hb); (try replace F8 := F8.later hb); (try replace O1 := O1.later hb); (try replace O2 := O2.later hb); (try replace O3 := O3.later hb); replace b := later b hb
  clear hb
  go_wp2_with (go_at_call 52; refine (rdONumber g _ _ F5).mono ?_; rintro _ _ ⟨nt, s15, rfl, hl, h1, hg, ht1⟩; clear F5; have F5 := h1; clear h1; replace F1 := F1.tt ht1; replace F2 := F2.tt ht1; (try replace F7 := F7.tt ht1); replace F8 := F8.tt ht1; replace b := below_touch b ht1 (by omega) (Nat.le_refl _); have G4 := hide hg; have K4 := hide hl; clear hg hl ht1)
  refine goQ_same (fun _ _ h hb => h.later hb) F1 ?_
  (try simp only [Act.put, List.setIfInBounds_toArray, List.set_cons_succ, List.set_cons_zero])
  refine plan_bar ?_
  simp only [pickOps, opAt, List.getElem?_cons_succ, List.getElem?_cons_zero, List.nil_append, List.cons_append]
  repeat (first | go_big_quiet_skip | (go_big_quiet_want; first | ((with_reducible show Oper.quiet _ ⟨_, Op.load _ _, _, _, _, _⟩ _ _ _); first | fail) | (go_big_quiet_op; first | go_big_quiet_on | (refine ⟨_, fun _ => rfl, ?_⟩; go_big_quiet_on))))
  refine wpQuiet_nil ?_
  intro _ hb _
  (try replace F1 := F1.later hb); (try replace F2 := F2.later hb); (try replace F5 := F5.later hb); (try replace F7 := F7.later hb); (try replace F8 := F8.later hb); (try replace O1 := O1.later hb); (try replace O2 := O2.later hb); (try replace O3 := O3.later hb); replace b := later b hb
  clear hb
  go_wp2_with ((with_reducible show wpList _ _ _ (⟨_, Op.store 23 _ _, _, _, _, _⟩ :: _) _ _); refine wpl_set_onum rfl _ _ rfl rfl rfl (by omega) F2 ?_; intro _ t1 ht1; clear F2; replace F1 := F1.tt ht1; replace F5 := F5.tt ht1; (try replace F7 := F7.tt ht1); replace F8 := F8.tt ht1; replace b := below_touch b ht1 (by omega) (Nat.le_refl _); have F2 := t1; clear t1 ht1)
  refine goB_since ?_
  (try simp only [Act.put, List.setIfInBounds_toArray, List.set_cons_succ, List.set_cons_zero])
  refine plan_bar ?_
  simp only [pickOps, opAt, List.getElem?_cons_succ, List.getElem?_cons_zero, List.nil_append, List.cons_append]
  repeat (first | go_big_quiet_skip | (go_big_quiet_want; first | ((with_reducible show Oper.quiet _ ⟨_, Op.load _ _, _, _, _, _⟩ _ _ _); first | fail) | (go_big_quiet_op; first | go_big_quiet_on | (refine ⟨_, fun _ => rfl, ?_⟩; go_big_quiet_on))))
  refine wpQuiet_nil ?_
  intro _ hb _
  (try replace F1 := F1.later hb); (try replace F2 := F2.later hb); (try replace F5 := F5.later hb); (try replace F7 := F7.later hb); (try replace F8 := F8.later hb); (try replace O1 := O1.later hb); (try replace O2 := O2.later hb); (try replace O3 := O3.later hb); replace b := later b hb
  clear hb
  go_wp2_with ((with_reducible show wpList _ _ _ (⟨_, Op.store 23 _ _, _, _, _, _⟩ :: _) _ _); refine wpl_set_onum rfl _ _ rfl rfl rfl (by omega) F2 ?_; intro _ t1 ht1; clear F2; replace F1 := F1.tt ht1; replace F5 := F5.tt ht1; (try replace F7 := F7.tt ht1); replace F8 := F8.tt ht1; replace b := below_touch b ht1 (by omega) (Nat.le_refl _); have F2 := t1; clear t1 ht1)
  rw [ns_last HPS.out] at F2
  refine goB_since ?_
  (try simp only [Act.put, List.setIfInBounds_toArray, List.set_cons_succ, List.set_cons_zero])
  refine plan_stop ?_
  simp only [pickOps, opAt, List.getElem?_cons_succ, List.getElem?_cons_zero, List.nil_append, List.cons_append]
  repeat (first | go_big_quiet_skip | (go_big_quiet_want; first | ((with_reducible show Oper.quiet _ ⟨_, Op.load _ _, _, _, _, _⟩ _ _ _); first | fail) | (go_big_quiet_op; first | go_big_quiet_on | (refine ⟨_, fun _ => rfl, ?_⟩; go_big_quiet_on))))
  refine wpQuiet_nil ?_
  intro _ hb _
  (try replace F1 := F1.later hb); (try replace F2 := F2.later hb); (try replace F5 := F5.later hb); (try replace F7 := F7.later hb); (try replace F8 := F8.later hb); (try replace O1 := O1.later hb); (try replace O2 := O2.later hb); (try replace O3 := O3.later hb); replace b := later b hb
  clear hb
  go_wp2_with (first | (with_reducible show wpList _ _ _ (⟨_, Op.load _ _, _, _, _, _⟩ :: _) _ _; refine wpl_load_one rfl 82 _ rfl rfl (One.cell F1) (by kernel_rfl) ?_) | (go_at_call 53; refine (rdOHash g _ _ F5).mono ?_; rintro _ _ ⟨nc, s16, rfl, hl, h1, hg, ht1⟩; clear F5; have F5 := h1; clear h1; replace F1 := F1.tt ht1; replace F2 := F2.tt ht1; replace F8 := F8.tt ht1; replace b := below_touch b ht1 (by omega) (Nat.le_refl _); have G5 := hide hg; have K5 := hide hl; clear hg hl ht1) | (with_reducible show wpList _ _ _ (⟨_, Op.store 27 _ _, _, _, _, _⟩ :: _) _ _; refine wpl_set_ononce rfl _ _ rfl rfl rfl K5.out F2 ?_; intro _ t1 ht1; clear F2; replace F1 := F1.tt ht1; replace F5 := F5.tt ht1; replace F8 := F8.tt ht1; replace b := below_touch b ht1 (by omega) (Nat.le_refl _); have F2 := t1; clear t1 ht1) | (go_at_call 54; have lb := F2.lt; refine (otakeOut c g _ 32 _ F1 F5 hcg (by decide)).mono ?_; rintro _ _ ⟨l1, s17, v1, rfl, k1, z1, O1, h1, hg, ht1⟩; clear F5; have F5 := h1; clear h1; obtain ⟨aO1, cO1, rfl⟩ := O1.shape; replace F1 := F1.tt ht1; replace F2 := F2.tt ht1; replace F8 := F8.tt ht1; skip; replace b := below_touch b ht1 (by omega) (Nat.le_refl _); have G6 := hide hg; have K6 := hide k1; have Z6 := hide z1; clear hg k1 z1 ht1) | ((with_reducible show wpList _ _ _ (⟨_, Op.store 28 _ _, _, _, _, _⟩ :: _) _ _); refine wpl_set_ocoins rfl _ _ rfl rfl rfl rfl rfl F2 ?_; intro _ t1 ht1; clear F2; replace F1 := F1.tt ht1; replace F5 := F5.tt ht1; replace F8 := F8.tt ht1; (replace O1 := O1.tg ht1 (by omega)); replace b := below_touch b ht1 (by omega) (Nat.le_refl _); have F2 := t1; clear t1 ht1) | (go_at_call 56; have lb := F2.lt; refine (otakeSeat c g _ 16 _ F1 F5 hcg (by decide)).mono ?_; rintro _ _ ⟨l2, s18, v1, rfl, k1, z1, O2, h1, hg, ht1⟩; clear F5; have F5 := h1; clear h1; obtain ⟨aO2, cO2, rfl⟩ := O2.shape; replace F1 := F1.tt ht1; replace F2 := F2.tt ht1; replace F8 := F8.tt ht1; (replace O1 := O1.tg ht1 (by omega)); replace b := below_touch b ht1 (by omega) (Nat.le_refl _); have G7 := hide hg; have K7 := hide k1; have Z7 := hide z1; clear hg k1 z1 ht1) | ((with_reducible show wpList _ _ _ (⟨_, Op.store 29 _ _, _, _, _, _⟩ :: _) _ _); refine wpl_set_oseats rfl _ _ rfl rfl rfl rfl rfl F2 ?_; intro _ t1 ht1; clear F2; replace F1 := F1.tt ht1; replace F5 := F5.tt ht1; replace F8 := F8.tt ht1; (replace O1 := O1.tg ht1 (by omega); replace O2 := O2.tg ht1 (by omega)); replace b := below_touch b ht1 (by omega) (Nat.le_refl _); have F2 := t1; clear t1 ht1) | (go_at_call 58; have lb := F2.lt; refine (otakeTrust c g _ 32 _ F1 F5 hcg (by decide)).mono ?_; rintro _ _ ⟨l3, s19, v1, rfl, k1, z1, O3, h1, hg, ht1⟩; clear F5; have F5 := h1; clear h1; obtain ⟨aO3, cO3, rfl⟩ := O3.shape; replace F1 := F1.tt ht1; replace F2 := F2.tt ht1; replace F8 := F8.tt ht1; (replace O1 := O1.tg ht1 (by omega); replace O2 := O2.tg ht1 (by omega)); replace b := below_touch b ht1 (by omega) (Nat.le_refl _); have G8 := hide hg; have K8 := hide k1; have Z8 := hide z1; clear hg k1 z1 ht1) | ((with_reducible show wpList _ _ _ (⟨_, Op.store 30 _ _, _, _, _, _⟩ :: _) _ _); refine wpl_set_otrusts rfl _ _ rfl rfl rfl rfl rfl F2 ?_; intro _ t1 ht1; clear F2; replace F1 := F1.tt ht1; replace F5 := F5.tt ht1; replace F8 := F8.tt ht1; (replace O1 := O1.tg ht1 (by omega); replace O2 := O2.tg ht1 (by omega); replace O3 := O3.tg ht1 (by omega)); replace b := below_touch b ht1 (by omega) (Nat.le_refl _); have F2 := t1; clear t1 ht1) | (with_reducible show wpList _ _ _ (⟨_, Op.load 4 _, _, _, _, _⟩ :: _) _ _; generalize hstop : wpList _ _ _ _ _ _ = Gstop))
  obtain ⟨d, hd⟩ : ∃ d : Orig, d = ⟨n0, n1, n2, n3, n4, ps, nr, nt, nc, l1, l2, l3⟩ := ⟨_, rfl⟩
  have HOK : Hid d.Ok := by rw [hd]; exact orig_ok_of HU.out K3.out K4.out HPS.out K5.out K6.out K7.out K8.out
  have HFT : Hid d.Fit := by rw [hd]; exact ⟨Nat.le_trans Z6.out (by decide), Nat.le_trans Z7.out (by decide), Nat.le_trans Z8.out (by decide)⟩
  have HGD : Got origP st0 d s19 := by rw [hd]; exact got_orig HK.out HK8.out G3.out G4.out G5.out G6.out G7.out G8.out
  have HTD := hide (HT.out d s19 HGD)
  have HOW := origOwn_mk (B := g8 + 1) (k := n0) (e := n1) (p := n2) (ra := n3) (rb := n4) (r := nr) (t := nt) (ps := ps) (nc := nc) O1 O2 O3 (by omega) (by omega) (by omega) (by rw [hd] at HOK; exact HOK.out)
  rw [← hd] at HOW
  obtain ⟨q, bb, FA, hq, hbad, hgood⟩ := F5
  obtain ⟨NS, hNS⟩ : ∃ N, N = n0 :: n1 :: n2 :: n3 :: n4 :: (ps ++ [nr, nt]) := ⟨_, rfl⟩
  rw [← hNS] at F2 HOW
  have HOD : Hid (origNs d = NS ∧ d.nonce = nc) := by rw [hd, hNS]; exact ⟨rfl, rfl⟩
  clear O1 O2 O3 G3 G4 G5 G6 G7 G8 HK HK8 K3 K4 K6 K7 K8 Z6 Z7 Z8 hd HGD HT HU HPS hNS
  simp only [List.length_map] at HOW F2
  generalize l1.length = m1 at *
  generalize l2.length = m2 at *
  generalize l3.length = m3 at *
  cases s19 with
  | none =>
    obtain rfl := hbad rfl
    have hR : T = (orig0, 6) := by rw [HTD.out]; exact if_neg (fun h => by cases h.1)
    have HR := hide hR
    clear hbad hgood HTD hR
    rw [← hstop]; clear hstop
    go_wp2_with (first | (with_reducible show wpList _ _ _ (⟨_, Op.load _ _, _, _, _, _⟩ :: _) _ _; refine wpl_load_one rfl 82 _ rfl rfl (One.cell F1) (by kernel_rfl) ?_) | (with_reducible show wpList _ _ _ (⟨_, Op.load _ _, _, _, _, _⟩ :: _) _ _; refine wpl_load_one rfl 4 _ rfl rfl (ORA.c1 FA) (by kernel_rfl) ?_) | (with_reducible show wpList _ _ _ (⟨_, Op.load _ _, _, _, _, _⟩ :: _) _ _; refine wpl_load_one rfl 9 _ rfl rfl (ORA.c0 FA) (by kernel_rfl) ?_) | (with_reducible show wpList _ _ _ (⟨_, Op.binOp _ _ _ _ _, _, _, _, _⟩ :: _) _ _; refine wpl_nes rfl _ _ rfl rfl rfl HE.out ?_) | (with_reducible show wpList _ _ _ (⟨_, Op.load 32 _, _, _, _, _⟩ :: _) _ _; refine wpl_ld_orig rfl _ rfl rfl F2 ?_) | (go_at_call 25; refine (HMY.out _ _ HOW).mono ?_; rintro _ _ ⟨rfl, hc⟩; replace F2 := F2.later hc; replace F8 := F8.later hc; replace HOW := HOW.later hc; replace b := later b hc; clear hc) | ((with_reducible show wpList _ _ _ (⟨_, Op.build _ _, _, _, _, _⟩ :: _) _ _); refine wpl_built0 rfl 32 rfl (cs := origCs ns0 zero32 nilS nilS nilS) origBuilt0 ?_) | ((with_reducible show wpList _ _ _ (⟨_, Op.store _ _ _, _, _, _, _⟩ :: _) _ _); refine wpl_set_orig rfl _ _ rfl rfl (ns := ns0) (nc := zero32) (v1 := nilS) (v2 := nilS) (v3 := nilS) rfl rfl rfl rfl rfl rfl F8 ?_; intro _ t1 ht1; replace b := below_touch b ht1 (by omega) (Nat.le_refl _); clear F8; have F8 := t1; clear t1 ht1))
    refine bodyPost_ret (ret_orig_tmp rfl _ _ _ rfl rfl F8) rfl ?_
    rw [HR.out]
    exact ⟨⟨_, rfl, OrigOwn.nil _ _⟩, b⟩
  | some r =>
    obtain ⟨rfl, hr⟩ := hgood r rfl
    clear hbad hgood
    cases r with
    | cons r0 r1 =>
      have hR : T = (orig0, 6) := by rw [HTD.out]; exact if_neg (fun h => by cases h.1)
      have HE : Hid ((q.toList == ByteArray.toList ⟨#[]⟩) = false) := by
        rw [ByteArray.toList_eq, ByteArray.toList_eq, hr]
        exact hide rfl
      have HR := hide hR
      clear HTD hR hr
      rw [← hstop]; clear hstop
      go_wp2_with (first | (with_reducible show wpList _ _ _ (⟨_, Op.load _ _, _, _, _, _⟩ :: _) _ _; refine wpl_load_one rfl 82 _ rfl rfl (One.cell F1) (by kernel_rfl) ?_) | (with_reducible show wpList _ _ _ (⟨_, Op.load _ _, _, _, _, _⟩ :: _) _ _; refine wpl_load_one rfl 4 _ rfl rfl (ORA.c1 FA) (by kernel_rfl) ?_) | (with_reducible show wpList _ _ _ (⟨_, Op.load _ _, _, _, _, _⟩ :: _) _ _; refine wpl_load_one rfl 9 _ rfl rfl (ORA.c0 FA) (by kernel_rfl) ?_) | (with_reducible show wpList _ _ _ (⟨_, Op.binOp _ _ _ _ _, _, _, _, _⟩ :: _) _ _; refine wpl_nes rfl _ _ rfl rfl rfl HE.out ?_) | (with_reducible show wpList _ _ _ (⟨_, Op.load 32 _, _, _, _, _⟩ :: _) _ _; refine wpl_ld_orig rfl _ rfl rfl F2 ?_) | (go_at_call 25; refine (HMY.out _ _ HOW).mono ?_; rintro _ _ ⟨rfl, hc⟩; replace F2 := F2.later hc; replace F8 := F8.later hc; replace HOW := HOW.later hc; replace b := later b hc; clear hc) | ((with_reducible show wpList _ _ _ (⟨_, Op.build _ _, _, _, _, _⟩ :: _) _ _); refine wpl_built0 rfl 32 rfl (cs := origCs ns0 zero32 nilS nilS nilS) origBuilt0 ?_) | ((with_reducible show wpList _ _ _ (⟨_, Op.store _ _ _, _, _, _, _⟩ :: _) _ _); refine wpl_set_orig rfl _ _ rfl rfl (ns := ns0) (nc := zero32) (v1 := nilS) (v2 := nilS) (v3 := nilS) rfl rfl rfl rfl rfl rfl F8 ?_; intro _ t1 ht1; replace b := below_touch b ht1 (by omega) (Nat.le_refl _); clear F8; have F8 := t1; clear t1 ht1))
      refine bodyPost_ret (ret_orig_tmp rfl _ _ _ rfl rfl F8) rfl ?_
      rw [HR.out]
      exact ⟨⟨_, rfl, OrigOwn.nil _ _⟩, b⟩
    | nil =>
      have HE : Hid ((q.toList == ByteArray.toList ⟨#[]⟩) = true) := by
        rw [ByteArray.toList_eq, ByteArray.toList_eq, hr]
        exact hide rfl
      by_cases hm : mayOr d = true
      · have hR : T = (d, 0) := by rw [HTD.out]; exact if_pos ⟨rfl, hm⟩
        have HR := hide hR
        have HMY := hide (fun v w' (h : OrigOwn w' (g8 + 1) v d) => oMay_any v d w' h.is HFT.out)
        rw [if_pos hm] at HMY
        clear HTD hR hr hm
        rw [← hstop]; clear hstop
        have q2 := F2.o1
        have q3 := F2.o2
        have q4 := F2.o3
        have hn32 := F2.nl
        have hn15 := F2.len
        go_wp2_with (first | (with_reducible show wpList _ _ _ (⟨_, Op.load _ _, _, _, _, _⟩ :: _) _ _; refine wpl_load_one rfl 82 _ rfl rfl (One.cell F1) (by kernel_rfl) ?_) | (with_reducible show wpList _ _ _ (⟨_, Op.load _ _, _, _, _, _⟩ :: _) _ _; refine wpl_load_one rfl 4 _ rfl rfl (ORA.c1 FA) (by kernel_rfl) ?_) | (with_reducible show wpList _ _ _ (⟨_, Op.load _ _, _, _, _, _⟩ :: _) _ _; refine wpl_load_one rfl 9 _ rfl rfl (ORA.c0 FA) (by kernel_rfl) ?_) | (with_reducible show wpList _ _ _ (⟨_, Op.binOp _ _ _ _ _, _, _, _, _⟩ :: _) _ _; refine wpl_nes rfl _ _ rfl rfl rfl HE.out ?_) | (with_reducible show wpList _ _ _ (⟨_, Op.load 32 _, _, _, _, _⟩ :: _) _ _; refine wpl_ld_orig rfl _ rfl rfl F2 ?_) | (go_at_call 25; refine (HMY.out _ _ HOW).mono ?_; rintro _ _ ⟨rfl, hc⟩; replace F2 := F2.later hc; replace F8 := F8.later hc; replace HOW := HOW.later hc; replace b := later b hc; clear hc) | ((with_reducible show wpList _ _ _ (⟨_, Op.store _ _ _, _, _, _, _⟩ :: _) _ _); refine wpl_set_orig rfl _ _ rfl rfl (ns := NS) (nc := nc) rfl hn15 hn32 q2 q3 q4 F8 ?_; intro _ t1 ht1; replace b := below_touch b ht1 (by omega) (Nat.le_refl _); clear F8; have F8 := t1; replace HOW := HOW.tt ht1 (Nat.lt_succ_self _); clear t1 ht1))
        refine bodyPost_ret (ret_orig_tmp rfl _ _ _ rfl rfl F8) rfl ?_
        rw [HR.out]
        exact ⟨⟨_, rfl, HOW.base (by omega)⟩, b⟩
      · have hR : T = (orig0, 6) := by rw [HTD.out]; exact if_neg (fun h => hm h.2)
        have HR := hide hR
        have HMY := hide (fun v w' (h : OrigOwn w' (g8 + 1) v d) => oMay_any v d w' h.is HFT.out)
        rw [if_neg hm] at HMY
        clear HTD hR hr hm
        rw [← hstop]; clear hstop
        go_wp2_with (first | (with_reducible show wpList _ _ _ (⟨_, Op.load _ _, _, _, _, _⟩ :: _) _ _; refine wpl_load_one rfl 82 _ rfl rfl (One.cell F1) (by kernel_rfl) ?_) | (with_reducible show wpList _ _ _ (⟨_, Op.load _ _, _, _, _, _⟩ :: _) _ _; refine wpl_load_one rfl 4 _ rfl rfl (ORA.c1 FA) (by kernel_rfl) ?_) | (with_reducible show wpList _ _ _ (⟨_, Op.load _ _, _, _, _, _⟩ :: _) _ _; refine wpl_load_one rfl 9 _ rfl rfl (ORA.c0 FA) (by kernel_rfl) ?_) | (with_reducible show wpList _ _ _ (⟨_, Op.binOp _ _ _ _ _, _, _, _, _⟩ :: _) _ _; refine wpl_nes rfl _ _ rfl rfl rfl HE.out ?_) | (with_reducible show wpList _ _ _ (⟨_, Op.load 32 _, _, _, _, _⟩ :: _) _ _; refine wpl_ld_orig rfl _ rfl rfl F2 ?_) | (go_at_call 25; refine (HMY.out _ _ HOW).mono ?_; rintro _ _ ⟨rfl, hc⟩; replace F2 := F2.later hc; replace F8 := F8.later hc; replace HOW := HOW.later hc; replace b := later b hc; clear hc) | ((with_reducible show wpList _ _ _ (⟨_, Op.build _ _, _, _, _, _⟩ :: _) _ _); refine wpl_built0 rfl 32 rfl (cs := origCs ns0 zero32 nilS nilS nilS) origBuilt0 ?_) | ((with_reducible show wpList _ _ _ (⟨_, Op.store _ _ _, _, _, _, _⟩ :: _) _ _); refine wpl_set_orig rfl _ _ rfl rfl (ns := ns0) (nc := zero32) (v1 := nilS) (v2 := nilS) (v3 := nilS) rfl rfl rfl rfl rfl rfl F8 ?_; intro _ t1 ht1; replace b := below_touch b ht1 (by omega) (Nat.le_refl _); clear F8; have F8 := t1; clear t1 ht1))
        refine bodyPost_ret (ret_orig_tmp rfl _ _ _ rfl rfl F8) rfl ?_
        rw [HR.out]
        exact ⟨⟨_, rfl, OrigOwn.nil _ _⟩, b⟩
end Go.Proofs.Ytbbfnpfkbbpjgaa
