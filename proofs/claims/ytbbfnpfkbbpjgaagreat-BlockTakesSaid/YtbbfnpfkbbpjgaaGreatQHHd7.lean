/- Package head: Take. -/
import Derived.Test.YtbbfnpfkbbpjgaaGreatQHHd3
import Derived.Test.YtbbfnpfkbbpjgaaGreatQHStep
import Derived.Test.YtbbfnpfkbbpjgaaGreatQHMOnce
import Derived.Test.YtbbfnpfkbbpjgaaGreatQHMBase
import Derived.Test.YtbbfnpfkbbpjgaaGreatQHMOf
namespace Go.Proofs.YtbbfnpfkbbpjgaaGreat
open Go.RowKit Go.Lib
set_option linter.unusedVariables false
set_option linter.unusedSimpArgs false
set_option maxRecDepth 100000
set_option maxHeartbeats 4000000
theorem Rd.tt {w w' : World} {g g' : Nat} {r : List UInt8} (h : Rd w g r) (ht : Touch (fun x => x = g') w w') (hS : ¬ g = g' := by omega) : Rd w' g r := h.touch ht hS
/-- The head that bytes are. -/
def hdOf (L : List UInt8) : Hd := ⟨numL (L.take 8), numL ((L.drop 8).take 8), (L.drop 16).take 32, (L.drop 48).take 32, (L.drop 80).take 32, numL ((L.drop 112).take 8), numL ((L.drop 120).take 8),
 ⟨(L.drop 128).take 32, numL ((L.drop 160).take 8), numL ((L.drop 168).take 8), ⟨((L.drop 176).take 1024).toArray⟩⟩, ⟨((L.drop 1200).take 1120).toArray⟩⟩
theorem q1r (l : List UInt8) : numL (l.take 8) < 18446744073709551616 := by
 have h1 := x5e (l.take 8)
 have h2 : (l.take 8).length ≤ 8 := by rw [List.length_take]; omega
 have h3 : 256 ^ (l.take 8).length ≤ 256 ^ 8 := Nat.pow_le_pow_right (by omega) h2
 omega
theorem x0c {L : List UInt8} (h : L.length = 2320) : (hdOf L).Ok := by
 have k : ∀ i, i + 32 ≤ 2320 → ((L.drop i).take 32).length = 32 := fun i hi => by rw [List.length_take, List.length_drop, h]; omega
 exact ⟨q1r _, q1r _, k 16 (by decide), k 48 (by decide), k 80 (by decide), q1r _, q1r _, ⟨k 128 (by decide), q1r _, q1r _⟩⟩
theorem x3f {P : Program} {ops : Array Oper} {rest : List Oper} {o : Oper} {a : Act} {w : World} {Q : Exit → Act → World → Prop} (hw : Region.wanted o (yielded ops a.tmps) = true) (t : TypeId) (x0 x1 x2 x3 x4 x5 x6 : Operand) (ho : o.op = .build t #[(0, x0), (1, x1), (2, x2), (3, x3), (4, x4), (5, x5), (6, x6)]) {v0 v1 v2 v3 v4 v5 v6 : Value}
  (h0 : a.eval x0 = v0) (h1 : a.eval x1 = v1) (h2 : a.eval x2 = v2) (h3 : a.eval x3 = v3) (h4 : a.eval x4 = v4) (h5 : a.eval x5 = v5) (h6 : a.eval x6 = v6) {cs : List Value} (hc : P.built t [(0, v0), (1, v1), (2, v2), (3, v3), (4, v4), (5, v5), (6, v6)] = some cs.toArray)
  (hk : wpList P ops Q rest (a.put o.dst (.agg cs.toArray)) w) : wpList P ops Q (o :: rest) a w := q8d hw t _ ho (by simp [h0, h1, h2, h3, h4, h5, h6]) hc hk
theorem x2r {P : Program} {ops : Array Oper} {rest : List Oper} {o : Oper} {a : Act} {w : World} {Q : Exit → Act → World → Prop} (hw : Region.wanted o (yielded ops a.tmps) = true) (t : TypeId) (x0 x1 x2 x3 : Operand) (ho : o.op = .build t #[(0, x0), (1, x1), (2, x2), (3, x3)]) {v0 v1 v2 v3 : Value}
  (h0 : a.eval x0 = v0) (h1 : a.eval x1 = v1) (h2 : a.eval x2 = v2) (h3 : a.eval x3 = v3) {cs : List Value} (hc : P.built t [(0, v0), (1, v1), (2, v2), (3, v3)] = some cs.toArray)
  (hk : wpList P ops Q rest (a.put o.dst (.agg cs.toArray)) w) : wpList P ops Q (o :: rest) a w := q8d hw t _ ho (by simp [h0, h1, h2, h3]) hc hk
theorem rtBuilt4 (c s : Nat) (g : ByteArray) {l : List UInt8} (h : l.length = 32) : Tryz.prog.built 47 [(0, hv l), (1, .int .u64 c), (2, .int .u64 s), (3, .string g)] = some (rtCs ⟨l, c, s, g⟩).toArray := by
 obtain ⟨x0, x1, x2, x3, x4, x5, x6, x7, x8, x9, x10, x11, x12, x13, x14, x15, x16, x17, x18, x19, x20, x21, x22, x23, x24, x25, x26, x27, x28, x29, x30, x31, rfl⟩ := q5n h
 clear h
 kernel_rfl
theorem hdBuilt7 (n m s k : Nat) {p q b : List UInt8} (hp : p.length = 32) (hq : q.length = 32) (hb : b.length = 32) :
  Tryz.prog.built 49 [(0, .int .u64 n), (1, .int .u64 m), (2, hv p), (3, hv q), (4, hv b), (5, .int .u64 s), (6, .int .u64 k)] = some (hdCs ⟨n, m, p, q, b, s, k, rt0, ByteArray.empty⟩).toArray := by
 obtain ⟨x0, x1, x2, x3, x4, x5, x6, x7, x8, x9, x10, x11, x12, x13, x14, x15, x16, x17, x18, x19, x20, x21, x22, x23, x24, x25, x26, x27, x28, x29, x30, x31, rfl⟩ := q5n hp
 obtain ⟨y0, y1, y2, y3, y4, y5, y6, y7, y8, y9, y10, y11, y12, y13, y14, y15, y16, y17, y18, y19, y20, y21, y22, y23, y24, y25, y26, y27, y28, y29, y30, y31, rfl⟩ := q5n hq
 obtain ⟨z0, z1, z2, z3, z4, z5, z6, z7, z8, z9, z10, z11, z12, z13, z14, z15, z16, z17, z18, z19, z20, z21, z22, z23, z24, z25, z26, z27, z28, z29, z30, z31, rfl⟩ := q5n hb
 clear hp hq hb
 kernel_rfl
theorem rdZero : (Tryz.prog.info? 176).bind (·.zero) = some (.string ⟨#[]⟩) := by kernel_rfl
theorem x6o (L : List UInt8) (hL : L.length = 2320) (w : World) :
  Calls Tryz.prog 66 #[.string ⟨L.toArray⟩] w fun e w' => e = .returned (.tuple #[hdV (hdOf L), .int .i64 0]) ∧ Below w.heap.size w w' := by
 have HN : Hid (∀ k g w, Rd w g (L.drop k) → k + 8 ≤ 2320 → Calls Tryz.prog 138 #[.pointer (some ⟨g, 0, none⟩)] w fun e w' => e = .returned (.int .u64 (numL ((L.drop k).take 8))) ∧ Rd w' g (L.drop (k + 8)) ∧ Touch (fun b => b = g) w w') := fun k g w h hk => by
  have := j7l g _ w h (by rw [List.length_drop, hL]; omega) (by rw [List.length_drop, hL]; omega)
  rwa [List.drop_drop] at this
 have HH : Hid (∀ k g w, Rd w g (L.drop k) → k + 32 ≤ 2320 → Calls Tryz.prog 139 #[.pointer (some ⟨g, 0, none⟩)] w fun e w' => e = .returned (hv ((L.drop k).take 32)) ∧ Rd w' g (L.drop (k + 32)) ∧ Touch (fun b => b = g) w w') := fun k g w h hk => by
  have := x3e g _ w h (by rw [List.length_drop, hL]; omega) (by rw [List.length_drop, hL]; omega)
  rwa [List.drop_drop] at this
 have HT : Hid (∀ k n g w, Rd w g (L.drop k) → k + n ≤ 2320 → Calls Tryz.prog 140 #[.pointer (some ⟨g, 0, none⟩), .int .i64 n] w fun e w' => e = .returned (.string ⟨((L.drop k).take n).toArray⟩) ∧ Rd w' g (L.drop (k + n)) ∧ Touch (fun b => b = g) w w') := fun k n g w h hk => by
  have := j0z g _ n w h (by rw [List.length_drop, hL]; omega) (by rw [List.length_drop, hL]; omega)
  rwa [List.drop_drop] at this
 have HL : Hid (∀ k, k + 32 ≤ 2320 → ((L.drop k).take 32).length = 32) := fun i hi => by rw [List.length_take, List.length_drop, hL]; omega
 have HOK := hide (x0c hL)
 have HO : Hid (hdOf L = hdOf L) := rfl
 have hz : (⟨L.toArray⟩ : ByteArray).size = 2320 := by show L.toArray.size = 2320; rw [List.size_toArray]; exact hL
 have HS : Hid ((⟨L.toArray⟩ : ByteArray) = ⟨(L.drop 0).toArray⟩) := rfl
 have b := Below.refl w.heap.size w
 clear hL
 generalize hs0 : (⟨L.toArray⟩ : ByteArray) = s at HS hz ⊢
 clear hs0
 have HT1 : Hid (∀ k g w, Rd w g (L.drop k) → k + 1024 ≤ 2320 → Calls Tryz.prog 140 #[.pointer (some ⟨g, 0, none⟩), .int .i64 1024] w fun e w' => e = .returned (.string ⟨((L.drop k).take 1024).toArray⟩) ∧ Rd w' g (L.drop (k + 1024)) ∧ Touch (fun b => b = g) w w') := fun k g w h hk => HT.out k 1024 g w h hk
 have HT2 : Hid (∀ k g w, Rd w g (L.drop k) → k + 1120 ≤ 2320 → Calls Tryz.prog 140 #[.pointer (some ⟨g, 0, none⟩), .int .i64 1120] w fun e w' => e = .returned (.string ⟨((L.drop k).take 1120).toArray⟩) ∧ Rd w' g (L.drop (k + 1120)) ∧ Touch (fun b => b = g) w w') := fun k g w h hk => HT.out k 1120 g w h hk
 clear HT
 have mF1 := True.intro
 have mF2 := True.intro
 have mF6 := True.intro
 go_enter Tryz.func66, Tryz.ntmps66
 go_wp2_with (first | (with_reducible refine w3g ?_; clear mF2; refine q4s rfl rfl ?_; intro _ g2 hg2 F2 hb; (try have := F1.lt); (try have := F2.lt); (try have := F5.lt); (try have := F6.lt); (try have := b.size); (try replace b := later b hb); clear hb) | ((with_reducible show wpList _ _ _ (⟨_, Op.alloc 176, _, _, _, _⟩ :: _) _ _); clear mF1; refine q5e rfl 176 rfl rdZero (cs := [.string ⟨#[]⟩]) rfl ?_; intro _ g4 h4 F1 hb; (try have := F1.lt); (try have := F2.lt); (try have := F5.lt); (try have := F6.lt); (try have := b.size); have l1 := Arr.lt F1; replace F2 := F2.later hb; replace b := later b hb; clear hb) | ((with_reducible show wpList _ _ _ (⟨_, Op.store 176 _ _, _, _, _, _⟩ :: _) _ _); refine q0i rfl 176 _ _ rfl (v := .string s) rfl rfl F1 (by decide) rdSize rfl rfl ?_; intro _ F5 ht; replace F5 : Rd _ g4 (L.drop 0) := (by have h5 := F5; rw [HS.out] at h5; exact h5); replace F2 := F2.tt ht; replace b := q0b b ht (by omega) (by omega); clear ht F1) | (go_at_call 138; refine (HN.out _ _ _ F5 (by decide)).mono ?_; (rintro _ _ ⟨rfl, h1, ht⟩; clear F5; have F5 := h1; clear h1; replace F2 := F2.tt ht; (try replace F6 := F6.tt ht); replace b := q0b b ht (by omega) (by omega); clear ht)) | (go_at_call 139; refine (HH.out _ _ _ F5 (by decide)).mono ?_; (rintro _ _ ⟨rfl, h1, ht⟩; clear F5; have F5 := h1; clear h1; replace F2 := F2.tt ht; (try replace F6 := F6.tt ht); replace b := q0b b ht (by omega) (by omega); clear ht)) | (go_at_call 140; (with_reducible show Calls _ _ #[_, .int .i64 1024] _ _); refine (HT1.out _ _ _ F5 (by decide)).mono ?_; (rintro _ _ ⟨rfl, h1, ht⟩; clear F5; have F5 := h1; clear h1; replace F2 := F2.tt ht; (try replace F6 := F6.tt ht); replace b := q0b b ht (by omega) (by omega); clear ht)) | (go_at_call 140; (with_reducible show Calls _ _ #[_, .int .i64 1120] _ _); refine (HT2.out _ _ _ F5 (by decide)).mono ?_; (rintro _ _ ⟨rfl, h1, ht⟩; clear F5; have F5 := h1; clear h1; replace F2 := F2.tt ht; (try replace F6 := F6.tt ht); replace b := q0b b ht (by omega) (by omega); clear ht)) | ((with_reducible refine w5g ?_); refine x3f rfl 49 _ _ _ _ _ _ _ rfl rfl rfl rfl rfl rfl rfl rfl (hdBuilt7 _ _ _ _ (HL.out _ (by decide)) (HL.out _ (by decide)) (HL.out _ (by decide))) ?_) | ((with_reducible refine w5g ?_); refine x2r rfl 47 _ _ _ _ rfl rfl rfl rfl rfl (rtBuilt4 _ _ _ (HL.out _ (by decide))) ?_) | (with_reducible refine w3g ?_; clear mF6; refine q4s rfl rfl ?_; intro _ g5 hg5 F6 hb; (try have := F1.lt); (try have := F2.lt); (try have := F5.lt); (try have := F6.lt); (try have := b.size); (try replace F2 := F2.later hb); (try replace F5 := F5.later hb); (try replace b := later b hb); clear hb) | (with_reducible refine w0g ?_; first | (refine q4a rfl _ rfl rfl (by assumption) ?_)) | (with_reducible refine w4g ?_; refine q3x rfl _ _ rfl rfl rfl ⟨q1r _, q1r _, HL.out _ (by decide), HL.out _ (by decide), HL.out _ (by decide), q1r _, q1r _, z1j⟩ F6 ?_; intro _ t1 ht; (try replace F2 := F2.tt ht); (try replace F5 := F5.tt ht); (try replace b := q0b b ht (by omega) (by omega)); replace F6 := t1; clear ht) | (with_reducible refine w4g ?_; refine j7e rfl _ _ rfl rfl rfl ⟨HL.out _ (by decide), q1r _, q1r _⟩ F6 ?_; intro _ t1 ht; (try replace F2 := F2.tt ht); (try replace F5 := F5.tt ht); (try replace b := q0b b ht (by omega) (by omega)); replace F6 := t1; clear ht) | (with_reducible refine w4g ?_; refine q9y rfl _ _ rfl rfl rfl F6 ?_; intro _ t1 ht; (try replace F2 := F2.tt ht); (try replace F5 := F5.tt ht); (try replace b := q0b b ht (by omega) (by omega)); replace F6 := t1; clear ht) | (with_reducible refine w4g ?_; refine q3x rfl _ _ rfl rfl rfl (HdAt.ok F6) F2 ?_; intro _ t1 ht; (try replace F5 := F5.tt ht); (try replace F6 := F6.tt ht); (try replace b := q0b b ht (by omega) (by omega)); replace F2 := t1; clear ht))
 exact bodyPost_ret (j5s rfl _ _ _ rfl rfl F2) rfl ⟨rfl, b⟩
theorem q5x (n : Nat) (h : n < 18446744073709551616) : numL (eightL n) = n := by
 have e : eightL n = [UInt8.ofNat (n / 72057594037927936 % 256), UInt8.ofNat (n / 281474976710656 % 256), UInt8.ofNat (n / 1099511627776 % 256), UInt8.ofNat (n / 4294967296 % 256), UInt8.ofNat (n / 16777216 % 256), UInt8.ofNat (n / 65536 % 256), UInt8.ofNat (n / 256 % 256), UInt8.ofNat (n / 1 % 256)] := by
  simp [eightL, List.range_succ]
 rw [e]
 unfold numL
 simp only [List.foldl_cons, List.foldl_nil, UInt8.toNat_ofNat']
 have k7 : n / 72057594037927936 < 256 := by omega
 have k6 : n / 281474976710656 = n / 72057594037927936 * 256 + n / 281474976710656 % 256 := by omega
 have k5 : n / 1099511627776 = n / 281474976710656 * 256 + n / 1099511627776 % 256 := by omega
 have k4 : n / 4294967296 = n / 1099511627776 * 256 + n / 4294967296 % 256 := by omega
 have k3 : n / 16777216 = n / 4294967296 * 256 + n / 16777216 % 256 := by omega
 have k2 : n / 65536 = n / 16777216 * 256 + n / 65536 % 256 := by omega
 have k1 : n / 256 = n / 65536 * 256 + n / 256 % 256 := by omega
 have k0 : n = n / 256 * 256 + n % 256 := by omega
 have m : ∀ x : Nat, x % 256 % 2 ^ 8 = x % 256 := fun x => by omega
 simp only [m, Nat.div_one, Nat.zero_mul, Nat.zero_add]
 rw [Nat.mod_eq_of_lt k7, ← k6, ← k5, ← k4, ← k3, ← k2, ← k1, ← k0]
theorem dropl {α : Type} {xs ys : List α} {n : Nat} (h : xs.length = n) : (xs ++ ys).drop n = ys := by subst h; exact List.drop_left
theorem takel {α : Type} {xs ys : List α} {n : Nat} (h : xs.length = n) : (xs ++ ys).take n = xs := by subst h; exact List.take_left
theorem q4g {α : Type} {L xs ys : List α} {k n m : Nat} (h : L.drop k = xs ++ ys) (hn : xs.length = n) (hm : k + n = m) : L.drop m = ys := by
 subst hm
 rw [← List.drop_drop, h, dropl hn]
/-- A head is taken as it was put. -/
theorem x8r (d : Hd) (hd : d.Ok) (hm : mayH d = true) : hdOf (putH d) = d := by
 obtain ⟨z1, z2⟩ := x0r hm
 have s1 : d.right.sig.data.toList.length = 1024 := by simpa using z1
 have s2 : d.sig.data.toList.length = 1120 := by simpa using z2
 have d0 : putH d = eightL d.slot ++ (eightL d.number ++ (d.prev ++ (d.pool ++ (d.body ++ (eightL d.size ++ (eightL d.many ++ (d.right.hot ++ (eightL d.right.counter ++ (eightL d.right.start ++ (d.right.sig.data.toList ++ d.sig.data.toList)))))))))) := by
  unfold putH signedL; simp only [List.append_assoc]
 have d8 := q4g (k := 0) (m := 8) (show (putH d).drop 0 = eightL d.slot ++ _ from d0) (q0o _) rfl
 have d16 := q4g (m := 16) d8 (q0o _) rfl
 have d48 := q4g (m := 48) d16 hd.prev rfl
 have d80 := q4g (m := 80) d48 hd.pool rfl
 have d112 := q4g (m := 112) d80 hd.body rfl
 have d120 := q4g (m := 120) d112 (q0o _) rfl
 have d128 := q4g (m := 128) d120 (q0o _) rfl
 have d160 := q4g (m := 160) d128 hd.right.hot rfl
 have d168 := q4g (m := 168) d160 (q0o _) rfl
 have d176 := q4g (m := 176) d168 (q0o _) rfl
 have d1200 := q4g (m := 1200) d176 s1 rfl
 unfold hdOf
 rw [d0, takel (q0o _), ← d0, d8, takel (q0o _), d16, takel hd.prev, d48, takel hd.pool, d80, takel hd.body, d112, takel (q0o _), d120, takel (q0o _), d128, takel hd.right.hot, d160, takel (q0o _), d168, takel (q0o _), d176, takel s1, d1200,
  List.take_of_length_le (by omega), q5x _ hd.slot, q5x _ hd.number, q5x _ hd.size, q5x _ hd.many, q5x _ hd.right.counter, q5x _ hd.right.start]
theorem q8w {d : Hd} (hd : d.Ok) (hm : mayH d = true) : (putH d).length = 2320 := by
 obtain ⟨z1, z2⟩ := x0r hm
 unfold putH
 have e : d.sig.data.toList.length = d.sig.size := by simp
 rw [List.length_append, q6r hd, e, z1, z2]
/-- Blocks that are not of bytes, other than g, are as they were. -/
def KeepT (g : Nat) (w w' : World) : Prop := ∀ k cs t, k ≠ g → t ≠ 5 → Arr w k t cs → Arr w' k t cs
theorem KeepT.refl (g : Nat) (w : World) : KeepT g w w := fun _ _ _ _ _ h => h
theorem KeepT.trans {g : Nat} {a b c : World} (h : KeepT g a b) (k : KeepT g b c) : KeepT g a c := fun q cs t h1 h2 h3 => k q cs t h1 h2 (h q cs t h1 h2 h3)
theorem KeepT.below {g : Nat} {a b : World} (h : Below a.heap.size a b) : KeepT g a b := fun _ _ _ _ _ h3 => Arr.later h3 h
theorem KeepT.set {g k : Nat} {w : World} (v : Value) : KeepT g w (w.setCell ⟨g, k, none⟩ v) := fun q cs t h1 _ h3 => by
 unfold Arr at h3 ⊢
 rw [heap_setCell_other w ⟨g, k, none⟩ q v h1]
 exact h3
theorem KeepT.grown {g : Nat} {w w' : World} {B n : Nat} {v : Value} {xs : List Value} (ho : w.ownsRow B 5 1 v n xs) (hg : w.grownBy w' v.ownBlock) : KeepT g w w' := fun q cs t _ h2 h3 => by
 unfold Arr at h3 ⊢
 rw [hg.block q (Array.getElem?_eq_some_iff.1 h3).1 (fun e => by
  rcases ho.2 with ⟨hv, _⟩ | ⟨g', cap, cur, hv, _, hh, _⟩
  ·rw [hv] at e; cases e
  ·rw [hv] at e
   have e' : q = g' := Option.some.inj e
   subst e'
   rw [h3] at hh
   simp only [Option.some.injEq, Obj.cells.injEq] at hh
   exact h2 hh.2.1)]
 exact h3
theorem liesWriter : liesAt Tryz.prog Tryz.prog.depth 170 (2 / Tryz.prog.cellsOf 170) 0 113 1 = true := by kernel_rfl
theorem byteAlone : Tryz.prog.cellsOf 5 = 1 := by kernel_rfl
theorem j2e (b : Nat) (w : World) (h0 : w.cell? ⟨b, 0, none⟩ = some (.pointer none)) (hsh : w.shape? b = some (170, 2)) (hfz : w.frozen? ⟨b, 0, none⟩ = false) :
  Calls Tryz.prog 150 #[.pointer (some ⟨b, 0, none⟩)] w fun e w' => e = .returned (.tuple #[]) ∧ w' = w.setCell ⟨b, 0, none⟩ (.pointer (some ⟨b, 0, none⟩)) := by
 obtain ⟨j, hj, hjs⟩ := Option.map_eq_some_iff.1 sizeBuilder
 go_enter Tryz.func150, Tryz.ntmps150
 go_wp2
 rw [Lib.run_to_unsafe w ⟨b, 0, none⟩ Tryz.underlying111 Tryz.underlying202 hj (by rw [hjs]; decide) hsh (Nat.zero_lt_succ 1)]
 simp only [Result.andThen]
 rw [Oper.upon_value]
 go_wp2
 rw [run_callFunc_extern Tryz.func177 (by kernel_rfl) (by kernel_rfl) (by kernel_rfl) (e := Extern.AbiNoEscape.same) (by kernel_rfl)]
 rw [Lib.run_noEscape]
 simp only [Result.andThen]
 rw [Oper.upon_value]
 go_wp2
 rw [Lib.run_from_unsafe w ⟨b, 0, none⟩ Tryz.underlying202 Tryz.underlying111 hj hsh liesWriter]
 simp only [Result.andThen]
 rw [Oper.upon_value]
 go_wp2
 go_end0
 exact ⟨rfl, rfl⟩
theorem copyCheckW (B b : Nat) (bs : List Value) (w : World) (h : Lib.IsBuilder 170 5 B b bs w) :
  Calls Tryz.prog 150 #[.pointer (some ⟨b, 0, none⟩)] w fun e w' => e = .returned (.tuple #[]) ∧ (Lib.BuilderAt 170 5 B b (.pointer (some ⟨b, 0, none⟩)) bs w' ∧ Below B w w' ∧ KeepT b w w') := by
 rcases h with h | h
 ·refine (j2e b w h.cell0 h.shape h.frozen0).mono ?_
  rintro e w' ⟨rfl, rfl⟩
  exact ⟨rfl, h.used _, (Below.refl B w).setCell (p := ⟨b, 0, none⟩) h.1 _, KeepT.set _⟩
 ·refine (q6t b w h.cell0).mono ?_
  rintro e w' ⟨rfl, rfl⟩
  exact ⟨rfl, h, Below.refl B _, KeepT.refl _ _⟩
theorem writeByteW (B b : Nat) (bs : List Value) (c : Int) (w : World) (h : Lib.IsBuilder 170 5 B b bs w) (hlen : bs.length + 1 ≤ 140737488355328) (hBw : B ≤ w.heap.size) :
  Calls Tryz.prog 135 #[.pointer (some ⟨b, 0, none⟩), .int .u8 c] w fun e w' => e = .returned .nilIface ∧ (Lib.BuilderAt 170 5 B b (.pointer (some ⟨b, 0, none⟩)) (bs ++ [.int .u8 c]) w' ∧ Below B w w' ∧ KeepT b w w') := by
 obtain ⟨i0, hi, hz0, hz1, hz2⟩ := info_parts info8
 go_enter Tryz.func135, Tryz.ntmps135
 go_wp2_with (go_at_call 150; refine (copyCheckW B b bs _ h).mono ?_)
 rintro e w1 ⟨rfl, h1, hb1, hk1⟩
 obtain ⟨hB, v, hbk, hown, hne⟩ := h1
 have c0 : w1.cell? ⟨b, 0, none⟩ = some (.pointer (some ⟨b, 0, none⟩)) := by rw [Lib.cell_of_heap hbk]; rfl
 have c1 : w1.cell? ⟨b, 1, none⟩ = some v := by rw [Lib.cell_of_heap hbk]; rfl
 go_wp2_with (at_builtin; refine wpList_append_own _ rfl _ _ 93 rfl B 5 i0 (.int .u8 0) 1 1 Tryz.underlying93 hi hz0 hz1 hz2 rfl (by decide) _ _ _ rfl (hown.alloc _) ⟨w1.heap.size, 0, none⟩ 1 1 [.int .u8 c] rfl rfl ?c1 ?c2 ?c3 ?c4 ?c5 ?_)
 case c1 =>
  intro j u hj
  match j, hj with
  | 0, hj => simp at hj; subst hj; simp [Addr.add]
 case c2 => intro u hu; simp at hu; subst hu; rfl
 case c3 => unfold maxLen; omega
 case c4 => omega
 case c5 => have := hb1.size; simp; omega
 intro v' w2 hown' hgrow _
 have hlt : b < w1.heap.size := by
  rcases Nat.lt_or_ge b w1.heap.size with h' | h'
  ·exact h'
  ·simp [Array.getElem?_eq_none h'] at hbk
 have hb2 : w2.heap[b]? = some (.cells #[.pointer (some ⟨b, 0, none⟩), v] 170 (0, 0)) := by
  rw [hgrow.block b (by simp; omega) (fun e => hne e.symm), Lib.alloc_old w1 _ b hlt]
  exact hbk
 have d0 : w2.cell? ⟨b, 0, none⟩ = some (.pointer (some ⟨b, 0, none⟩)) := by rw [Lib.cell_of_heap hb2]; rfl
 have d1 : w2.cell? ⟨b, 1, none⟩ = some v := by rw [Lib.cell_of_heap hb2]; rfl
 have f1 : w2.frozen? ⟨b, 1, none⟩ = false := Lib.frozen_of_heap hb2 1
 obtain ⟨g, cap, rfl⟩ : ∃ g cap, v' = .slice (some ⟨g, 0, none⟩) (bs.length + 1) cap := by
  rcases hown'.2 with ⟨_, h0⟩ | ⟨g, cap, cur, hv, _⟩
  ·omega
  ·exact ⟨g, cap, hv⟩
 go_wp2
 go_ret
 refine ⟨rfl, ?_, ?_, ?_⟩
 ·exact Lib.BuilderAt.put (T := 170) (e := 5) hB hb2 (bs' := bs ++ [.int .u8 c]) (by simpa using hown') (by decide)
 ·exact ((hb1.alloc (by have := hb1.size; omega) _).grown hgrow (by have := hb1.size; simp; omega) (fun k hk => (hown.lt k hk).1)).setCell (p := ⟨b, 1, none⟩) hB _
 ·exact (((hk1.trans (KeepT.below (below1 _ _))).trans (KeepT.grown (q5y hown (below1 _ _)) hgrow)).trans (KeepT.set _))
theorem writeStringW (B b : Nat) (bs : List Value) (s : ByteArray) (w : World) (h : Lib.IsBuilder 170 5 B b bs w) (hlen : bs.length + s.size ≤ 140737488355328) (hBw : B ≤ w.heap.size) :
  Calls Tryz.prog 75 #[.pointer (some ⟨b, 0, none⟩), .string s] w fun e w' => e = .returned (.tuple #[.int .i64 s.size, .nilIface]) ∧ (Lib.BuilderAt 170 5 B b (.pointer (some ⟨b, 0, none⟩)) (bs ++ Lib.strCells s) w' ∧ Below B w w' ∧ KeepT b w w') := by
 obtain ⟨i0, hi, hz0, hz1, hz2⟩ := info_parts info8
 go_enter Tryz.func75, Tryz.ntmps75
 go_wp2_with (go_at_call 150; refine (copyCheckW B b bs _ h).mono ?_)
 rintro e w1 ⟨rfl, h1, hb1, hk1⟩
 obtain ⟨hB, v, hbk, hown, hne⟩ := h1
 have c0 : w1.cell? ⟨b, 0, none⟩ = some (.pointer (some ⟨b, 0, none⟩)) := by rw [Lib.cell_of_heap hbk]; rfl
 have c1 : w1.cell? ⟨b, 1, none⟩ = some v := by rw [Lib.cell_of_heap hbk]; rfl
 go_wp2_with (at_builtin; refine Lib.wpList_append_own_string _ rfl _ _ 93 9 rfl B 5 i0 Tryz.underlying93 Tryz.underlying9 hi hz0 hz1 hz2 _ _ _ rfl hown s rfl ?c3 ?c4 ?c5 ?_)
 case c3 => unfold maxLen; omega
 case c4 => omega
 case c5 => have := hb1.size; omega
 intro v' w2 hown' hgrow _
 have hlt : b < w1.heap.size := by
  rcases Nat.lt_or_ge b w1.heap.size with h' | h'
  ·exact h'
  ·simp [Array.getElem?_eq_none h'] at hbk
 have hb2 : w2.heap[b]? = some (.cells #[.pointer (some ⟨b, 0, none⟩), v] 170 (0, 0)) := by
  rw [hgrow.block b hlt (fun e => hne e.symm)]
  exact hbk
 have d0 : w2.cell? ⟨b, 0, none⟩ = some (.pointer (some ⟨b, 0, none⟩)) := by rw [Lib.cell_of_heap hb2]; rfl
 have d1 : w2.cell? ⟨b, 1, none⟩ = some v := by rw [Lib.cell_of_heap hb2]; rfl
 have f1 : w2.frozen? ⟨b, 1, none⟩ = false := Lib.frozen_of_heap hb2 1
 obtain ⟨ao, n', cap, rfl⟩ : ∃ ao n' cap, v' = .slice ao n' cap := by
  rcases hown'.2 with ⟨hv, _⟩ | ⟨g, cap, cur, hv, _⟩
  ·exact ⟨_, _, _, hv⟩
  ·exact ⟨_, _, _, hv⟩
 go_wp2
 go_ret2
 refine ⟨rfl, ?_, ?_, ?_⟩
 ·exact Lib.BuilderAt.put (T := 170) (e := 5) hB hb2 (bs' := bs ++ Lib.strCells s) (by simpa [Lib.strCells_length] using hown') (by decide)
 ·exact (hb1.grown hgrow (by have := hb1.size; omega) (fun k hk => (hown.lt k hk).1)).setCell (p := ⟨b, 1, none⟩) hB _
 ·exact ((hk1.trans (KeepT.grown hown hgrow)).trans (KeepT.set _))
/-- The writer at block g has the bytes s; all that is its own stands from g on. -/
def Wrt (w : World) (g : Nat) (s : List UInt8) : Prop := Lib.IsBuilder 170 5 g g (Lib.byteCells s) w
theorem j5p (g : Nat) (l : List UInt8) (w : World) (h : Wrt w g l) (hl : l ≠ []) :
  Calls Tryz.prog 78 #[.pointer (some ⟨g, 0, none⟩)] w fun e w' => e = .returned (.string ⟨l.toArray⟩) ∧ Below g w w' := by
 have h0 : l.length ≠ 0 := by simpa using hl
 obtain ⟨p, hB, v, hbk, hown, hne⟩ : ∃ p, Lib.BuilderAt 170 5 g g p (Lib.byteCells l) w := by
  rcases h with h | h
  ·exact ⟨_, h⟩
  ·exact ⟨_, h⟩
 rw [Lib.byteCells_length] at hown
 obtain ⟨q, cap, cur, rfl, hbg, hg, hnc, hcm, hcs, htake⟩ : ∃ q cap cur, v = .slice (some ⟨q, 0, none⟩) l.length cap ∧ g ≤ q ∧ w.heap[q]? = some (.cells cur 5 (0, 0)) ∧ l.length ≤ cap ∧ cap ≤ maxLen ∧ cur.size = cap * 1 ∧ cur.toList.take (l.length * 1) = Lib.byteCells l := by
  rcases hown.2 with ⟨_, hz⟩ | ⟨q, cap, cur, hv, r⟩
  ·exact absurd hz h0
  ·exact ⟨q, cap, cur, hv, r⟩
 have c1 : w.drew.cell? ⟨g, 1, none⟩ = some (.slice (some ⟨q, 0, none⟩) l.length cap) := by
  have : w.drew.heap[g]? = some (.cells #[p, .slice (some ⟨q, 0, none⟩) l.length cap] 170 (0, 0)) := hbk
  rw [Lib.cell_of_heap this]; rfl
 have hSD : (Builtin.unsafeSliceData_ #[93] 186 #[.slice (some ⟨q, 0, none⟩) l.length cap]).run Tryz.prog w.drew = .ok (.pointer (some ⟨q, 0, none⟩)) w.drew :=
  Lib.run_unsafeSliceData_row _ _ _ _ _ _ (by omega)
 have hUS : (Builtin.unsafeString_ #[186, 3] 9 #[.pointer (some ⟨q, 0, none⟩), .int .i64 l.length]).run Tryz.prog w.drew = .ok (.string ⟨l.toArray⟩) (w.drew.freeze ⟨q, 0, none⟩ l.length) := by
  refine Lib.run_unsafeString_row w.drew 186 3 9 5 Tryz.underlying186 byteAlone q cur.size (by have hg' : w.drew.heap[q]? = some (.cells cur 5 (0, 0)) := hg; simp [World.shape?, hg']) l hl (by omega) (by unfold maxLen at hcm; omega) ?_
  intro j x hx
  have := hown.cells (g := q) rfl j (.int .u8 x.toNat) (by simp [Lib.byteCells, hx])
  exact this
 have mixed : Tryz.prog.follows .mixedOrders = true := by kernel_rfl
 clear hown htake hcs hne
 go_enter Tryz.func78, Tryz.ntmps78
 go_wp2
 go_region_o
 all_goals (go_wp2; go_ret; exact ⟨rfl, Lib.below_freeze (Below.drew (Below.refl g w)) (p := ⟨q, 0, none⟩) hbg _⟩)
theorem Wrt.later {w w' : World} {g : Nat} {s : List UInt8} (h : Wrt w g s) (hb : Below w.heap.size w w') : Wrt w' g s := q5b h hb
theorem Wrt.lt {w : World} {g : Nat} {s : List UInt8} (h : Wrt w g s) : g < w.heap.size := by
 rcases h with ⟨_, v, h, _⟩ | ⟨_, v, h, _⟩ <;> exact (Array.getElem?_eq_some_iff.1 h).1
theorem j0e (g : Nat) (x : List UInt8) (s : ByteArray) (w : World) (h : Wrt w g x) (hl : x.length + s.size ≤ 140737488355328) :
  Calls Tryz.prog 75 #[.pointer (some ⟨g, 0, none⟩), .string s] w fun e w' => e = .returned (.tuple #[.int .i64 s.size, .nilIface]) ∧ Wrt w' g (x ++ s.data.toList) ∧ Below g w w' ∧ KeepT g w w' := by
 refine (writeStringW g g _ s w h (by rw [Lib.byteCells_length]; exact hl) (Nat.le_of_lt h.lt)).mono ?_
 rintro e w' ⟨he, hb, hB, hK⟩
 refine ⟨he, .inr ?_, hB, hK⟩
 have e : Lib.byteCells (x ++ s.data.toList) = Lib.byteCells x ++ Lib.strCells s := by simp [Lib.byteCells, Lib.strCells]
 rw [e]
 exact hb
theorem x8w (g : Nat) (x : List UInt8) (c : Nat) (w : World) (h : Wrt w g x) (hc : c < 256) (hl : x.length + 1 ≤ 140737488355328) :
  Calls Tryz.prog 135 #[.pointer (some ⟨g, 0, none⟩), .int .u8 c] w fun e w' => e = .returned .nilIface ∧ Wrt w' g (x ++ [UInt8.ofNat c]) ∧ Below g w w' ∧ KeepT g w w' := by
 refine (writeByteW g g _ c w h (by rw [Lib.byteCells_length]; exact hl) (Nat.le_of_lt h.lt)).mono ?_
 rintro e w' ⟨he, hb, hB, hK⟩
 refine ⟨he, ?_, hB, hK⟩
 have e : Lib.byteCells x ++ [Value.int .u8 (c : Int)] = Lib.byteCells (x ++ [UInt8.ofNat c]) := by
  simp [Lib.byteCells]
  omega
 rw [e] at hb
 exact .inr hb
theorem q4q (g : Nat) (x : List UInt8) (n : Nat) (w : World) (h : Wrt w g x) (hn : n < 18446744073709551616) (hl : x.length ≤ 1048576) :
  Calls Tryz.prog 133 #[.pointer (some ⟨g, 0, none⟩), .int .u64 n] w fun e w' => e = .returned (.tuple #[]) ∧ Wrt w' g (x ++ putL n) ∧ Below g w w' ∧ KeepT g w w' := by
 have HP := hide (fun w => j9h n w hn)
 have hsz : (⟨(putL n).toArray⟩ : ByteArray).size ≤ 10 := by show (putL n).toArray.size ≤ 10; rw [List.size_toArray]; exact q0g n
 have HW := hide (fun w h => j0e g x ⟨(putL n).toArray⟩ w h (by omega))
 have F1 := h
 have hB : g ≤ w.heap.size := Nat.le_of_lt h.lt
 have bB := Below.refl g w
 have kk := KeepT.refl g w
 have b := Below.refl w.heap.size w
 clear h hn hl hsz
 have e : (⟨(putL n).toArray⟩ : ByteArray).data.toList = putL n := rfl
 rw [e] at HW
 generalize (⟨(putL n).toArray⟩ : ByteArray) = s at *
 generalize putL n = l at *
 clear e
 go_enter Tryz.func133, Tryz.ntmps133
 go_wp2_with (first | (with_reducible show Code.wp _ (Code.region _ _ true) _ _ _; refine q0n 5 (by kernel_rfl) (by kernel_rfl) ?_; simp only [List.take_succ_cons, List.take_zero]; (repeat ((go_big_quiet_want; first | (go_big_quiet_op; first | go_big_quiet_on | ((refine ⟨_, fun _ => q0f (HP.out _), ?_⟩; go_big_quiet_on)))))); refine wpQuiet_nil ?_; intro _ hq; replace kk := kk.trans (KeepT.below hq); (try replace F1 := F1.later hq); (try replace b := later b hq); (try replace bB := mixed hB bB hq); clear hq; simp only [List.drop_succ_cons, List.drop_zero]) | (go_at_call 75; refine (HW.out _ F1).mono ?_; rintro _ _ ⟨rfl, h1, hc, hk⟩; clear F1; have F1 := h1; clear h1; replace bB := bB.trans hc; replace kk := kk.trans hk; clear hc hk b))
 go_end0
 exact ⟨rfl, F1, bB, kk⟩
theorem q9s (g : Nat) (x : List UInt8) (k : List UInt8) (w : World) (h : Wrt w g x) (hk : k.length = 32) (hl : x.length ≤ 1048576) :
  Calls Tryz.prog 134 #[.pointer (some ⟨g, 0, none⟩), hv k] w fun e w' => e = .returned (.tuple #[]) ∧ Wrt w' g (x ++ k) ∧ Below g w w' ∧ KeepT g w w' := by
 have HP := hide (fun w => q3t k w hk)
 have hsz : (⟨k.toArray⟩ : ByteArray).size = 32 := by show k.toArray.size = 32; rw [List.size_toArray]; exact hk
 have HW := hide (fun w h => j0e g x ⟨k.toArray⟩ w h (by omega))
 have F1 := h
 have HK := hide hk
 have hB : g ≤ w.heap.size := Nat.le_of_lt h.lt
 have bB := Below.refl g w
 have kk := KeepT.refl g w
 have b := Below.refl w.heap.size w
 clear h hl hsz hk
 have e : (⟨k.toArray⟩ : ByteArray).data.toList = k := rfl
 rw [e] at HW
 generalize (⟨k.toArray⟩ : ByteArray) = s at *
 clear e
 unfold hv
 have mF2 := True.intro
 go_enter Tryz.func134, Tryz.ntmps134
 go_wp2_with (first | (with_reducible refine w2g ?_; clear mF2; refine j1v rfl _ rfl rfl HK.out ?_; intro _ g3 hg3 F2 hb; replace kk := kk.trans (KeepT.below hb); (try replace F1 := F1.later hb); (try replace b := later b hb); (try replace bB := mixed hB bB hb); clear hb) | (with_reducible show Code.wp _ (Code.region _ _ true) _ _ _; (try simp only [pS]); refine q0n 5 (by kernel_rfl) (by kernel_rfl) ?_; simp only [List.take_succ_cons, List.take_zero]; (repeat ((go_big_quiet_want; first | ((with_reducible refine w28g ?_); first | ((with_reducible refine w30g ?_); first | (refine q3a _ rfl rfl (by assumption) ?_; simp only [pS]; go_big_quiet_on))) | (go_big_quiet_op; first | go_big_quiet_on | ((refine ⟨_, fun _ => q0f (HP.out _), ?_⟩; go_big_quiet_on)))))); refine wpQuiet_nil ?_; intro _ hq; replace kk := kk.trans (KeepT.below hq); (try replace F1 := F1.later hq); (try replace F2 := F2.later hq); (try replace b := later b hq); (try replace bB := mixed hB bB hq); clear hq; simp only [List.drop_succ_cons, List.drop_zero]) | (go_at_call 75; refine (HW.out _ F1).mono ?_; rintro _ _ ⟨rfl, h1, hc, hk⟩; clear F1; have F1 := h1; clear h1; replace bB := bB.trans hc; replace kk := kk.trans hk; clear hc hk b))
 go_end0
 exact ⟨rfl, F1, bB, kk⟩
end Go.Proofs.YtbbfnpfkbbpjgaaGreat
