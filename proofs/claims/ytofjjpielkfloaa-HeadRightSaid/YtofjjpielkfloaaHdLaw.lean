/- Heads: the plain law of putting and taking. No walk in sight. -/
import Derived.Test.YtofjjpielkfloaaHd3
import Derived.Test.YtofjjpielkfloaaHd7
namespace Go.Proofs.Ytofjjpielkfloaa
open Go.RowKit Go.Lib
set_option linter.unusedVariables false
set_option linter.unusedSimpArgs false

theorem numL_eight (n : Nat) (h : n < 18446744073709551616) : numL (eightL n) = n := by
  have e : eightL n = [UInt8.ofNat (n / 72057594037927936 % 256), UInt8.ofNat (n / 281474976710656 % 256), UInt8.ofNat (n / 1099511627776 % 256), UInt8.ofNat (n / 4294967296 % 256), UInt8.ofNat (n / 16777216 % 256), UInt8.ofNat (n / 65536 % 256), UInt8.ofNat (n / 256 % 256), UInt8.ofNat (n / 1 % 256)] := by
    simp [eightL, List.range_succ]
  rw [e]
  unfold numL
  simp only [List.foldl_cons, List.foldl_nil, UInt8.toNat_ofNat']
  have k7 : n / 72057594037927936 < 256 := by omega
  have k6 : n / 281474976710656 = n / 72057594037927936 * 256 + n / 281474976710656 % 256 := by omega
  have k5 : n / 1099511627776 = n / 281474976710656 * 256 + n / 1099511627776 % 256 := by omega
  have k4 : n / 4294967296 = n / 1099511627776 * 256 + n / 4294967296 % 256 := by omega
  have k3 : n / 16777216 = n / 4294967296 * 256 + n / 16777216 % 256 := by omega
  have k2 : n / 65536 = n / 16777216 * 256 + n / 65536 % 256 := by omega
  have k1 : n / 256 = n / 65536 * 256 + n / 256 % 256 := by omega
  have k0 : n = n / 256 * 256 + n % 256 := by omega
  have m : ∀ x : Nat, x % 256 % 2 ^ 8 = x % 256 := fun x => by omega
  simp only [m, Nat.div_one, Nat.zero_mul, Nat.zero_add]
  rw [Nat.mod_eq_of_lt k7, ← k6, ← k5, ← k4, ← k3, ← k2, ← k1, ← k0]
theorem eight_numL (l : List UInt8) (h : l.length = 8) : eightL (numL l) = l := by
  match l, h with
  | [a, b, c, d, e, f, g, i], _ =>
    have ha := a.toNat_lt
    have hb := b.toNat_lt
    have hc := c.toNat_lt
    have hd := d.toNat_lt
    have he := e.toNat_lt
    have hf := f.toNat_lt
    have hg := g.toNat_lt
    have hi := i.toNat_lt
    have q : ∀ (x : UInt8) (m : Nat), m % 256 = x.toNat → UInt8.ofNat (m % 256) = x := fun x m hm => by
      rw [hm]; exact UInt8.ofNat_toNat
    simp only [eightL, List.range_succ, List.range_zero, List.nil_append, List.map_append, List.map_cons, List.map_nil, List.cons_append, numL, List.foldl_cons, List.foldl_nil]
    simp only [List.cons.injEq, and_true]
    refine ⟨q _ _ ?_, q _ _ ?_, q _ _ ?_, q _ _ ?_, q _ _ ?_, q _ _ ?_, q _ _ ?_, q _ _ ?_⟩ <;> omega
theorem dropl {α : Type} {xs ys : List α} {n : Nat} (h : xs.length = n) : (xs ++ ys).drop n = ys := by subst h; exact List.drop_left
theorem takel {α : Type} {xs ys : List α} {n : Nat} (h : xs.length = n) : (xs ++ ys).take n = xs := by subst h; exact List.take_left
theorem drop_more {α : Type} {L xs ys : List α} {k n m : Nat} (h : L.drop k = xs ++ ys) (hn : xs.length = n) (hm : k + n = m) : L.drop m = ys := by
  subst hm
  rw [← List.drop_drop, h, dropl hn]
/-- A head is taken as it was put. -/
theorem hdOf_put (d : Hd) (hd : d.Ok) (hm : mayH d = true) : hdOf (putH d) = d := by
  obtain ⟨z1, z2⟩ := mayH_is hm
  have s1 : d.right.sig.data.toList.length = 1024 := by simpa using z1
  have s2 : d.sig.data.toList.length = 1120 := by simpa using z2
  have d0 : putH d = eightL d.slot ++ (eightL d.number ++ (d.prev ++ (d.pool ++ (d.body ++ (eightL d.size ++ (eightL d.many ++ (d.right.hot ++ (eightL d.right.counter ++ (eightL d.right.start ++ (d.right.sig.data.toList ++ d.sig.data.toList)))))))))) := by
    unfold putH signedL; simp only [List.append_assoc]
  have d8 := drop_more (k := 0) (m := 8) (show (putH d).drop 0 = eightL d.slot ++ _ from d0) (eightL_length _) rfl
  have d16 := drop_more (m := 16) d8 (eightL_length _) rfl
  have d48 := drop_more (m := 48) d16 hd.prev rfl
  have d80 := drop_more (m := 80) d48 hd.pool rfl
  have d112 := drop_more (m := 112) d80 hd.body rfl
  have d120 := drop_more (m := 120) d112 (eightL_length _) rfl
  have d128 := drop_more (m := 128) d120 (eightL_length _) rfl
  have d160 := drop_more (m := 160) d128 hd.right.hot rfl
  have d168 := drop_more (m := 168) d160 (eightL_length _) rfl
  have d176 := drop_more (m := 176) d168 (eightL_length _) rfl
  have d1200 := drop_more (m := 1200) d176 s1 rfl
  unfold hdOf
  rw [d0, takel (eightL_length _), ← d0, d8, takel (eightL_length _), d16, takel hd.prev, d48, takel hd.pool, d80, takel hd.body, d112, takel (eightL_length _), d120, takel (eightL_length _), d128, takel hd.right.hot, d160, takel (eightL_length _), d168, takel (eightL_length _), d176, takel s1, d1200,
    List.take_of_length_le (by omega), numL_eight _ hd.slot, numL_eight _ hd.number, numL_eight _ hd.size, numL_eight _ hd.many, numL_eight _ hd.right.counter, numL_eight _ hd.right.start]
theorem split_at {α : Type} (L : List α) (k n m : Nat) (h : k + n = m) : L.drop k = (L.drop k).take n ++ L.drop m := by
  subst h
  rw [← List.drop_drop, List.take_append_drop]
/-- Bytes are put as they were taken. -/
theorem put_hdOf (L : List UInt8) (h : L.length = 2320) : putH (hdOf L) = L := by
  have e8 : ∀ k, k + 8 ≤ 2320 → eightL (numL ((L.drop k).take 8)) = (L.drop k).take 8 := fun k hk => eight_numL _ (by rw [List.length_take, List.length_drop, h]; omega)
  have e0 : eightL (numL (L.take 8)) = L.take 8 := eight_numL _ (by rw [List.length_take, h]; omega)
  have hd0 : L = L.take 8 ++ L.drop 8 := (List.take_append_drop 8 L).symm
  unfold putH signedL hdOf
  simp only [e8 8 (by decide), e8 112 (by decide), e8 120 (by decide), e8 160 (by decide), e8 168 (by decide), e0, List.append_assoc]
  conv => rhs; rw [hd0, split_at L 8 8 16 rfl, split_at L 16 32 48 rfl, split_at L 48 32 80 rfl, split_at L 80 32 112 rfl, split_at L 112 8 120 rfl, split_at L 120 8 128 rfl, split_at L 128 32 160 rfl, split_at L 160 8 168 rfl, split_at L 168 8 176 rfl, split_at L 176 1024 1200 rfl, split_at L 1200 1120 2320 rfl, List.drop_of_length_le (i := 2320) (by omega), List.append_nil]
theorem mayH_hdOf (L : List UInt8) (h : L.length = 2320) : mayH (hdOf L) = true := by
  unfold mayH hdOf
  have z1 : (⟨((L.drop 176).take 1024).toArray⟩ : ByteArray).size = 1024 := by show ((L.drop 176).take 1024).toArray.size = _; rw [List.size_toArray, List.length_take, List.length_drop, h]; rfl
  have z2 : (⟨((L.drop 1200).take 1120).toArray⟩ : ByteArray).size = 1120 := by show ((L.drop 1200).take 1120).toArray.size = _; rw [List.size_toArray, List.length_take, List.length_drop, h]; rfl
  simp only [z1, z2, decide_true, Bool.and_self]
end Go.Proofs.Ytofjjpielkfloaa
