/- Heads: the plain law of putting and taking. No walk in sight. -/
import Derived.Test.YtofjjpielkfloaaQHd3
import Derived.Test.YtofjjpielkfloaaQHd7
namespace Go.Proofs.Ytofjjpielkfloaa
open Go.RowKit Go.Lib
set_option linter.unusedVariables false
set_option linter.unusedSimpArgs false

theorem numL_eight (n : Nat) (h : n < 18446744073709551616) : numL (eightL n) = n := by
  have e : eightL n = [UInt8.ofNat (n / 72057594037927936 % 256), UInt8.ofNat (n / 281474976710656 % 256), UInt8.ofNat (n / 1099511627776 % 256), UInt8.ofNat (n / 4294967296 % 256), UInt8.ofNat (n / 16777216 % 256), UInt8.ofNat (n / 65536 % 256), UInt8.ofNat (n / 256 % 256), UInt8.ofNat (n / 1 % 256)] := by
    simp [eightL, List.range_succ]
  rw [e]
  unfold numL
  simp only [List.foldl_cons, List.foldl_nil, UInt8.toNat_ofNat']
  have k7 : n / 72057594037927936 < 256 := by omega
  have k6 : n / 281474976710656 = n / 72057594037927936 * 256 + n / 281474976710656 % 256 := by omega
  have k5 : n / 1099511627776 = n / 281474976710656 * 256 + n / 1099511627776 % 256 := by omega
  have k4 : n / 4294967296 = n / 1099511627776 * 256 + n / 4294967296 % 256 := by omega
  have k3 : n / 16777216 = n / 4294967296 * 256 + n / 16777216 % 256 := by omega
  have k2 : n / 65536 = n / 16777216 * 256 + n / 65536 % 256 := by omega
  have k1 : n / 256 = n / 65536 * 256 + n / 256 % 256 := by omega
  have k0 : n = n / 256 * 256 + n % 256 := by omega
  have m : ∀ x : Nat, x % 256 % 2 ^ 8 = x % 256 := fun x => by omega
  simp only [m, Nat.div_one, Nat.zero_mul, Nat.zero_add]
  rw [Nat.mod_eq_of_lt k7, ← k6, ← k5, ← k4, ← k3, ← k2, ← k1, ← k0]
theorem dropl {α : Type} {xs ys : List α} {n : Nat} (h : xs.length = n) : (xs ++ ys).drop n = ys := by subst h; exact List.drop_left
theorem takel {α : Type} {xs ys : List α} {n : Nat} (h : xs.length = n) : (xs ++ ys).take n = xs := by subst h; exact List.take_left
theorem drop_more {α : Type} {L xs ys : List α} {k n m : Nat} (h : L.drop k = xs ++ ys) (hn : xs.length = n) (hm : k + n = m) : L.drop m = ys := by
  subst hm
  rw [← List.drop_drop, h, dropl hn]
/-- A head is taken as it was put. -/
theorem hdOf_put (d : Hd) (hd : d.Ok) (hm : mayH d = true) : hdOf (putH d) = d := by
  obtain ⟨z1, z2⟩ := mayH_is hm
  have s1 : d.right.sig.data.toList.length = 1024 := by simpa using z1
  have s2 : d.sig.data.toList.length = 1120 := by simpa using z2
  have d0 : putH d = eightL d.slot ++ (eightL d.number ++ (d.prev ++ (d.pool ++ (d.body ++ (eightL d.size ++ (eightL d.many ++ (d.right.hot ++ (eightL d.right.counter ++ (eightL d.right.start ++ (d.right.sig.data.toList ++ d.sig.data.toList)))))))))) := by
    unfold putH signedL; simp only [List.append_assoc]
  have d8 := drop_more (k := 0) (m := 8) (show (putH d).drop 0 = eightL d.slot ++ _ from d0) (eightL_length _) rfl
  have d16 := drop_more (m := 16) d8 (eightL_length _) rfl
  have d48 := drop_more (m := 48) d16 hd.prev rfl
  have d80 := drop_more (m := 80) d48 hd.pool rfl
  have d112 := drop_more (m := 112) d80 hd.body rfl
  have d120 := drop_more (m := 120) d112 (eightL_length _) rfl
  have d128 := drop_more (m := 128) d120 (eightL_length _) rfl
  have d160 := drop_more (m := 160) d128 hd.right.hot rfl
  have d168 := drop_more (m := 168) d160 (eightL_length _) rfl
  have d176 := drop_more (m := 176) d168 (eightL_length _) rfl
  have d1200 := drop_more (m := 1200) d176 s1 rfl
  unfold hdOf
  rw [d0, takel (eightL_length _), ← d0, d8, takel (eightL_length _), d16, takel hd.prev, d48, takel hd.pool, d80, takel hd.body, d112, takel (eightL_length _), d120, takel (eightL_length _), d128, takel hd.right.hot, d160, takel (eightL_length _), d168, takel (eightL_length _), d176, takel s1, d1200,
    List.take_of_length_le (by omega), numL_eight _ hd.slot, numL_eight _ hd.number, numL_eight _ hd.size, numL_eight _ hd.many, numL_eight _ hd.right.counter, numL_eight _ hd.right.start]
end Go.Proofs.Ytofjjpielkfloaa
