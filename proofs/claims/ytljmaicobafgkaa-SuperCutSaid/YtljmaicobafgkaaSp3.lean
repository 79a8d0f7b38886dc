/- Chapter 10, super: numbers read. -/
import Derived.Test.YtljmaicobafgkaaSp2
import Derived.Laws.BitsAllLaws
namespace Go.Proofs.Ytljmaicobafgkaa
open Go.RowKit

theorem nat_or_add (a b k : Nat) (h : a < 2 ^ k) : a ||| b * 2 ^ k = a + b * 2 ^ k := by
  rw [Nat.or_comm, Nat.mul_comm b, ← Nat.two_pow_add_eq_or_of_lt h, Nat.add_comm]
/-- The number of four bytes. -/
def num4 (s : ByteArray) : Nat := (s.data.toList.getD 0 0).toNat + (s.data.toList.getD 1 0).toNat * 256 + (s.data.toList.getD 2 0).toNat * 65536 + (s.data.toList.getD 3 0).toNat * 16777216
theorem getb (s : ByteArray) {k : Nat} (h : k < s.size) : s[k] = s.data.toList.getD k 0 := by
  rw [List.getD_eq_getElem?_getD, Array.getElem?_toList, Array.getElem?_eq_getElem (show k < s.data.size from h), Option.getD_some]
  rfl
theorem u32_num (a b c d : UInt8) : bits .or .u32 (bits .or .u32 (bits .or .u32 (IntKind.u32.wrap (a.toNat : Int)) (IntKind.u32.wrap (IntKind.u32.wrap (b.toNat : Int) * 256))) (IntKind.u32.wrap (IntKind.u32.wrap (c.toNat : Int) * 65536))) (IntKind.u32.wrap (IntKind.u32.wrap (d.toNat : Int) * 16777216)) =
    ((a.toNat + b.toNat * 256 + c.toNat * 65536 + d.toNat * 16777216 : Nat) : Int) := by
  have h1 := a.toNat_lt
  have h2 := b.toNat_lt
  have h3 := c.toNat_lt
  have h4 := d.toNat_lt
  have w1 : ∀ x : Nat, x < 4294967296 → IntKind.u32.wrap (x : Int) = (x : Int) := fun x hx => by
    rw [IntKind.wrap_u32]
    omega
  rw [w1 _ (by omega), w1 b.toNat (by omega), w1 c.toNat (by omega), w1 d.toNat (by omega)]
  rw [show (b.toNat : Int) * 256 = ((b.toNat * 2 ^ 8 : Nat) : Int) by omega, show (c.toNat : Int) * 65536 = ((c.toNat * 2 ^ 16 : Nat) : Int) by omega, show (d.toNat : Int) * 16777216 = ((d.toNat * 2 ^ 24 : Nat) : Int) by omega]
  rw [w1 _ (by omega), w1 _ (by omega), w1 _ (by omega), u32_or_nat _ _ (by omega) (by omega), nat_or_add _ _ _ (by omega), u32_or_nat _ _ (by omega) (by omega), nat_or_add _ _ _ (by omega), u32_or_nat _ _ (by omega) (by omega), nat_or_add _ _ _ (by omega)]
theorem i64_or_nat (a b : Nat) (ha : a < 9223372036854775808) (hb : b < 9223372036854775808) : bits .or .i64 (a : Int) (b : Int) = ((a ||| b : Nat) : Int) := by
  have hx : a ||| b < 2 ^ 63 := Nat.or_lt_two_pow (by omega) (by omega)
  have h1 : (BitVec.ofInt 64 (a : Int)).toNat = a := by
    rw [BitVec.ofInt_natCast, BitVec.toNat_ofNat]; exact Nat.mod_eq_of_lt (by omega)
  have h2 : (BitVec.ofInt 64 (b : Int)).toNat = b := by
    rw [BitVec.ofInt_natCast, BitVec.toNat_ofNat]; exact Nat.mod_eq_of_lt (by omega)
  show IntKind.i64.wrap ((BitVec.ofInt 64 (a : Int) ||| BitVec.ofInt 64 (b : Int)).toNat : Int) = _
  rw [BitVec.toNat_or, h1, h2, IntKind.wrap_i64]
  omega
theorem i64_num (a b c d : UInt8) : bits .or .i64 (bits .or .i64 (bits .or .i64 (IntKind.i64.wrap (a.toNat : Int)) (IntKind.i64.wrap (IntKind.i64.wrap (b.toNat : Int) * 256))) (IntKind.i64.wrap (IntKind.i64.wrap (c.toNat : Int) * 65536))) (IntKind.i64.wrap (IntKind.i64.wrap (d.toNat : Int) * 16777216)) =
    ((a.toNat + b.toNat * 256 + c.toNat * 65536 + d.toNat * 16777216 : Nat) : Int) := by
  have h1 := a.toNat_lt
  have h2 := b.toNat_lt
  have h3 := c.toNat_lt
  have h4 := d.toNat_lt
  have w1 : ∀ x : Nat, x < 4294967296 → IntKind.i64.wrap (x : Int) = (x : Int) := fun x hx => by
    rw [IntKind.wrap_i64]
    omega
  rw [w1 _ (by omega), w1 b.toNat (by omega), w1 c.toNat (by omega), w1 d.toNat (by omega)]
  rw [show (b.toNat : Int) * 256 = ((b.toNat * 2 ^ 8 : Nat) : Int) by omega, show (c.toNat : Int) * 65536 = ((c.toNat * 2 ^ 16 : Nat) : Int) by omega, show (d.toNat : Int) * 16777216 = ((d.toNat * 2 ^ 24 : Nat) : Int) by omega]
  rw [w1 _ (by omega), w1 _ (by omega), w1 _ (by omega), i64_or_nat _ _ (by omega) (by omega), nat_or_add _ _ _ (by omega), i64_or_nat _ _ (by omega) (by omega), nat_or_add _ _ _ (by omega), i64_or_nat _ _ (by omega) (by omega), nat_or_add _ _ _ (by omega)]
set_option maxRecDepth 100000 in
theorem number4 (s : ByteArray) (w : World) (h : 4 ≤ s.size) : Calls Try.prog 181 #[.string s] w fun e w' => e = .returned (.int .i64 (num4 s : Int)) ∧ ∃ m, w' = w.drewN m := by
  have h0 : 0 < s.size := by omega
  have h1 : 1 < s.size := by omega
  have h2 : 2 < s.size := by omega
  have h3 : 3 < s.size := by omega
  have k0 : (0 : Int) ≤ 0 ∧ (0 : Int) < (s.size : Int) := by omega
  have k1 : (0 : Int) ≤ 1 ∧ (1 : Int) < (s.size : Int) := by omega
  have k2 : (0 : Int) ≤ 2 ∧ (2 : Int) < (s.size : Int) := by omega
  have k3 : (0 : Int) ≤ 3 ∧ (3 : Int) < (s.size : Int) := by omega
  go_enter Try.func181, Try.ntmps181
  go_wp2_with fail
  refine wp_stl 18 (by kernel_rfl) (by kernel_rfl) ?_
  simp only [List.take_succ_cons, List.take_zero, List.drop_succ_cons, List.drop_zero]
  repeat still_step
  refine wpStill_nil ?_
  go_wp2
  go_ret
  refine ⟨?_, 1, rfl⟩
  show Ending.returned (.int .i64 _) = _
  rw [i64_num, getb s h0, getb s h1, getb s h2, getb s h3]
  rfl
set_option maxRecDepth 100000 in
theorem rnumber4 (s : ByteArray) (w : World) (h : 4 ≤ s.size) : Calls Try.prog 158 #[.string s] w fun e w' => e = .returned (.int .u32 (num4 s : Int)) ∧ ∃ m, w' = w.drewN m := by
  have h0 : 0 < s.size := by omega
  have h1 : 1 < s.size := by omega
  have h2 : 2 < s.size := by omega
  have h3 : 3 < s.size := by omega
  have k0 : (0 : Int) ≤ 0 ∧ (0 : Int) < (s.size : Int) := by omega
  have k1 : (0 : Int) ≤ 1 ∧ (1 : Int) < (s.size : Int) := by omega
  have k2 : (0 : Int) ≤ 2 ∧ (2 : Int) < (s.size : Int) := by omega
  have k3 : (0 : Int) ≤ 3 ∧ (3 : Int) < (s.size : Int) := by omega
  go_enter Try.func158, Try.ntmps158
  go_wp2_with fail
  refine wp_stl 18 (by kernel_rfl) (by kernel_rfl) ?_
  simp only [List.take_succ_cons, List.take_zero, List.drop_succ_cons, List.drop_zero]
  repeat still_step
  refine wpStill_nil ?_
  go_wp2
  go_ret
  refine ⟨?_, 1, rfl⟩
  show Ending.returned (.int .u32 _) = _
  rw [u32_num, getb s h0, getb s h1, getb s h2, getb s h3]
  rfl
end Go.Proofs.Ytljmaicobafgkaa
