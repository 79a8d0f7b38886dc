/- Numbers as bytes: plain arithmetic of zigzag and seven-bit groups. -/
import Derived.Test.YthcnoamgkkbkcaaBytes
import Derived.Laws.BitsAllLaws
namespace Go.Proofs.Ythcnoamgkkbkcaa
open Go.RowKit

/-- Seven bits a byte, the least first. -/
def numN (u : Nat) : List UInt8 := if h : u < 128 then [UInt8.ofNat u] else UInt8.ofNat (u % 128 + 128) :: numN (u / 128)
termination_by u
decreasing_by omega
def zz (n : Int) : Nat := if 0 ≤ n then (2 * n).toNat else (-2 * n - 1).toNat
def num (n : Int) : List UInt8 := numN (zz n)
theorem numN_small {u : Nat} (h : u < 128) : numN u = [UInt8.ofNat u] := by rw [numN]; simp [h]
theorem numN_large {u : Nat} (h : ¬ u < 128) : numN u = UInt8.ofNat (u % 128 + 128) :: numN (u / 128) := by rw [numN]; simp [h]
theorem numN_length : ∀ (k u : Nat), u < 128 ^ (k + 1) → (numN u).length ≤ k + 1
  | 0, u, h => by rw [numN_small (by simpa using h)]; simp
  | k + 1, u, h => by
    by_cases hu : u < 128
    · rw [numN_small hu]; simp
    · rw [numN_large hu]
      have := numN_length k (u / 128) (by rw [Nat.pow_succ] at h; exact Nat.div_lt_of_lt_mul (by rw [Nat.mul_comm]; exact h))
      simp only [List.length_cons]
      omega
theorem numN_ten (u : Nat) (h : u < 18446744073709551616) : (numN u).length ≤ 10 := numN_length 9 u (Nat.lt_of_lt_of_le h (by decide))
theorem numN_pos (u : Nat) : 1 ≤ (numN u).length := by
  by_cases hu : u < 128
  · rw [numN_small hu]; simp
  · rw [numN_large hu]; simp

theorem zz_lt (n : Int) (h0 : -9223372036854775808 ≤ n) (h1 : n ≤ 9223372036854775807) : zz n < 18446744073709551616 := by
  unfold zz; split <;> omega

theorem xor_u64_zero (a : Nat) (ha : a < 18446744073709551616) : bits .xor .u64 (a : Int) 0 = (a : Int) := by
  show IntKind.u64.wrap ((BitVec.ofInt 64 (a : Int) ^^^ BitVec.ofInt 64 0).toNat : Int) = _
  have h : (BitVec.ofInt 64 (a : Int) ^^^ BitVec.ofInt 64 0).toNat = a := by
    rw [BitVec.toNat_xor, BitVec.ofInt_natCast, BitVec.toNat_ofNat]
    simp
    omega
  rw [h]
  show (a : Int) % 18446744073709551616 = _
  omega
theorem not_u64 (a : Nat) (ha : a < 18446744073709551616) : bits .xor .u64 (a : Int) 18446744073709551615 = ((18446744073709551615 - a : Nat) : Int) := by
  show IntKind.u64.wrap ((BitVec.ofInt 64 (a : Int) ^^^ BitVec.ofInt 64 18446744073709551615).toNat : Int) = _
  have h : BitVec.ofInt 64 (a : Int) ^^^ BitVec.ofInt 64 18446744073709551615 = ~~~ (BitVec.ofNat 64 a) := by
    rw [BitVec.ofInt_natCast]
    have : BitVec.ofInt 64 18446744073709551615 = BitVec.allOnes 64 := by decide
    rw [this, BitVec.xor_allOnes]
  rw [h, BitVec.toNat_not, BitVec.toNat_ofNat]
  show (((2 ^ 64 - 1 - a % 2 ^ 64 : Nat)) : Int) % 18446744073709551616 = _
  omega
theorem zig (n : Int) (h0 : -9223372036854775808 ≤ n) (h1 : n ≤ 9223372036854775807) :
    bits .xor .u64 (IntKind.u64.wrap (IntKind.u64.wrap n * 2)) (IntKind.u64.wrap (n / 9223372036854775808)) = (zz n : Int) := by
  have hw : ∀ x : Int, IntKind.u64.wrap x = x % 18446744073709551616 := fun x => rfl
  simp only [hw]
  by_cases hn : 0 ≤ n
  · have e1 : n / 9223372036854775808 % 18446744073709551616 = 0 := by omega
    have e2 : n % 18446744073709551616 * 2 % 18446744073709551616 = ((2 * n).toNat : Int) := by omega
    rw [e1, e2, xor_u64_zero _ (by omega)]
    simp [zz, hn]
  · have e1 : n / 9223372036854775808 % 18446744073709551616 = 18446744073709551615 := by omega
    have e2 : n % 18446744073709551616 * 2 % 18446744073709551616 = ((2 * n + 18446744073709551616).toNat : Int) := by omega
    rw [e1, e2, not_u64 _ (by omega)]
    simp only [zz, hn, if_false]
    omega
theorem or128 (u : Nat) : bits .or .u8 ((u : Int) % 256) 128 = ((UInt8.ofNat (u % 128 + 128)).toNat : Int) := by
  have h : ∀ a : Fin 256, bits .or .u8 ((a.val : Nat) : Int) 128 = ((a.val % 128 + 128 : Nat) : Int) := by decide +kernel
  have h1 := h ⟨u % 256, Nat.mod_lt _ (by decide)⟩
  have e : ((u : Int) % 256) = ((u % 256 : Nat) : Int) := by omega
  rw [e, h1]
  simp only [UInt8.toNat_ofNat']
  omega
end Go.Proofs.Ythcnoamgkkbkcaa
