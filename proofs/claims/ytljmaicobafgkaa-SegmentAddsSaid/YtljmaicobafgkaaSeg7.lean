/- Chapter 31, segment: a number of four bytes; parts. -/
import Derived.Test.YtljmaicobafgkaaSeg6
import Derived.Test.YtljmaicobafgkaaFrWalks3
namespace Go.Proofs.Ytljmaicobafgkaa
open Go.RowKit

theorem or_i64 (a b i : Nat) (ha : a < 2 ^ i) (hs : a + b * 2 ^ i < 4611686018427387904) : bits .or .i64 (a : Int) ((b * 2 ^ i : Nat) : Int) = ((a + b * 2 ^ i : Nat) : Int) := by
  show IntKind.i64.wrap ((BitVec.ofInt 64 (a : Int) ||| BitVec.ofInt 64 ((b * 2 ^ i : Nat) : Int)).toNat : Int) = _
  have h : (BitVec.ofInt 64 (a : Int) ||| BitVec.ofInt 64 ((b * 2 ^ i : Nat) : Int)).toNat = a + b * 2 ^ i := by
    rw [BitVec.toNat_or, BitVec.ofInt_natCast, BitVec.toNat_ofNat, BitVec.ofInt_natCast, BitVec.toNat_ofNat, Nat.mod_eq_of_lt (by omega), Nat.mod_eq_of_lt (by omega)]
    have := Nat.shiftLeft_add_eq_or_of_lt ha b
    rw [Nat.shiftLeft_eq] at this
    rw [Nat.or_comm, ← this, Nat.add_comm]
  rw [h]
  generalize a + b * 2 ^ i = m at hs
  have hm : ((m : Int)) % 18446744073709551616 = (m : Int) := by omega
  show (if (true && decide ((m : Int) % 18446744073709551616 ≥ 9223372036854775808)) = true then (m : Int) % 18446744073709551616 - 18446744073709551616 else (m : Int) % 18446744073709551616) = (m : Int)
  rw [hm, if_neg (by simp; omega)]
/-- The number that four bytes are. -/
def rd4 (a b c d : UInt8) : Nat := a.toNat + b.toNat * 256 + c.toNat * 65536 + d.toNat * 16777216
theorem rd4_or (a b c d : UInt8) :
    bits .or .i64 (bits .or .i64 (bits .or .i64 (wrap64 (a.toNat : Int)) (wrap64 (wrap64 (b.toNat : Int) * 256))) (wrap64 (wrap64 (c.toNat : Int) * 65536))) (wrap64 (wrap64 (d.toNat : Int) * 16777216)) = (rd4 a b c d : Int) := by
  have ha := a.toNat_lt
  have hb := b.toNat_lt
  have hc := c.toNat_lt
  have hd := d.toNat_lt
  rw [wrap64_small (n := (a.toNat : Int)) (by omega) (by omega), wrap64_small (n := (b.toNat : Int)) (by omega) (by omega), wrap64_small (n := (c.toNat : Int)) (by omega) (by omega), wrap64_small (n := (d.toNat : Int)) (by omega) (by omega)]
  rw [wrap64_small (n := (b.toNat : Int) * 256) (by omega) (by omega), wrap64_small (n := (c.toNat : Int) * 65536) (by omega) (by omega), wrap64_small (n := (d.toNat : Int) * 16777216) (by omega) (by omega)]
  have e1 := or_i64 a.toNat b.toNat 8 (by omega) (by omega)
  have e2 := or_i64 (a.toNat + b.toNat * 2 ^ 8) c.toNat 16 (by omega) (by omega)
  have e3 := or_i64 (a.toNat + b.toNat * 2 ^ 8 + c.toNat * 2 ^ 16) d.toNat 24 (by omega) (by omega)
  simp only [show (2 : Nat) ^ 8 = 256 from rfl, show (2 : Nat) ^ 16 = 65536 from rfl, show (2 : Nat) ^ 24 = 16777216 from rfl] at e1 e2 e3
  rw [show ((b.toNat : Int) * 256) = ((b.toNat * 256 : Nat) : Int) from by omega, show ((c.toNat : Int) * 65536) = ((c.toNat * 65536 : Nat) : Int) from by omega, show ((d.toNat : Int) * 16777216) = ((d.toNat * 16777216 : Nat) : Int) from by omega, e1, e2, e3]
  rfl
/-- The four bytes of a number are it. -/
theorem rd4_le4 {n : Int} (h0 : 0 ≤ n) (h1 : n < 4294967296) : (rd4 (ub n) (ub (n / 256)) (ub (n / 65536)) (ub (n / 16777216)) : Int) = n := by
  have e0 := ub_val n
  have e1 := ub_val (n / 256)
  have e2 := ub_val (n / 65536)
  have e3 := ub_val (n / 16777216)
  unfold rd4
  omega
end Go.Proofs.Ytljmaicobafgkaa
