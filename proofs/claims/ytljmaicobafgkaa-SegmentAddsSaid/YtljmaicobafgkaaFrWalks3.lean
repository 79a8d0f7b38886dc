/- Layer 12: FramesByte, as its row asks for it. -/
import Derived.Test.YtljmaicobafgkaaFrByte
import Derived.Laws.Strings
namespace Go.Proofs.Ytljmaicobafgkaa
open Go.RowKit

theorem wf_i64 {n : Int} (h : (Lit.int .i64 n).wf = true) : -9223372036854775808 ≤ n ∧ n ≤ 9223372036854775807 := by
  simp [Lit.wf, IntKind.min, IntKind.max, IntKind.signed, IntKind.bits] at h
  omega
theorem wf_u8 {n : Int} (h : (Lit.int .u8 n).wf = true) : 0 ≤ n ∧ n ≤ 255 := by
  simp [Lit.wf, IntKind.min, IntKind.max, IntKind.signed, IntKind.bits] at h
  omega
theorem str_some {o : ByteArray} (h : o.size ≠ 0) : o.toList.isEmpty = false := by
  rw [ByteArray.toList_eq]
  rcases e : o.data.toList with _ | ⟨a, l⟩
  · exact absurd (by rw [size_list, e]; rfl) h
  · rfl
theorem wrap64_small {n : Int} (h0 : -9223372036854775808 ≤ n) (h1 : n ≤ 9223372036854775807) : wrap64 n = n := by
  unfold wrap64
  omega
theorem xor_u8 (a b : Nat) (ha : a < 256) (hb : b < 256) : bits .xor .u8 (a : Int) (b : Int) = ((a ^^^ b : Nat) : Int) := by
  show IntKind.u8.wrap ((BitVec.ofInt 8 (a : Int) ^^^ BitVec.ofInt 8 (b : Int)).toNat : Int) = _
  have h : (BitVec.ofInt 8 (a : Int) ^^^ BitVec.ofInt 8 (b : Int)).toNat = a ^^^ b := by
    rw [BitVec.toNat_xor, BitVec.ofInt_natCast, BitVec.toNat_ofNat, BitVec.ofInt_natCast, BitVec.toNat_ofNat, Nat.mod_eq_of_lt (by omega), Nat.mod_eq_of_lt (by omega)]
  have hx : a ^^^ b < 2 ^ 8 := Nat.xor_lt_two_pow (by omega) (by omega)
  rw [h]
  show ((a ^^^ b : Nat) : Int) % 256 = _
  omega
theorem turned_ne (a b : Nat) (hb : b ≠ 0) : a ^^^ b ≠ a := fun h => by
  have h2 := congrArg (a ^^^ ·) h
  simp only [← Nat.xor_assoc, Nat.xor_self, Nat.zero_xor] at h2
  exact hb h2
theorem dec_turned (l : List UInt8) (hl : l.length ≤ 4200) (m : Nat) (hm : m < (sealS ⟨l.toArray⟩).size) (z : UInt8) (hz : (sealS ⟨l.toArray⟩).data.toList[m] ≠ z) :
    DecTo ⟨((sealS ⟨l.toArray⟩).data.toList.set m z).toArray⟩ 0 0 0 0 ⟨#[]⟩ 4 := fun w => by
  have hs : (sealS ⟨l.toArray⟩).size = l.length + 4 := sealS_size ⟨l.toArray⟩
  have e := sealS_list ⟨l.toArray⟩
  have hsz : (⟨((sealS ⟨l.toArray⟩).data.toList.set m z).toArray⟩ : ByteArray).size = (sealS ⟨l.toArray⟩).size := by rw [str_size, List.length_set, ← size_list]
  refine (decode_any _ w ?_ ?_).mono ?_
  · rw [hsz]
    omega
  · rw [hsz]
    omega
  · rintro e' w' ⟨rfl, h⟩
    have ho : openL ((sealS ⟨l.toArray⟩).data.toList.set m z) = none := by
      have hm2 : m < (l ++ le4 (crc l)).length := by
        rw [← str_list l, ← e, ← size_list]
        exact hm
      have := open_turned l m z hm2 (by
        have h2 : (sealS ⟨l.toArray⟩).data.toList[m]'(by rw [← size_list]; exact hm) = (l ++ le4 (crc l))[m] := by
          simp only [e]
        rw [← h2]
        exact hz)
      rw [e]
      exact this
    have hv : decV ((sealS ⟨l.toArray⟩).data.toList.set m z) = .tuple #[.agg #[.int .i64 0, .int .i64 0, .int .i64 0, .int .i64 0, .string ⟨#[]⟩], .int .i64 4] := by unfold decV; rw [ho]; rfl
    rw [str_list, hv]
    exact ⟨rfl, h⟩
theorem walk_framesByte (k f t i : Int) (b : ByteArray) (n y : Int) (w : World) (_hk : (Lit.int .i64 k).wf = true) (_hf : (Lit.int .i64 f).wf = true) (_ht : (Lit.int .i64 t).wf = true) (_hi : (Lit.int .i64 i).wf = true) (hb : b.size ≤ maxLen)
    (_hn : (Lit.int .i64 n).wf = true) (hy : (Lit.int .u8 y).wf = true) :
    Calls Try.prog 10 #[.agg #[.int .i64 k, .int .i64 f, .int .i64 t, .int .i64 i, .string b], .int .i64 n, .int .u8 y] w fun e w' => e = .returned (.bool true) ∧ Below w.heap.size w w' := by
  have hy2 := wf_u8 hy
  rcases enc_cases k f t i b hb with ⟨l, hl, hE, _⟩ | ⟨c, hc, hE⟩
  · have hs : (sealS ⟨l.toArray⟩).size = l.length + 4 := sealS_size ⟨l.toArray⟩
    have he : (sealS ⟨l.toArray⟩).toList.isEmpty = false := str_some (by omega)
    by_cases h0 : y = 0
    · subst h0
      exact byte_same awake12 k f t i b _ hE he n w
    · have hu : IntKind.u64.wrap n = n % 18446744073709551616 := rfl
      have hn0 := Int.emod_nonneg n (b := 18446744073709551616) (by decide)
      have hm0 := Int.emod_nonneg (n % 18446744073709551616) (b := ((sealS ⟨l.toArray⟩).size : Int)) (by omega)
      have hm1 := Int.emod_lt_of_pos (n % 18446744073709551616) (b := ((sealS ⟨l.toArray⟩).size : Int)) (by omega)
      obtain ⟨m, hm⟩ : ∃ m : Nat, n % 18446744073709551616 % ((sealS ⟨l.toArray⟩).size : Int) = (m : Int) := ⟨_, (Int.toNat_of_nonneg hm0).symm⟩
      have hlt : m < (sealS ⟨l.toArray⟩).size := by omega
      have hmod : wrap64 ((IntKind.u64.wrap n).tmod ((sealS ⟨l.toArray⟩).size : Int)) = (m : Int) := by
        rw [hu, Int.tmod_eq_emod_of_nonneg hn0, hm]
        exact wrap64_small (by omega) (by omega)
      obtain ⟨y', rfl⟩ : ∃ y' : Nat, y = (y' : Int) := ⟨_, (Int.toNat_of_nonneg hy2.1).symm⟩
      obtain ⟨a, ha⟩ : ∃ a, a = (sealS ⟨l.toArray⟩).data[m]'hlt := ⟨_, rfl⟩
      have ha8 := a.toNat_lt
      have hx : a.toNat ^^^ y' < 2 ^ 8 := Nat.xor_lt_two_pow (by omega) (by omega)
      have hz : bits .xor .u8 (((sealS ⟨l.toArray⟩).data[m]'hlt).toNat : Int) (y' : Int) = ((UInt8.ofNat (a.toNat ^^^ y')).toNat : Int) := by
        rw [← ha, xor_u8 _ _ (by omega) (by omega), UInt8.toNat_ofNat', Nat.mod_eq_of_lt hx]
      have hne : (sealS ⟨l.toArray⟩).data.toList[m]'(by rw [← size_list]; exact hlt) ≠ UInt8.ofNat (a.toNat ^^^ y') := by
        rw [Array.getElem_toList, ← ha]
        intro h
        have h2 := congrArg UInt8.toNat h
        rw [UInt8.toNat_ofNat', Nat.mod_eq_of_lt hx] at h2
        exact turned_ne a.toNat y' (by omega) h2.symm
      exact byte_turn awake12 k f t i b _ hE he (by omega) n y' h0 m hlt hmod _ hz (dec_turned l hl m hlt _ hne) w
  · exact byte_err awake12 k f t i b c hE hc n y w
end Go.Proofs.Ytljmaicobafgkaa
