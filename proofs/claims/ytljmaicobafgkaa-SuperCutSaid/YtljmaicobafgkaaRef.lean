/- The walks of the references of layers 2 and 3. -/
import Derived.Test.YtljmaicobafgkaaReader
import Derived.Test.YtljmaicobafgkaaSeal
namespace Go.Proofs.Ytljmaicobafgkaa
open Go.RowKit

theorem and1_u32 (n : Nat) : bits .and .u32 (n : Int) 1 = ((n % 2 : Nat) : Int) := by
  show IntKind.u32.wrap ((BitVec.ofInt 32 (n : Int) &&& BitVec.ofInt 32 1).toNat : Int) = _
  have h : (BitVec.ofInt 32 (n : Int) &&& BitVec.ofInt 32 1).toNat = n % 2 := by
    rw [BitVec.toNat_and, BitVec.ofInt_natCast, BitVec.toNat_ofNat, show (BitVec.ofInt 32 1).toNat = 1 from by decide, Nat.and_one_is_mod]
    omega
  rw [h]
  show ((n % 2 : Nat) : Int) % 4294967296 = _
  omega
theorem xor0_u32 (a : Nat) (ha : a < 4294967296) : bits .xor .u32 (a : Int) 0 = (a : Int) := by
  show IntKind.u32.wrap ((BitVec.ofInt 32 (a : Int) ^^^ BitVec.ofInt 32 0).toNat : Int) = _
  have h : (BitVec.ofInt 32 (a : Int) ^^^ BitVec.ofInt 32 0).toNat = a := by
    rw [BitVec.toNat_xor, BitVec.ofInt_natCast, BitVec.toNat_ofNat]
    simp
    omega
  rw [h]
  show (a : Int) % 4294967296 = _
  omega
theorem xor_comm_u32 (a b : Int) : bits .xor .u32 a b = bits .xor .u32 b a := by
  show IntKind.u32.wrap ((BitVec.ofInt 32 a ^^^ BitVec.ofInt 32 b).toNat : Int) = IntKind.u32.wrap ((BitVec.ofInt 32 b ^^^ BitVec.ofInt 32 a).toNat : Int)
  rw [BitVec.xor_comm]
theorem bitStep_odd (c : Int) (_h0 : 0 ≤ c) (h : (bits .and .u32 c 1 == 1) = true) : bits .xor .u32 (c / 2) 3988292384 = bitStep c := by
  have h' : bits .and .u32 c 1 = 1 := by simpa using h
  unfold bitStep
  rw [h', show (-1 : Int) % 4294967296 = 4294967295 from by decide, show bits .and .u32 3988292384 4294967295 = 3988292384 from by decide]
theorem bitStep_even (c : Int) (h0 : 0 ≤ c) (h1 : c < 4294967296) (h : (bits .and .u32 c 1 == 1) = false) : c / 2 = bitStep c := by
  obtain ⟨n, rfl⟩ : ∃ n : Nat, c = n := ⟨c.toNat, by omega⟩
  have h' : bits .and .u32 (n : Int) 1 = 0 := by
    have e : ¬ bits .and .u32 (n : Int) 1 = 1 := by simpa using h
    rw [and1_u32] at e ⊢
    omega
  unfold bitStep
  rw [h', show (-0 : Int) % 4294967296 = 0 from by decide, show bits .and .u32 3988292384 0 = 0 from by decide, show ((n : Int) / 2) = ((n / 2 : Nat) : Int) from by omega, xor0_u32 _ (by omega)]

def StepS (c0 : Int) (c k : Value) : Prop :=
  ∃ (m : Nat) (d : Int), k = .int .i64 m ∧ c = .int .u32 d ∧ m ≤ 8 ∧ 0 ≤ d ∧ d < 4294967296 ∧ Hid (bitSteps (8 - m) d = bitSteps 8 c0)
theorem step_any (c : Int) (b : Int) (w : World) :
    Calls Try.prog 190 #[.int .u32 c, .int .u8 b] w fun e w' => e = .returned (.int .u32 (bitSteps 8 (bits .xor .u32 c (b % 4294967296)))) ∧ w = w' := by
  go_enter Try.func190, Try.ntmps190
  go_wp2
  go_loop [0, 5, 6] (fun q k _ => StepS (bits .xor .u32 c (b % 4294967296)) q k) (fun _ k _ => 8 - (intOf k).toNat)
  case atStart => exact ⟨0, _, rfl, rfl, by omega, (bits_u32 _ _ _).1, (bits_u32 _ _ _).2, rfl⟩
  case round =>
    obtain ⟨m, d, rfl, rfl, hm, hd0, hd1, HD⟩ := hrel
    by_cases hlt : m < 8
    · cases ho : (bits .and .u32 d 1 == 1) with
      | true =>
        have HO := hide ho
        go_wp2
        go_round
        case rel =>
          refine ⟨m + 1, bitStep d, by go_num, ?_, by omega, (bits_u32 _ _ _).1, (bits_u32 _ _ _).2, ?_⟩
          · rw [← bitStep_odd d hd0 HO.out]
          · have := HD.out
            rw [show 8 - m = (8 - (m + 1)) + 1 from by omega] at this
            exact this
        case measure => simp [intOf]; omega
      | false =>
        have HO := hide ho
        go_wp2
        go_round
        case rel =>
          refine ⟨m + 1, bitStep d, by go_num, ?_, by omega, (bits_u32 _ _ _).1, (bits_u32 _ _ _).2, ?_⟩
          · rw [← bitStep_even d hd0 hd1 HO.out]
          · have := HD.out
            rw [show 8 - m = (8 - (m + 1)) + 1 from by omega] at this
            exact this
        case measure => simp [intOf]; omega
    · obtain rfl : m = 8 := by omega
      go_wp2
      go_ret
      exact ⟨by rw [← HD.out]; rfl, rfl⟩

theorem sumInit_eq : sumInit = 4294967295 := by decide
theorem rMore_any (s : ByteArray) (w : World) (_hs : s.size ≤ 9223372036854775807) :
    Calls Try.prog 185 #[.int .u32 0, .string s] w fun e w' => e = .returned (.int .u32 (crc s.data.toList)) ∧ w = w' := by
  go_enter Try.func185, Try.ntmps185
  go_wp2
  rw [show bits .xor .u32 0 4294967295 = 4294967295 from by decide]
  go_loop [5, 6] (fun c i => ∃ (k : Nat) (d : Int), k ≤ s.size ∧ i = .int .i64 k ∧ c = .int .u32 d ∧ Hid (d = sumOn sumInit (s.data.toList.take k)) ∧ 0 ≤ d ∧ d < 4294967296) (fun _ i => s.size - (intOf i).toNat)
  case atStart => exact ⟨0, _, by omega, rfl, rfl, by rw [sumInit_eq]; exact rfl, by omega, by omega⟩
  case round =>
    obtain ⟨k, d, hk, rfl, rfl, hd, hd0, hd1⟩ := hrel
    by_cases hlt : k < s.size
    · have hn := bitSteps_range 8 (bits .xor .u32 d ((s[k].toNat : Int) % 4294967296)) (bits_u32 _ _ _).1 (bits_u32 _ _ _).2
      have hx : Hid (bitSteps 8 (bits .xor .u32 d ((s[k].toNat : Int) % 4294967296)) = sumOn sumInit (s.data.toList.take (k + 1))) := by
        rw [take_snoc_bytes s k hlt, sumOn_snoc, ← hd.out]
        exact rfl
      go_wp2_with fail
      refine (step_any _ _ _).mono ?_
      rintro e w' ⟨rfl, rfl⟩
      go_wp2
      go_round
      case rel => exact ⟨k + 1, _, by omega, by go_num, rfl, hx, hn.1, hn.2⟩
      case measure => simp [intOf]; omega
    · go_wp2
      go_ret
      have e : s.data.toList.take k = s.data.toList := List.take_of_length_le (by simp; omega)
      have hd' := hd.out
      rw [e] at hd'
      refine ⟨?_, rfl⟩
      rw [hd', crc, xor_comm_u32]
      rfl
theorem rSum_any (s : ByteArray) (w : World) (hs : s.size ≤ 9223372036854775807) :
    Calls Try.prog 172 #[.string s] w fun e w' => e = .returned (.int .u32 (crc s.data.toList)) ∧ w = w' := by
  go_enter Try.func172, Try.ntmps172
  go_wp2_with (go_at_call 185; refine (rMore_any _ _ hs).mono ?_; rintro e w' ⟨rfl, rfl⟩)
  go_ret
  exact ⟨rfl, rfl⟩
set_option maxRecDepth 100000 in
theorem rFour_any (n : Int) (w : World) (h0 : 0 ≤ n) (h1 : n < 4294967296) :
    Calls Try.prog 130 #[.int .u32 n] w fun e w' => e = .returned (.string ⟨(le4 n).toArray⟩) ∧ Below w.heap.size w w' := by
  have hcv : (convert 77 9 (.slice (some ⟨w.heap.size, 0, none⟩) 4 4)).run Try.prog (w.alloc (.cells #[.int .u8 (n % 256), .int .u8 (n / 256 % 256), .int .u8 (n / 65536 % 256), .int .u8 (n / 16777216)] 5)) = .ok (.string ⟨(le4 n).toArray⟩) (w.alloc (.cells #[.int .u8 (n % 256), .int .u8 (n / 256 % 256), .int .u8 (n / 65536 % 256), .int .u8 (n / 16777216)] 5)) := by
    refine conv_str (le4 n) rfl (fun ad ha j u hu => ?_) (fun h => by simp at h)
    cases ha
    rw [add_plain', Nat.zero_add, obj_cell (obj_new w _) j]
    rw [← hu]
    match j with
    | 0 => simp [byteVals, le4, ub_val]
    | 1 => simp [byteVals, le4, ub_val]
    | 2 => simp [byteVals, le4, ub_val]
    | 3 => simp [byteVals, le4, ub_small (n := n / 16777216) (by omega) (by omega)]
    | j + 4 => simp [byteVals, le4]
  have HC := hide hcv
  clear hcv
  go_enter Try.func130, Try.ntmps130
  go_wp2
  rw [HC.out]
  go_wp2
  go_ret
  exact ⟨rfl, (Below.refl _ _).alloc (Nat.le_refl _) _⟩
theorem rSeal_any (s : ByteArray) (w : World) (hs : s.size ≤ 4611686018427387904) :
    Calls Try.prog 118 #[.string s] w fun e w' => e = .returned (.string (sealS s)) ∧ Below w.heap.size w w' := by
  have hsz : s.size + (⟨(le4 (crc s.data.toList)).toArray⟩ : ByteArray).size ≤ 9223372036854775807 := by rw [str_size]; show s.size + 4 ≤ _; omega
  go_enter Try.func118, Try.ntmps118
  go_wp2_with (first | (go_at_call 172; refine (rSum_any _ _ (by omega)).mono ?_; rintro e w' ⟨rfl, rfl⟩) | (go_at_call 130; refine (rFour_any _ _ (crc_range _).1 (crc_range _).2).mono ?_; rintro e w' ⟨rfl, hb⟩))
  go_ret
  exact ⟨rfl, hb⟩
theorem rOpen_short (s : ByteArray) (w : World) (hs : s.size < 4) :
    Calls Try.prog 121 #[.string s] w fun e w' => e = .returned (.tuple #[.string ⟨#[]⟩, .int .i64 2]) ∧ Below w.heap.size w w' := by
  have h : (s.size : Int) - 4 < 0 := by omega
  go_enter Try.func121, Try.ntmps121
  go_wp2
  go_ret2
  exact ⟨rfl, Below.refl _ _⟩
theorem seal_eq (s : ByteArray) (n : Nat) (hs : s.size = n + 4) : ((sealS ⟨(s.data.toList.take n).toArray⟩).toList == s.toList) = (le4 (crc (s.data.toList.take n)) == s.data.toList.drop n) := by
  have e : (sealS ⟨(s.data.toList.take n).toArray⟩).toList = s.data.toList.take n ++ le4 (crc (s.data.toList.take n)) := by
    rw [Lib.toList_data, sealS]
    simp
  rw [e, Lib.toList_data]
  rw [Bool.eq_iff_iff]
  simp only [beq_iff_eq]
  constructor
  · intro h
    have h2 := congrArg (List.drop n) h
    rw [List.drop_append_of_le_length (by rw [List.length_take]; have := size_list s; omega), List.drop_of_length_le (by rw [List.length_take]; omega)] at h2
    exact h2
  · intro h
    rw [h, List.take_append_drop]
theorem rOpen_long (s : ByteArray) (w : World) (hs0 : 4 ≤ s.size) (hs2 : s.size ≤ 4611686018427387904) :
    Calls Try.prog 121 #[.string s] w fun e w' => e = .returned (openV s.data.toList) ∧ Below w.heap.size w w' := by
  obtain ⟨n, hs⟩ : ∃ n, s.size = n + 4 := ⟨s.size - 4, by omega⟩
  have h : (s.size : Int) - 4 = (n : Int) := by omega
  have h1 : (n : Int) ≤ s.size := by omega
  have h2 : n ≤ s.size := by omega
  have h3 : ((n : Int) < 0) = False := by simp
  have HS := hide hs
  clear hs
  have hy : s.extract 0 n = ⟨(s.data.toList.take n).toArray⟩ := by rw [extract_str]; simp
  have hz : (⟨(s.data.toList.take n).toArray⟩ : ByteArray).size ≤ 4611686018427387904 := by
    rw [str_size, List.length_take]
    have := size_list s
    omega
  have hq := seal_eq s n HS.out
  by_cases he : le4 (crc (s.data.toList.take n)) = s.data.toList.drop n
  · have hv := hide (openV_yes (l := s.data.toList) HS.out he)
    have hd : ((sealS ⟨(s.data.toList.take n).toArray⟩).toList == s.toList) = true := by rw [hq]; simp [he]
    have hd1 : (!((sealS ⟨(s.data.toList.take n).toArray⟩).toList == s.toList)) = false := by rw [hd]; rfl
    clear he hq
    rw [hv.out]
    go_enter Try.func121, Try.ntmps121
    go_wp2_with fail
    refine (rSeal_any _ _ hz).mono ?_
    rintro e w' ⟨rfl, hb⟩
    go_wp2
    go_ret2
    exact ⟨rfl, hb⟩
  · have hv := hide (openV_no (l := s.data.toList) HS.out he)
    have hd : ((sealS ⟨(s.data.toList.take n).toArray⟩).toList == s.toList) = false := by rw [hq]; simp [he]
    have hd1 : (!((sealS ⟨(s.data.toList.take n).toArray⟩).toList == s.toList)) = true := by rw [hd]; rfl
    clear he hq
    rw [hv.out]
    go_enter Try.func121, Try.ntmps121
    go_wp2_with fail
    refine (rSeal_any _ _ hz).mono ?_
    rintro e w' ⟨rfl, hb⟩
    go_wp2
    go_ret2
    exact ⟨rfl, hb⟩
end Go.Proofs.Ytljmaicobafgkaa
