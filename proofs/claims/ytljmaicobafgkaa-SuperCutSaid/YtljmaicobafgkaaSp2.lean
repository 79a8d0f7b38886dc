/- Chapter 10, super: the reference's bytes of a state. -/
import Derived.Test.YtljmaicobafgkaaSp1
import Derived.Test.YtljmaicobafgkaaRef
namespace Go.Proofs.Ytljmaicobafgkaa
open Go.RowKit

theorem made_zero (n : Nat) : madeCells (Value.cells (.int .u8 0)) n = (byteVals (zL n)).toArray := by
  apply Array.ext_getElem?
  intro j
  unfold madeCells byteVals zL
  simp only [Array.getElem?_map, List.getElem?_toArray, List.getElem?_map, List.getElem?_replicate]
  by_cases h : j < n
  · simp [h, Value.cells, Nat.mod_one]
  · simp [h]
theorem make_zero (n : Nat) (w : World) (h : n ≤ 65536) : (Instr.makeSlice 77 (.int .i64 (n : Int)) (.int .i64 (n : Int))).run Try.prog w = .ok (.slice (some ⟨w.heap.size, 0, none⟩) n n) (w.alloc (.cells (byteVals (zL n)).toArray 5)) := by
  obtain ⟨i0, hi0, hz0, hz1, hz2⟩ := info_parts info5
  have := run_makeSlice (P := Try.prog) w 77 5 i0 _ Try.underlying77 hi0 hz0 .i64 .i64 (n : Int) (n : Int) (by omega) (Int.le_refl _) (by rw [hz1]; omega) (by rw [hz2]; omega) (by omega)
  rw [hz1, Int.toNat_natCast, Nat.mul_one, made_zero] at this
  exact this
set_option maxRecDepth 100000 in
theorem rzeros_any (n : Nat) (w : World) (h : n ≤ 65536) : Calls Try.prog 179 #[.int .i64 (n : Int)] w fun e w' => e = .returned (.string ⟨(zL n).toArray⟩) ∧ Below w.heap.size w w' := by
  have hcv : (convert 77 9 (.slice (some ⟨w.heap.size, 0, none⟩) n n)).run Try.prog (w.alloc (.cells (byteVals (zL n)).toArray 5)) = .ok (.string ⟨(zL n).toArray⟩) (w.alloc (.cells (byteVals (zL n)).toArray 5)) := by
    refine conv_str (zL n) (zL_len n).symm (fun ad ha j u hu => ?_) (fun h => by simp at h)
    cases ha
    rw [add_plain', Nat.zero_add, obj_cell (obj_new w _) j]
    rw [← hu, List.getElem?_toArray]
  have HC := hide hcv
  have HM := hide (make_zero n w h)
  clear hcv
  go_enter Try.func179, Try.ntmps179
  go_wp2
  rw [HM.out]
  go_wp2
  rw [HC.out]
  go_wp2
  go_ret
  exact ⟨rfl, (Below.refl _ _).alloc (Nat.le_refl _) _⟩
set_option maxRecDepth 100000 in
theorem rpad_ok (s : ByteArray) (n : Nat) (w : World) (h : n ≤ 65536) (hs : s.size ≤ n) : Calls Try.prog 152 #[.string s, .int .i64 (n : Int)] w fun e w' => e = .returned (.tuple #[.string (padS s n), .int .i64 0]) ∧ Below w.heap.size w w' := by
  go_enter Try.func152, Try.ntmps152
  have hd : ((n : Int) - (s.size : Int)) = ((n - s.size : Nat) : Int) := by omega
  have hsz : s.size + (⟨(zL (n - s.size)).toArray⟩ : ByteArray).size ≤ 9223372036854775807 := by show s.size + (zL _).length ≤ _; rw [zL_len]; omega
  go_wp2_with fail
  refine (rzeros_any _ _ (by omega)).mono ?_
  rintro e w1 ⟨rfl, hb⟩
  go_wp2
  go_ret2
  exact ⟨rfl, hb⟩
set_option maxRecDepth 100000 in
theorem rpack_ok (s : ByteArray) (g : Int) (w : World) (h0 : 1 ≤ g) (h1 : g < 2147483648) (hs : s.size ≤ 244) : Calls Try.prog 92 #[.string s, .int .i64 g] w fun e w' => e = .returned (.tuple #[.string (packS s g), .int .i64 0]) ∧ Below w.heap.size w w' := by
  have hz1 : (⟨(le4 g).toArray⟩ : ByteArray).size + (⟨(le4 (s.size : Int)).toArray⟩ : ByteArray).size ≤ 9223372036854775807 := by show 4 + 4 ≤ _; decide
  have hz2 : ((⟨(le4 g).toArray⟩ : ByteArray) ++ (⟨(le4 (s.size : Int)).toArray⟩ : ByteArray)).size + s.size ≤ 9223372036854775807 := by rw [size_app]; show 4 + 4 + s.size ≤ _; omega
  go_enter Try.func92, Try.ntmps92
  go_wp2_with fail
  refine (rFour_any g _ (by omega) (by omega)).mono ?_
  rintro e w1 ⟨rfl, hb1⟩
  go_wp2_with fail
  refine (rFour_any (s.size : Int) _ (by omega) (by omega)).mono ?_
  rintro e w2 ⟨rfl, hb2⟩
  go_wp2_with fail
  refine (rpad_ok _ 252 _ (by decide) (by rw [head_size]; omega)).mono ?_
  rintro e w3 ⟨rfl, hb3⟩
  go_wp2_with fail
  refine (rSeal_any _ _ (by rw [pad_size _ _ (by rw [head_size]; omega)]; decide)).mono ?_
  rintro e w4 ⟨rfl, hb4⟩
  go_wp2
  go_ret2
  exact ⟨rfl, ((hb1.trans (hb2.mono hb1.size)).trans (hb3.mono (Nat.le_trans hb1.size hb2.size))).trans (hb4.mono (Nat.le_trans hb1.size (Nat.le_trans hb2.size hb3.size)))⟩
theorem rpack_arg (s : ByteArray) (g : Int) (w : World) (h : ¬ (1 ≤ g ∧ g < 2147483648)) : Calls Try.prog 92 #[.string s, .int .i64 g] w fun e w' => e = .returned (.tuple #[.string ⟨#[]⟩, .int .i64 1]) ∧ w = w' := by
  by_cases h1 : g < 1
  · go_enter Try.func92, Try.ntmps92
    go_wp2
    go_ret2
    exact ⟨rfl, rfl⟩
  · have h2 : 2147483648 ≤ g := by omega
    go_enter Try.func92, Try.ntmps92
    go_wp2
    go_ret2
    exact ⟨rfl, rfl⟩
theorem rpack_size (s : ByteArray) (g : Int) (w : World) (h0 : 1 ≤ g) (h1 : g < 2147483648) (hs : 244 < s.size) : Calls Try.prog 92 #[.string s, .int .i64 g] w fun e w' => e = .returned (.tuple #[.string ⟨#[]⟩, .int .i64 2]) ∧ w = w' := by
  go_enter Try.func92, Try.ntmps92
  go_wp2
  go_ret2
  exact ⟨rfl, rfl⟩
theorem room_any (w : World) : Calls Try.prog 93 #[] w fun e w' => e = .returned (.int .i64 244) ∧ w = w' := by
  go_enter Try.func93, Try.ntmps93
  go_wp2
  go_ret
  exact ⟨rfl, rfl⟩
end Go.Proofs.Ytljmaicobafgkaa
