/- Chapter 10, super: a state's bytes. -/
import Derived.Test.YtljmaicobafgkaaLib1
import Derived.Test.YtljmaicobafgkaaSeal
import Derived.Lib.Repeat
namespace Go.Proofs.Ytljmaicobafgkaa
open Go.RowKit

def zL (n : Nat) : List UInt8 := List.replicate n 0
theorem zL_len (n : Nat) : (zL n).length = n := List.length_replicate ..
set_option maxRecDepth 100000 in
theorem zeros_any (n : Nat) (w : World) (h : n ≤ 65536) : Calls Try.prog 178 #[.int .i64 (n : Int)] w fun e w' => e = .returned (.string ⟨(zL n).toArray⟩) ∧ Below w.heap.size w w' := by
  go_enter Try.func178, Try.ntmps178
  go_wp2_with fail
  refine (sh_strings_Repeat ⟨#[0]⟩ n _ (by omega) (by show 1 * n ≤ _; omega)).mono ?_
  rintro e w1 ⟨rfl, hb⟩
  go_wp2
  go_ret
  refine ⟨?_, hb⟩
  have := Lib.repeatL_replicate 0 1 n
  rw [Nat.mul_one] at this
  unfold zL
  rw [← this]
  rfl
def padS (s : ByteArray) (n : Nat) : ByteArray := s ++ ⟨(zL (n - s.size)).toArray⟩
set_option maxRecDepth 100000 in
theorem pad_ok (s : ByteArray) (n : Nat) (w : World) (h : n ≤ 65536) (hs : s.size ≤ n) : Calls Try.prog 150 #[.string s, .int .i64 (n : Int)] w fun e w' => e = .returned (.tuple #[.string (padS s n), .int .i64 0]) ∧ Below w.heap.size w w' := by
  go_enter Try.func150, Try.ntmps150
  have hd : ((n : Int) - (s.size : Int)) = ((n - s.size : Nat) : Int) := by omega
  have hsz : s.size + (⟨(zL (n - s.size)).toArray⟩ : ByteArray).size ≤ 9223372036854775807 := by show s.size + (zL _).length ≤ _; rw [zL_len]; omega
  go_wp2_with fail
  refine (zeros_any _ _ (by omega)).mono ?_
  rintro e w1 ⟨rfl, hb⟩
  go_wp2
  go_ret2
  exact ⟨rfl, hb⟩
theorem pad_bad (s : ByteArray) (n : Nat) (w : World) (h : n ≤ 65536) (hs : n < s.size) : Calls Try.prog 150 #[.string s, .int .i64 (n : Int)] w fun e w' => e = .returned (.tuple #[.string ⟨#[]⟩, .int .i64 2]) ∧ w = w' := by
  go_enter Try.func150, Try.ntmps150
  go_wp2
  go_ret2
  exact ⟨rfl, rfl⟩
set_option maxRecDepth 100000 in
theorem four151 (n : Int) (w : World) (h0 : 0 ≤ n) (h1 : n < 4294967296) :
    Calls Try.prog 151 #[.int .i64 n] w fun e w' => e = .returned (.string ⟨(le4 n).toArray⟩) ∧ Below w.heap.size w w' := by
  have hcv : (convert 77 9 (.slice (some ⟨w.heap.size, 0, none⟩) 4 4)).run Try.prog (w.alloc (.cells #[.int .u8 (n % 256), .int .u8 (n / 256 % 256), .int .u8 (n / 65536 % 256), .int .u8 (n / 16777216)] 5)) = .ok (.string ⟨(le4 n).toArray⟩) (w.alloc (.cells #[.int .u8 (n % 256), .int .u8 (n / 256 % 256), .int .u8 (n / 65536 % 256), .int .u8 (n / 16777216)] 5)) := by
    refine conv_str (le4 n) rfl (fun ad ha j u hu => ?_) (fun h => by simp at h)
    cases ha
    rw [add_plain', Nat.zero_add, obj_cell (obj_new w _) j]
    rw [← hu]
    match j with
    | 0 => simp [byteVals, le4, ub_val]
    | 1 => simp [byteVals, le4, ub_val]
    | 2 => simp [byteVals, le4, ub_val]
    | 3 => simp [byteVals, le4, ub_small (n := n / 16777216) (by omega) (by omega)]
    | j + 4 => simp [byteVals, le4]
  have HC := hide hcv
  clear hcv
  go_enter Try.func151, Try.ntmps151
  go_wp2
  rw [HC.out]
  go_wp2
  go_ret
  exact ⟨rfl, (Below.refl _ _).alloc (Nat.le_refl _) _⟩
def packS (s : ByteArray) (g : Int) : ByteArray := sealS (padS (((⟨(le4 g).toArray⟩ : ByteArray) ++ (⟨(le4 (s.size : Int)).toArray⟩ : ByteArray)) ++ s) 252)
theorem size_app (a b : ByteArray) : (a ++ b).size = a.size + b.size := ByteArray.size_append
theorem pad_size (s : ByteArray) (n : Nat) (h : s.size ≤ n) : (padS s n).size = n := by
  unfold padS
  rw [size_app]
  show s.size + (zL _).length = n
  rw [zL_len]
  omega
theorem head_size (s : ByteArray) (g : Int) : (((⟨(le4 g).toArray⟩ : ByteArray) ++ (⟨(le4 (s.size : Int)).toArray⟩ : ByteArray)) ++ s).size = 8 + s.size := by
  rw [size_app, size_app]
  rfl
set_option maxRecDepth 100000 in
theorem pack_ok (s : ByteArray) (g : Int) (w : World) (h0 : 1 ≤ g) (h1 : g < 2147483648) (hs : s.size ≤ 244) : Calls Try.prog 91 #[.string s, .int .i64 g] w fun e w' => e = .returned (.tuple #[.string (packS s g), .int .i64 0]) ∧ Below w.heap.size w w' := by
  have hz1 : (⟨(le4 g).toArray⟩ : ByteArray).size + (⟨(le4 (s.size : Int)).toArray⟩ : ByteArray).size ≤ 9223372036854775807 := by show 4 + 4 ≤ _; decide
  have hz2 : ((⟨(le4 g).toArray⟩ : ByteArray) ++ (⟨(le4 (s.size : Int)).toArray⟩ : ByteArray)).size + s.size ≤ 9223372036854775807 := by rw [size_app]; show 4 + 4 + s.size ≤ _; omega
  go_enter Try.func91, Try.ntmps91
  go_wp2_with fail
  refine (four151 g _ (by omega) (by omega)).mono ?_
  rintro e w1 ⟨rfl, hb1⟩
  go_wp2_with fail
  refine (four151 (s.size : Int) _ (by omega) (by omega)).mono ?_
  rintro e w2 ⟨rfl, hb2⟩
  go_wp2_with fail
  refine (pad_ok _ 252 _ (by decide) (by rw [head_size]; omega)).mono ?_
  rintro e w3 ⟨rfl, hb3⟩
  go_wp2_with fail
  refine (seal_any _ _ (by rw [pad_size _ _ (by rw [head_size]; omega)]; decide)).mono ?_
  rintro e w4 ⟨rfl, hb4⟩
  go_wp2
  go_ret2
  exact ⟨rfl, ((hb1.trans (hb2.mono hb1.size)).trans (hb3.mono (Nat.le_trans hb1.size hb2.size))).trans (hb4.mono (Nat.le_trans hb1.size (Nat.le_trans hb2.size hb3.size)))⟩
theorem pack_arg (s : ByteArray) (g : Int) (w : World) (h : ¬ (1 ≤ g ∧ g < 2147483648)) : Calls Try.prog 91 #[.string s, .int .i64 g] w fun e w' => e = .returned (.tuple #[.string ⟨#[]⟩, .int .i64 1]) ∧ w = w' := by
  by_cases h1 : g < 1
  · go_enter Try.func91, Try.ntmps91
    go_wp2
    go_ret2
    exact ⟨rfl, rfl⟩
  · have h2 : 2147483648 ≤ g := by omega
    go_enter Try.func91, Try.ntmps91
    go_wp2
    go_ret2
    exact ⟨rfl, rfl⟩
theorem pack_size (s : ByteArray) (g : Int) (w : World) (h0 : 1 ≤ g) (h1 : g < 2147483648) (hs : 244 < s.size) : Calls Try.prog 91 #[.string s, .int .i64 g] w fun e w' => e = .returned (.tuple #[.string ⟨#[]⟩, .int .i64 2]) ∧ w = w' := by
  go_enter Try.func91, Try.ntmps91
  go_wp2
  go_ret2
  exact ⟨rfl, rfl⟩
end Go.Proofs.Ytljmaicobafgkaa
