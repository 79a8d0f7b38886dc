/- Chapter 10, super: places; what a place's bytes tell. -/
import Derived.Test.YtljmaicobafgkaaSp3
namespace Go.Proofs.Ytljmaicobafgkaa
open Go.RowKit

def plc (g : Nat) : Int := ((g % 2 * 4 : Nat) : Int)
theorem place153 (g : Nat) (w : World) (h : g < 4294967296) : Calls Try.prog 153 #[.int .i64 (g : Int)] w fun e w' => e = .returned (.int .i64 (plc g)) ∧ w = w' := by
  go_enter Try.func153, Try.ntmps153
  go_wp2
  go_ret
  refine ⟨?_, rfl⟩
  show Ending.returned (.int .i64 ((g : Int) % 2 * 4)) = _
  rw [show (g : Int) % 2 * 4 = plc g by unfold plc; omega]
theorem place159 (g : Nat) (w : World) (h : g < 4294967296) : Calls Try.prog 159 #[.int .i64 (g : Int)] w fun e w' => e = .returned (.int .i64 (plc g)) ∧ w = w' := by
  go_enter Try.func159, Try.ntmps159
  go_wp2
  go_ret
  refine ⟨?_, rfl⟩
  show Ending.returned (.int .i64 ((g : Int) % 2 * 4)) = _
  rw [show (g : Int) % 2 * 4 = plc g by unfold plc; omega]
/-- Four bytes' number, read back. -/
theorem num4_le4 (n : Int) (l : List UInt8) (h0 : 0 ≤ n) (h1 : n < 4294967296) : (num4 ⟨(le4 n ++ l).toArray⟩ : Int) = n := by
  unfold num4
  rw [str_list]
  simp only [le4, List.cons_append, List.nil_append, List.getD_cons_zero, List.getD_cons_succ]
  have e0 := ub_val n
  have e1 := ub_val (n / 256)
  have e2 := ub_val (n / 65536)
  have e3 := ub_val (n / 16777216)
  omega
/-- A place's bytes count, and tell this generation and body. -/
def Good (s : ByteArray) (at_ : Int) (g : Nat) (b : ByteArray) : Prop := 1 ≤ g ∧ g < 2147483648 ∧ b.size ≤ 244 ∧ plc g = at_ ∧ s = packS b g
def headL (g : Nat) (b : ByteArray) : List UInt8 := le4 (g : Int) ++ (le4 (b.size : Int) ++ (b.data.toList ++ zL (244 - b.size)))
theorem app_list (a b : ByteArray) : (a ++ b).data.toList = a.data.toList ++ b.data.toList := by
  rw [ByteArray.data_append, Array.toList_append]
theorem pad_list (b : ByteArray) (g : Nat) (h : b.size ≤ 244) : (padS (((⟨(le4 (g : Int)).toArray⟩ : ByteArray) ++ (⟨(le4 (b.size : Int)).toArray⟩ : ByteArray)) ++ b) 252).data.toList = headL g b := by
  unfold padS headL
  rw [app_list, app_list, app_list, head_size, str_list, str_list, str_list, show 252 - (8 + b.size) = 244 - b.size by omega]
  simp only [List.append_assoc]
theorem good_inj {s : ByteArray} {at_ : Int} {g : Nat} {b : ByteArray} (h : Good s at_ g b) : num4 ⟨(headL g b).toArray⟩ = g ∧ num4 ⟨((headL g b).drop 4).toArray⟩ = b.size ∧ ((headL g b).drop 8).take b.size = b.data.toList := by
  obtain ⟨h1, h2, h3, -, -⟩ := h
  refine ⟨?_, ?_, ?_⟩
  · have := num4_le4 (g : Int) (le4 (b.size : Int) ++ (b.data.toList ++ zL (244 - b.size))) (by omega) (by omega)
    unfold headL
    omega
  · have := num4_le4 (b.size : Int) (b.data.toList ++ zL (244 - b.size)) (by omega) (by omega)
    unfold headL
    rw [show (le4 (g : Int) ++ (le4 (b.size : Int) ++ (b.data.toList ++ zL (244 - b.size)))).drop 4 = le4 (b.size : Int) ++ (b.data.toList ++ zL (244 - b.size)) from rfl]
    omega
  · unfold headL
    rw [show (le4 (g : Int) ++ (le4 (b.size : Int) ++ (b.data.toList ++ zL (244 - b.size)))).drop 8 = b.data.toList ++ zL (244 - b.size) from rfl]
    rw [size_list, List.take_left]
end Go.Proofs.Ytljmaicobafgkaa
