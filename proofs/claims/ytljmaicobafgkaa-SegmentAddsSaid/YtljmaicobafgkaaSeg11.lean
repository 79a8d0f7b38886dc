/- Chapter 31, segment: the walk of Open. -/
import Derived.Test.YtljmaicobafgkaaSeg10
namespace Go.Proofs.Ytljmaicobafgkaa
open Go.RowKit

def rLeft (σ : Option (List UInt8)) : Nat := (σ.getD []).length
theorem rLeft_any (g : Nat) (σ : Option (List UInt8)) (w : World) (h : Rdr w g σ) :
    Calls Try.prog 132 #[.pointer (some ⟨g, 0, none⟩)] w fun e w' => e = .returned (.int .i64 (rLeft σ)) ∧ Below w.heap.size w w' := by
  have c0 := obj_cell h 0
  clear h
  rcases σ with _ | l
  · simp only [rdrCells, List.getElem?_toArray, List.getElem?_cons_zero] at c0
    go_enter Try.func132, Try.ntmps132
    go_wp2
    go_ret
    exact ⟨rfl, Below.refl _ _⟩
  · simp only [rdrCells, List.getElem?_toArray, List.getElem?_cons_zero] at c0
    go_enter Try.func132, Try.ntmps132
    go_wp2
    go_ret
    exact ⟨rfl, Below.refl _ _⟩
set_option maxHeartbeats 4000000 in
set_option maxRecDepth 1000000 in
theorem segOpen_short (s : ByteArray) (w : World) (hs : s.size < 4) :
    Calls Try.prog 62 #[.string s] w fun e w' => e = .returned (.tuple #[.slice none 0 0, .int .i64 4]) ∧ Below w.heap.size w w' := by
  go_enter Try.func62, Try.ntmps62
  go_wp2_with fail
  go_step3
  go_wp2_with fail
  refine (open_short s _ hs).mono ?_
  rintro e w1 ⟨rfl, hb1⟩
  go_wp2
  unfold Exit.noGoto
  go_ret2
  exact ⟨rfl, hb1⟩
set_option maxHeartbeats 4000000 in
set_option maxRecDepth 1000000 in
theorem segOpen_sum (s : ByteArray) (w : World) (h4 : 4 ≤ s.size) (hs : s.size ≤ 1073741824) (ho : openL s.data.toList = none) :
    Calls Try.prog 62 #[.string s] w fun e w' => e = .returned (.tuple #[.slice none 0 0, .int .i64 4]) ∧ Below w.heap.size w w' := by
  have hv : openV s.data.toList = .tuple #[.string ⟨#[]⟩, .int .i64 4] := by unfold openV; rw [ho]
  have HV := hide hv
  clear hv ho
  go_enter Try.func62, Try.ntmps62
  go_wp2_with fail
  go_step3
  go_wp2_with fail
  refine (open_long s _ h4 (by omega)).mono ?_
  rintro e w1 ⟨rfl, hb1⟩
  rw [HV.out]
  go_wp2
  unfold Exit.noGoto
  go_ret2
  exact ⟨rfl, hb1⟩
end Go.Proofs.Ytljmaicobafgkaa
