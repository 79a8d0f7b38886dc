/- []byte(s): its row; a byte of it set; string(b) of it. -/
import Derived.Test.YtljmaicobafgkaaPure2
import Derived.Lib.ConvBytes
namespace Go.Proofs.Ytljmaicobafgkaa
open Go.RowKit

theorem conv_to (w : World) (s : ByteArray) : (convert 9 77 (.string s)).run Try.prog w = .ok (.slice (some ⟨w.heap.size, 0, none⟩) s.size (grownCap w s.size 0 5)) (Lib.bytesWorld w 5 s) :=
  Lib.run_convert_string_bytes w 9 77 5 s Try.underlying9 Try.underlying77 Try.underlying5
/-- A row of bytes with a mark beyond them. -/
def Buf (w : World) (g : Nat) (l : List UInt8) : Prop := ∃ (cs : Array Value) (k : Nat), w.heap[g]? = some (.cells cs 5 (k, k + 1)) ∧ l.length ≤ k ∧ k = cs.size ∧ ∀ (j : Nat) (u : Value), (byteVals l)[j]? = some u → cs[j]? = some u
theorem buf_new (w : World) (s : ByteArray) : Buf (Lib.bytesWorld w 5 s) w.heap.size s.data.toList := by
  refine ⟨_, _, Lib.bytesWorld_at_new w 5 s, ?_, rfl, fun j u hu => ?_⟩
  · simp [Lib.bytesCells]
  · have hj : j < s.data.toList.length := by
      have := (List.getElem?_eq_some_iff.1 hu).1
      simpa [byteVals] using this
    have h1 := Lib.bytesWorld_cell w 5 s j (by rw [size_list]; exact hj)
    have h2 := obj_cell (Lib.bytesWorld_at_new w 5 s) j
    rw [h2] at h1
    rw [h1, ← hu, byteVals_get hj]
    have hj2 : j < s.data.size := by simpa using hj
    simp only [List.getD, Array.getElem?_toList, Array.getElem?_eq_getElem hj2, Option.getD_some, Array.getElem_toList]
theorem buf_below (w : World) (s : ByteArray) {B : Nat} (hB : B ≤ w.heap.size) : Below B w (Lib.bytesWorld w 5 s) := by
  refine ⟨rfl, rfl, rfl, by rw [Lib.bytesWorld_size]; omega, fun k hk => Lib.bytesWorld_at_old w 5 s k (by omega)⟩
theorem Buf.cell {w : World} {g : Nat} {l : List UInt8} (h : Buf w g l) {j : Nat} (hj : j < l.length) : w.cell? ⟨g, j, none⟩ = some (.int .u8 (l[j].toNat : Int)) := by
  obtain ⟨cs, k, hh, _, _, hc⟩ := h
  rw [obj_cell hh]
  exact hc j _ (byteVals_get hj)
theorem Buf.thawed {w : World} {g : Nat} {l : List UInt8} (h : Buf w g l) {j : Nat} (hj : j < l.length) : w.frozen? ⟨g, j, none⟩ = false := by
  obtain ⟨cs, k, hh, hl, _, _⟩ := h
  simp [World.frozen?, hh]
  omega
theorem Buf.conv {w : World} {g : Nat} {l : List UInt8} (h : Buf w g l) (c : Nat) : (convert 77 9 (.slice (some ⟨g, 0, none⟩) l.length c)).run Try.prog w = .ok (.string ⟨l.toArray⟩) w := by
  obtain ⟨cs, k, hh, hl, _, hc⟩ := h
  refine conv_str l rfl (fun ad e j u hu => ?_) (fun e => by cases e)
  cases e
  rw [add_plain', Nat.zero_add, obj_cell hh]
  exact hc j u hu
theorem Buf.set {w : World} {g : Nat} {l : List UInt8} (h : Buf w g l) {i : Nat} (z : UInt8) : Buf (w.setCell ⟨g, i, none⟩ (.int .u8 (z.toNat : Int))) g (l.set i z) := by
  obtain ⟨cs, k, hh, hl, hk, hc⟩ := h
  refine ⟨cs.setIfInBounds i (.int .u8 (z.toNat : Int)), k, ?_, by simpa using hl, by simpa using hk, fun j u hu => ?_⟩
  · simp [World.setCell, Array.getElem?_modify, hh]
  · by_cases hj : j = i
    · subst hj
      have hlt : j < (l.set j z).length := by
        have := (List.getElem?_eq_some_iff.1 hu).1
        simpa [byteVals] using this
      rw [byteVals_get hlt] at hu
      simp at hu hlt
      rw [Array.getElem?_setIfInBounds_self_of_lt (by omega)]
      rw [hu]
    · rw [Array.getElem?_setIfInBounds_ne (by omega)]
      refine hc j u ?_
      rw [← hu]
      simp [byteVals, List.getElem?_set_ne (Ne.symm hj)]
theorem Buf.drew {w : World} {g : Nat} {l : List UInt8} (h : Buf w g l) : Buf w.drew g l := h
end Go.Proofs.Ytljmaicobafgkaa
