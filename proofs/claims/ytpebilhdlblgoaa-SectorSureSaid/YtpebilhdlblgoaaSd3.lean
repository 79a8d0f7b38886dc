/- Chapters 09 and 10, sector: what a device is, in memory. -/
import Derived.Test.YtpebilhdlblgoaaSd2
import Derived.Test.YtpebilhdlblgoaaMp2
namespace Go.Proofs.Ytpebilhdlblgoaa
open Go.RowKit

/-- A device: its sectors now, the loose ones as they were at the last flush, lost or not. -/
structure Dev where
  now : List ByteArray
  sure : Int → Option ByteArray
  lost : Bool
/-- Maps of numbers to texts. -/
def kM : MK Try.prog ByteArray where
  m := 66
  k := 3
  e := 9
  val := .string
  z := .string ⟨#[]⟩
  und := Try.underlying66
  key := Try.underlying3
  zero w := Try.zeroValue9 w
def DV (w : World) (g c : Nat) (v : Value) (D : Dev) : Prop := w.heap[g]? = some (.cells #[v, .map (some c), .bool D.lost] 69 (0, 0)) ∧ kS.row w 0 v D.now ∧ kM.mp w c D.sure
theorem DV.below {w w' : World} {g c : Nat} {v : Value} {D : Dev} (h : DV w g c v D) (hb : Below w.heap.size w w') : DV w' g c v D := ⟨obj_below h.1 hb, EK.row_below h.2.1 hb, MK.mp_below h.2.2 hb⟩
theorem DV.fr {F : Nat → Prop} {w w' : World} {g c : Nat} {v : Value} {D : Dev} (h : DV w g c v D) (hf : Fr F w w') (hg : ¬ F g) (hc : ¬ F c) (hv : ∀ k, v.ownBlock = some k → ¬ F k) : DV w' g c v D :=
  ⟨hf.obj h.1 hg, EK.row_fr h.2.1 hf hv, MK.mp_fr h.2.2 hf hc⟩
theorem DV.gc {w : World} {g c : Nat} {v : Value} {D : Dev} (h : DV w g c v D) : g ≠ c := by
  obtain ⟨es, k, h3⟩ := MK.mp_obj h.2.2
  rintro rfl
  rw [h.1] at h3
  cases h3
theorem DV.vc {w : World} {g c : Nat} {v : Value} {D : Dev} (h : DV w g c v D) {k : Nat} (hk : v.ownBlock = some k) : k ≠ c ∧ k ≠ g := by
  obtain ⟨es, q, h3⟩ := MK.mp_obj h.2.2
  obtain ⟨-, -, cs, h5⟩ := EK.row_typed h.2.1 hk
  refine ⟨fun e => ?_, fun e => ?_⟩
  · subst e
    rw [h5] at h3
    cases h3
  · subst e
    have h1 := h.1
    rw [h5] at h1
    simp only [Option.some.injEq, Obj.cells.injEq] at h1
    exact absurd h1.2.1 (by decide)
theorem DV.lt {w : World} {g c : Nat} {v : Value} {D : Dev} (h : DV w g c v D) : g < w.heap.size ∧ c < w.heap.size := ⟨obj_lt h.1, MK.mp_lt h.2.2⟩
/-- A device none of whose sectors is loose. -/
def Dev.flush (D : Dev) : Dev := ⟨D.now, fun _ => none, D.lost⟩
end Go.Proofs.Ytpebilhdlblgoaa
