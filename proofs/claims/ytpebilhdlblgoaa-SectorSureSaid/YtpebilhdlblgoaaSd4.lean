/- Chapters 09 and 10, sector: Flush. -/
import Derived.Test.YtpebilhdlblgoaaSd3
namespace Go.Proofs.Ytpebilhdlblgoaa
open Go.RowKit

set_option maxRecDepth 100000 in
theorem flush_any {w : World} {g c : Nat} {v : Value} {D : Dev} (h : DV w g c v D) : Calls Try.prog 22 #[.pointer (some ⟨g, 0, none⟩)] w fun e w' => e = .returned (.tuple #[]) ∧ DV w' g c v D.flush ∧ Fr (fun j => j = c) w w' ∧ w'.heap.size = w.heap.size := by
  obtain ⟨W, hm, hc, hf, hsz⟩ := MK.run_clear h.2.2 0
  have HF := hide (show DV W g c v D.flush ∧ Fr (fun j => j = c) w W ∧ W.heap.size = w.heap.size from ⟨⟨hf.obj h.1 h.gc, EK.row_fr h.2.1 hf (fun k hk => (h.vc hk).1), hc⟩, hf, hsz⟩)
  have HM : Hid ((Builtin.clear_ #[66] 0 #[.map (some c)]).run Try.prog w = .ok (.tuple #[]) W) := hide hm
  have z1 := obj_cell h.1 1
  simp only [List.getElem?_toArray, List.getElem?_cons_zero, List.getElem?_cons_succ] at z1
  clear hm hf hc hsz h
  go_enter Try.func22, Try.ntmps22
  go_wp2
  rw [HM.out]
  go_wp2
  go_end0
  exact ⟨rfl, HF.out⟩
theorem flush_nil (w : World) : Calls Try.prog 22 #[.pointer none] w fun e w' => e = .returned (.tuple #[]) ∧ w = w' := by
  go_enter Try.func22, Try.ntmps22
  go_wp2
  go_end0
  exact ⟨rfl, rfl⟩
end Go.Proofs.Ytpebilhdlblgoaa
