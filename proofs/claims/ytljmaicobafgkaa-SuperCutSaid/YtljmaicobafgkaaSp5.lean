/- Chapter 10, super: what a place has. -/
import Derived.Test.YtljmaicobafgkaaSp4
import Derived.Test.YtljmaicobafgkaaNt2
namespace Go.Proofs.Ytljmaicobafgkaa
open Go.RowKit

theorem info235 : (Try.prog.info? 235).map (·.size) = some 2 := by kernel_rfl
set_option maxHeartbeats 1000000 in
set_option maxRecDepth 100000 in
theorem sopen_none (s : ByteArray) (at_ : Int) (w : World) (hs : s.size = 256) (h : openL s.data.toList = none) : Calls Try.prog 156 #[.string s, .int .i64 at_] w fun e w' => e = .returned (.tuple #[.agg #[.int .i64 0, .int .i64 0], .string ⟨#[]⟩]) ∧ Below w.heap.size w w' := by
  have hb0 := (Below.refl w.heap.size w).alloc (Nat.le_refl _) (.cells #[.int .i64 0, .int .i64 0] 235)
  have HO := hide (obj_new w (.cells #[.int .i64 0, .int .i64 0] 235))
  have HB := hide hb0
  have HV : Hid (openV s.data.toList = .tuple #[.string ⟨#[]⟩, .int .i64 4]) := hide (by unfold openV; rw [h])
  have HS := hide hs
  clear hb0 h hs
  go_enter Try.func156, Try.ntmps156
  go_wp2_with fail
  refine (open_long s _ (by have := HS.out; omega) (by have := HS.out; omega)).mono ?_
  rintro e w1 ⟨rfl, hb1⟩
  rw [HV.out]
  have HB1 := hide (HB.out.trans (hb1.mono (by simp)))
  have HO1 := hide (obj_below HO.out hb1)
  have z0 := obj_cell HO1.out 0
  have z1 := obj_cell HO1.out 1
  simp only [List.getElem?_toArray, List.getElem?_cons_zero, List.getElem?_cons_succ] at z0 z1
  have HST := hide (store_whole (P := Try.prog) (ty := 235) HO1.out (cells := #[.int .i64 0, .int .i64 0]) info235 rfl (by simp [Value.oneCell']))
  have HO2 := hide (setRow_at' (C' := #[.int .i64 0, .int .i64 0]) HO1.out)
  have HB2 := hide (HB1.out.trans ((setRow_fr' w1 w.heap.size #[.int .i64 0, .int .i64 0]).below _ HB1.out.size (fun j hj e => by omega)))
  clear hb1 z0 z1
  go_wp2_with (refine wpList_storev' rfl 235 (.tmp 4) (.tmp 19) rfl rfl rfl HST.out ?_)
  refine bodyPost_ret (res_ct rfl _ _ w.heap.size 235 _ (0, 0) _ rfl HO2.out Try.underlying235 rfl info235) rfl ?_
  exact ⟨rfl, HB2.out⟩
end Go.Proofs.Ytljmaicobafgkaa
