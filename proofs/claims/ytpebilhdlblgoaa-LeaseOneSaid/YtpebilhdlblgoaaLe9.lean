/- Chapter 27, lease: the walk of LeaseNone. -/
import Derived.Test.YtpebilhdlblgoaaLeD
namespace Go.Proofs.Ytpebilhdlblgoaa
open Go.RowKit

set_option maxHeartbeats 8000000 in
set_option maxRecDepth 100000 in
theorem walk_leaseNoneS (HSORT : SortsL) (d : LDeed) (w : World) (_h : d.wf) : Calls Try.prog 5 #[.agg d.lst.toArray] w fun e w' => e = .returned (.bool true) ∧ Below w.heap.size w w' := by
  obtain ⟨kd, i, cl, nw, n⟩ := d
  simp only [LDeed.lst]
  obtain ⟨W0, hW0⟩ : ∃ W, W = w.alloc (.cells #[.int .i64 kd, .int .i64 i, .int .i64 cl, .int .i64 nw, .int .i64 n] 28) := ⟨_, rfl⟩
  obtain ⟨p, hp⟩ : ∃ p, p = w.heap.size := ⟨_, rfl⟩
  have hB0 : Below w.heap.size w W0 := by rw [hW0]; exact (Below.refl _ _).alloc (Nat.le_refl _) _
  have o0 : W0.heap[p]? = some (.cells #[.int .i64 kd, .int .i64 i, .int .i64 cl, .int .i64 nw, .int .i64 n] 28 (0, 0)) := by rw [hW0, hp]; exact obj_new _ _
  have x1 := obj_cell o0 1
  have x2 := obj_cell o0 2
  have x3 := obj_cell o0 3
  have x4 := obj_cell o0 4
  simp only [List.getElem?_toArray, List.getElem?_cons_zero, List.getElem?_cons_succ] at x1 x2 x3 x4
  rw [hW0, hp] at x1 x2 x3 x4
  go_enter Try.func5, Try.ntmps5
  go_wp2_with fail
  rw [← hW0, ← hp]
  clear hW0 hp x1 x2 x3 x4
  refine (grant_nil _ _ _ _ _).mono ?_
  rintro e w1 ⟨rfl, hb⟩
  have o1 := obj_below o0 hb
  have hB1 := hB0.trans (hb.mono hB0.size)
  clear o0 hB0 hb
  simp only [noL, Lse.cells]
  obtain ⟨W1, hW1⟩ : ∃ W, W = w1.alloc (.cells #[.int .i64 0, .int .i64 0, .int .i64 0, .int .i64 0] 30) := ⟨_, rfl⟩
  have hb : Below w1.heap.size w1 W1 := by rw [hW1]; exact (Below.refl _ _).alloc (Nat.le_refl _) _
  have q1 := obj_new w1 (.cells #[.int .i64 0, .int .i64 0, .int .i64 0, .int .i64 0] 30)
  have o2 := obj_below o1 hb
  have hB2 := hB1.trans (hb.mono hB1.size)
  rw [← hW1] at q1
  have x1 := obj_cell o2 1
  have x2 := obj_cell o2 2
  have x3 := obj_cell o2 3
  have x4 := obj_cell o2 4
  have y0 := obj_cell q1 0
  have y1 := obj_cell q1 1
  have y2 := obj_cell q1 2
  have y3 := obj_cell q1 3
  simp only [List.getElem?_toArray, List.getElem?_cons_zero, List.getElem?_cons_succ] at x1 x2 x3 x4 y0 y1 y2 y3
  rw [hW1] at x1 x2 x3 x4 y0 y1 y2 y3
  clear o1 hB1 hb
  go_wp2_with fail
  rw [← hW1]
  rw [← hW1] at x1 x2 x3 x4
  clear hW1 y0 y1 y2 y3 q1
  refine (drop_nil _ _ _ _).mono ?_
  rintro e w2 ⟨rfl, rfl⟩
  go_wp2_with fail
  refine (check_nil _ _ _ _ _).mono ?_
  rintro e w2 ⟨rfl, rfl⟩
  go_wp2_with fail
  refine (lof_nil HSORT _ _).mono ?_
  rintro e w2 ⟨rfl, hb⟩
  have o3 := obj_below o2 hb
  have hB3 := hB2.trans (hb.mono hB2.size)
  have x3 := obj_cell o3 3
  simp only [List.getElem?_toArray, List.getElem?_cons_zero, List.getElem?_cons_succ] at x3
  clear o2 hB2 hb x1 x2 x4
  go_wp2_with fail
  refine (lsweep_nil HSORT _ _).mono ?_
  rintro e w3 ⟨rfl, hb⟩
  have hB4 := hB3.trans (hb.mono hB3.size)
  clear o3 hB3 hb x3
  go_wp2_with fail
  refine (llen_nil HSORT _).mono ?_
  rintro e w4 ⟨rfl, hb⟩
  have hB5 := hB4.trans (hb.mono hB4.size)
  clear hB4 hb
  go_wp2_with fail
  refine (awake27 HSORT _).mono ?_
  rintro e w5 ⟨rfl, hb⟩
  have hB6 := hB5.trans (hb.mono hB5.size)
  clear hB5 hb
  go_wp2
  go_ret
  exact ⟨rfl, hB6⟩
end Go.Proofs.Ytpebilhdlblgoaa
