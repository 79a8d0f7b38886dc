/- A join of 1 texts of this claim: NtW1. Conditions: none of their own. -/
import Derived.Test.YtljmaicobafgkaaN10
section
/- Chapter 13, net: the walk of NetNone. -/
namespace Go.Proofs.Ytljmaicobafgkaa
open Go.RowKit

set_option maxHeartbeats 8000000 in
set_option maxRecDepth 1000000 in
theorem walk_netNone (x : NDeed) (w : World) (_hx : x.wf) :
    Calls Try.prog 18 #[.agg x.lst.toArray] w fun e w' => e = .returned (.bool true) ∧ Below w.heap.size w w' := by
  rw [show x.lst.toArray = #[.int .i64 x.kind, .int .i64 x.a, .int .i64 x.b, .int .i64 x.c, .int .i64 x.m.k, .int .i64 x.m.f, .int .i64 x.m.t, .int .i64 x.m.i, .string x.m.b] from rfl]
  have HX0 := hide (obj_new w (.cells #[.int .i64 x.kind, .int .i64 x.a, .int .i64 x.b, .int .i64 x.c, .int .i64 x.m.k, .int .i64 x.m.f, .int .i64 x.m.t, .int .i64 x.m.i, .string x.m.b] 111))
  have HB0 := hide ((Below.refl w.heap.size w).alloc (Nat.le_refl _) (.cells #[.int .i64 x.kind, .int .i64 x.a, .int .i64 x.b, .int .i64 x.c, .int .i64 x.m.k, .int .i64 x.m.f, .int .i64 x.m.t, .int .i64 x.m.i, .string x.m.b] 111))
  go_enter Try.func18, Try.ntmps18
  go_wp2_with fail
  refine (deliver_nil x.a _).mono ?_
  rintro e w1 ⟨rfl, hb1⟩
  have hbl := hb1.alloc hb1.size (.cells #[.int .i64 0, .int .i64 0, .int .i64 0, .int .i64 0, .string ⟨#[]⟩] 63)
  have HX1 := hide (obj_below HX0.out hbl)
  have HZ1 := hide (obj_new w1 (.cells #[.int .i64 0, .int .i64 0, .int .i64 0, .int .i64 0, .string ⟨#[]⟩] 63))
  have HB1 := hide (HB0.out.trans (hbl.mono HB0.out.size))
  clear hb1 hbl HX0 HB0
  have a0 := obj_cell HX1.out 0
  have a1 := obj_cell HX1.out 1
  have a2 := obj_cell HX1.out 2
  have a3 := obj_cell HX1.out 3
  have a4 := obj_cell HX1.out 4
  have a5 := obj_cell HX1.out 5
  have a6 := obj_cell HX1.out 6
  have a7 := obj_cell HX1.out 7
  have a8 := obj_cell HX1.out 8
  simp only [List.getElem?_toArray, List.getElem?_cons_zero, List.getElem?_cons_succ] at a0 a1 a2 a3 a4 a5 a6 a7 a8
  rw [show msg0.cells = #[.int .i64 0, .int .i64 0, .int .i64 0, .int .i64 0, .string ⟨#[]⟩] from rfl]
  go_wp2_with fail
  refine (send_nil x.m.k x.m.f x.m.t x.m.i x.m.b _).mono ?_
  rintro e w2 ⟨rfl, hb2⟩
  have HX2 := hide (obj_below HX1.out hb2)
  have HZ2 := hide (obj_below HZ1.out hb2)
  have HB2 := hide (HB1.out.trans (hb2.mono HB1.out.size))
  clear hb2 HX1 HZ1 HB1 a0 a1 a2 a3 a4 a5 a6 a7 a8
  have b0 := obj_cell HX2.out 0
  have b1 := obj_cell HX2.out 1
  have b2 := obj_cell HX2.out 2
  have b3 := obj_cell HX2.out 3
  have b4 := obj_cell HX2.out 4
  have b5 := obj_cell HX2.out 5
  have b6 := obj_cell HX2.out 6
  have b7 := obj_cell HX2.out 7
  have b8 := obj_cell HX2.out 8
  simp only [List.getElem?_toArray, List.getElem?_cons_zero, List.getElem?_cons_succ] at b0 b1 b2 b3 b4 b5 b6 b7 b8
  have z0 := obj_cell HZ2.out 0
  have z1 := obj_cell HZ2.out 1
  have z2 := obj_cell HZ2.out 2
  have z3 := obj_cell HZ2.out 3
  have z4 := obj_cell HZ2.out 4
  simp only [List.getElem?_toArray, List.getElem?_cons_zero, List.getElem?_cons_succ] at z0 z1 z2 z3 z4
  go_wp2_with fail
  refine (drop13_nil x.a _).mono ?_
  rintro e w3 ⟨rfl, hb3⟩
  have HX3 := hide (obj_below HX2.out hb3)
  have HB3 := hide (HB2.out.trans (hb3.mono HB2.out.size))
  clear hb3 HX2 HZ2 HB2 b0 b1 b2 b3 b4 b5 b6 b7 b8 z0 z1 z2 z3 z4
  have a0 := obj_cell HX3.out 0
  have a1 := obj_cell HX3.out 1
  have a2 := obj_cell HX3.out 2
  have a3 := obj_cell HX3.out 3
  have a4 := obj_cell HX3.out 4
  have a5 := obj_cell HX3.out 5
  have a6 := obj_cell HX3.out 6
  have a7 := obj_cell HX3.out 7
  have a8 := obj_cell HX3.out 8
  simp only [List.getElem?_toArray, List.getElem?_cons_zero, List.getElem?_cons_succ] at a0 a1 a2 a3 a4 a5 a6 a7 a8
  go_wp2_with fail
  refine (double_nil x.a _).mono ?_
  rintro e w4 ⟨rfl, hb4⟩
  have HX4 := hide (obj_below HX3.out hb4)
  have HB4 := hide (HB3.out.trans (hb4.mono HB3.out.size))
  clear hb4 HX3 HB3 a0 a1 a2 a3 a4 a5 a6 a7 a8
  have a0 := obj_cell HX4.out 0
  have a1 := obj_cell HX4.out 1
  have a2 := obj_cell HX4.out 2
  have a3 := obj_cell HX4.out 3
  have a4 := obj_cell HX4.out 4
  have a5 := obj_cell HX4.out 5
  have a6 := obj_cell HX4.out 6
  have a7 := obj_cell HX4.out 7
  have a8 := obj_cell HX4.out 8
  simp only [List.getElem?_toArray, List.getElem?_cons_zero, List.getElem?_cons_succ] at a0 a1 a2 a3 a4 a5 a6 a7 a8
  go_wp2_with fail
  refine (spoil_nil x.a x.b x.c _).mono ?_
  rintro e w5 ⟨rfl, hb5⟩
  have HX5 := hide (obj_below HX4.out hb5)
  have HB5 := hide (HB4.out.trans (hb5.mono HB4.out.size))
  clear hb5 HX4 HB4 a0 a1 a2 a3 a4 a5 a6 a7 a8
  have a0 := obj_cell HX5.out 0
  have a1 := obj_cell HX5.out 1
  have a2 := obj_cell HX5.out 2
  have a3 := obj_cell HX5.out 3
  have a4 := obj_cell HX5.out 4
  have a5 := obj_cell HX5.out 5
  have a6 := obj_cell HX5.out 6
  have a7 := obj_cell HX5.out 7
  have a8 := obj_cell HX5.out 8
  simp only [List.getElem?_toArray, List.getElem?_cons_zero, List.getElem?_cons_succ] at a0 a1 a2 a3 a4 a5 a6 a7 a8
  go_wp2_with fail
  refine (cut_nil x.a x.b true _).mono ?_
  rintro e w6 ⟨rfl, rfl⟩
  go_wp2_with fail
  refine (waiting_nil _).mono ?_
  rintro e w6 ⟨rfl, rfl⟩
  go_wp2_with fail
  refine (awake13 _).mono ?_
  rintro e w6 ⟨rfl, hb6⟩
  go_wp2
  go_ret
  exact ⟨rfl, HB5.out.trans (hb6.mono HB5.out.size)⟩
end Go.Proofs.Ytljmaicobafgkaa
end
