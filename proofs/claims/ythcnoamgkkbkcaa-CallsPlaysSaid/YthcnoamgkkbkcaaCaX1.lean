/- Chapter 14, calls: the walk of CallsNone; whether deeds are few. -/
import Derived.Test.YthcnoamgkkbkcaaCaDd
namespace Go.Proofs.Ythcnoamgkkbkcaa
open Go.RowKit

theorem few14_far (A : Option Addr) (n c : Nat) (w : World) (h : 150 < n) : Calls Try.prog 12 #[.slice A n c] w fun e w' => e = .returned (.int .i64 0) ∧ w = w' := by
  have hi : (150 : Int) < (n : Int) := by omega
  clear h
  go_enter Try.func12, Try.ntmps12
  go_wp2
  go_ret
  exact ⟨rfl, rfl⟩
theorem few14_ok (A : Option Addr) (n c : Nat) (w : World) (h : n ≤ 150) : Calls Try.prog 12 #[.slice A n c] w fun e w' => e = .returned (.int .i64 1) ∧ w = w' := by
  have hi : ¬ (150 : Int) < (n : Int) := by omega
  clear h
  go_enter Try.func12, Try.ntmps12
  go_wp2
  go_ret
  exact ⟨rfl, rfl⟩
set_option maxHeartbeats 8000000 in
set_option maxRecDepth 100000 in
theorem walk_callsNone (d : CDeed) (w : World) (_h : d.wf) : Calls Try.prog 6 #[.agg d.lst.toArray] w fun e w' => e = .returned (.bool true) ∧ Below w.heap.size w w' := by
  obtain ⟨kind, a, b, body, m⟩ := d
  obtain ⟨mk, mf, mt, mi, mb⟩ := m
  obtain ⟨W, hW⟩ : ∃ W, W = w.alloc (.cells #[.int .i64 kind, .int .i64 a, .int .i64 b, .string body, .int .i64 mk, .int .i64 mf, .int .i64 mt, .int .i64 mi, .string mb] 34) := ⟨_, rfl⟩
  have om : W.heap[w.heap.size]? = some (.cells #[.int .i64 kind, .int .i64 a, .int .i64 b, .string body, .int .i64 mk, .int .i64 mf, .int .i64 mt, .int .i64 mi, .string mb] 34 (0, 0)) := by rw [hW]; exact obj_new w _
  have HB := hide (show Below w.heap.size w W from by rw [hW]; exact (Below.refl _ _).alloc (Nat.le_refl _) _)
  have HOM := hide om
  have y1 := obj_cell om 1
  have y2 := obj_cell om 2
  have y3 := obj_cell om 3
  have y4 := obj_cell om 4
  have y5 := obj_cell om 5
  have y6 := obj_cell om 6
  have y7 := obj_cell om 7
  have y8 := obj_cell om 8
  simp only [List.getElem?_toArray, List.getElem?_cons_zero, List.getElem?_cons_succ] at y1 y2 y3 y4 y5 y6 y7 y8
  have C1 := hide (fun W => ccall_nil a b body W)
  have C2 := hide (fun W => cstate_nil a W)
  have C3 := hide (fun W => cdue_nil b W)
  have C4 := hide (fun W => canswer_nil ⟨mk, mf, mt, mi, mb⟩ W)
  have C5 := hide (fun W => cforget_nil a W)
  have C6 := hide (fun W => copen_nil W)
  have C7 := hide (fun W => awake14 W)
  unfold mgC at C4
  simp only at C4
  clear om
  rw [hW] at y1 y2 y3 y4 y5 y6 y7 y8 HB HOM
  clear hW
  simp only [CDeed.lst]
  go_enter Try.func6, Try.ntmps6
  go_wp2_with fail
  refine (C1.out _).mono ?_
  rintro e w1 ⟨rfl, rfl⟩
  go_wp2_with fail
  refine (C2.out _).mono ?_
  rintro e w1 ⟨rfl, rfl⟩
  go_wp2_with fail
  refine (C3.out _).mono ?_
  rintro e w1 ⟨rfl, rfl⟩
  go_wp2_with fail
  refine (C4.out _).mono ?_
  rintro e w1 ⟨rfl, hb1⟩
  have om1 := obj_below HOM.out hb1
  have y1 := obj_cell om1 1
  simp only [List.getElem?_toArray, List.getElem?_cons_zero, List.getElem?_cons_succ] at y1
  have HB1 := hide (HB.out.trans (hb1.mono HB.out.size))
  clear hb1 om1
  go_wp2_with fail
  refine (C5.out _).mono ?_
  rintro e w2 ⟨rfl, rfl⟩
  go_wp2_with fail
  refine (C6.out _).mono ?_
  rintro e w2 ⟨rfl, rfl⟩
  go_wp2_with fail
  refine (C7.out _).mono ?_
  rintro e w2 ⟨rfl, hb2⟩
  have HB2 := hide (HB1.out.trans (hb2.mono HB1.out.size))
  clear hb2
  go_wp2
  go_ret
  exact ⟨rfl, HB2.out⟩
end Go.Proofs.Ythcnoamgkkbkcaa
