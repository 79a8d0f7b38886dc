/- Chapter 31, segment: Add's refusals. -/
import Derived.Test.YtljmaicobafgkaaSeg4
namespace Go.Proofs.Ytljmaicobafgkaa
open Go.RowKit

def entZ : Value := .agg #[.int .i64 0, .int .i64 0, .int .i64 0, .int .i64 0, .int .i64 0]
theorem five_fin {B g : Nat} {w w' : World} {v0 v1 v2 v3 v4 : Value} (h : Below B w w') (hg : B ≤ g) : Below B w (((((w'.setCell ⟨g, 0, none⟩ v0).setCell ⟨g, 1, none⟩ v1).setCell ⟨g, 2, none⟩ v2).setCell ⟨g, 3, none⟩ v3).setCell ⟨g, 4, none⟩ v4) := five_below h hg
set_option maxHeartbeats 4000000 in
set_option maxRecDepth 100000 in
theorem add_arg (g : Nat) (size : Int) (t : List UInt8) (l : List Ent) (lv : Value) (k i b : Int) (body : ByteArray) (w : World) (h : Sg w g size t l lv) (hm : ¬ mayE k i b) :
    Calls Try.prog 56 #[.pointer (some ⟨g, 0, none⟩), .int .i64 k, .int .i64 i, .int .i64 b, .string body] w fun e w' => e = .returned (.tuple #[entZ, .int .i64 1]) ∧ Below w.heap.size w w' := by
  have H := hide h
  have HM := hide (decide_eq_false hm)
  clear h hm
  have hA := (Below.refl w.heap.size w).alloc (Nat.le_refl _) (.cells #[.int .i64 0, .int .i64 0, .int .i64 0, .int .i64 0, .int .i64 0] 89)
  have H1 := hide (H.out.below hA)
  go_enter Try.func56, Try.ntmps56
  go_wp2_with fail
  refine (len_any g size t l lv _ H1.out).mono ?_
  rintro e w1 ⟨rfl, hb1⟩
  have R2 := hide (obj_below (obj_new w _) hb1)
  have B2 := hide (below_step (Below.refl _ w) (Nat.le_refl _) hb1)
  clear hb1 H1 hA
  go_wp2_with fail
  refine (may_any k i b _ _ _).mono ?_
  rintro e w2 ⟨rfl, hb2⟩
  rw [HM.out]
  have hR := obj_below (obj_alloc R2.out _) hb2
  have B3 := hide (below_step B2.out B2.out.size hb2)
  have y0 := obj_cell hR 0
  have y1 := obj_cell hR 1
  have y2 := obj_cell hR 2
  have y3 := obj_cell hR 3
  have y4 := obj_cell hR 4
  have f0 := obj_frozen hR 0
  have f1 := obj_frozen hR 1
  have f2 := obj_frozen hR 2
  have f3 := obj_frozen hR 3
  have f4 := obj_frozen hR 4
  simp only [List.getElem?_toArray, List.getElem?_cons_zero, List.getElem?_cons_succ] at y0 y1 y2 y3 y4
  have l2 := obj_lt hR
  have HR := hide hR
  clear hb2 hR R2 B2
  go_wp2
  exact bodyPost_ret (res_ct rfl _ _ w.heap.size 89 _ _ _ rfl (five_setT HR.out _ _ _ _ _) Try.underlying89 rfl (by kernel_rfl)) rfl ⟨rfl, five_below B3.out (Nat.le_refl _)⟩
set_option maxHeartbeats 4000000 in
set_option maxRecDepth 100000 in
theorem add_full (g : Nat) (size : Int) (t : List UInt8) (l : List Ent) (lv : Value) (k i b : Int) (body : ByteArray) (w : World) (h : Sg w g size t l lv) (h0 : 0 ≤ size) (h1 : size ≤ 65536) (ht : t.length ≤ 1048576) (hn : l.length ≤ 1048576)
    (hm : mayE k i b) (hf : leftOf size t.length l.length < (body.size : Int)) :
    Calls Try.prog 56 #[.pointer (some ⟨g, 0, none⟩), .int .i64 k, .int .i64 i, .int .i64 b, .string body] w fun e w' => e = .returned (.tuple #[entZ, .int .i64 5]) ∧ Below w.heap.size w w' := by
  have H := hide h
  have HM := hide (decide_eq_true hm)
  clear h hm
  have hA := (Below.refl w.heap.size w).alloc (Nat.le_refl _) (.cells #[.int .i64 0, .int .i64 0, .int .i64 0, .int .i64 0, .int .i64 0] 89)
  have H1 := hide (H.out.below hA)
  go_enter Try.func56, Try.ntmps56
  go_wp2_with fail
  refine (len_any g size t l lv _ H1.out).mono ?_
  rintro e w1 ⟨rfl, hb1⟩
  have H2 := hide (H1.out.below hb1)
  have R2 := hide (obj_below (obj_new w _) hb1)
  have B2 := hide (below_step (Below.refl _ w) (Nat.le_refl _) hb1)
  clear hb1 H1 hA
  go_wp2_with fail
  refine (may_any k i b _ _ _).mono ?_
  rintro e w2 ⟨rfl, hb2⟩
  rw [HM.out]
  have H3 := hide ((H2.out.below ((Below.refl _ w1).alloc (Nat.le_refl _) _)).below hb2)
  have R3 := hide (obj_below (obj_alloc R2.out _) hb2)
  have B3 := hide (below_step B2.out B2.out.size hb2)
  clear hb2 H2 R2 B2
  go_wp2_with fail
  refine (left_any g size t l lv _ H3.out h0 h1 ht hn).mono ?_
  rintro e w3 ⟨rfl, hb3⟩
  have hR := obj_below R3.out hb3
  have B4 := hide (below_on B3.out B3.out.size hb3)
  have y0 := obj_cell hR 0
  have y1 := obj_cell hR 1
  have y2 := obj_cell hR 2
  have y3 := obj_cell hR 3
  have y4 := obj_cell hR 4
  have f0 := obj_frozen hR 0
  have f1 := obj_frozen hR 1
  have f2 := obj_frozen hR 2
  have f3 := obj_frozen hR 3
  have f4 := obj_frozen hR 4
  simp only [List.getElem?_toArray, List.getElem?_cons_zero, List.getElem?_cons_succ] at y0 y1 y2 y3 y4
  have l2 := obj_lt hR
  have HR := hide hR
  clear hb3 hR R3 B3
  go_wp2
  exact bodyPost_ret (res_ct rfl _ _ w.heap.size 89 _ _ _ rfl (five_setT HR.out _ _ _ _ _) Try.underlying89 rfl (by kernel_rfl)) rfl ⟨rfl, five_below B4.out (Nat.le_refl _)⟩
set_option maxHeartbeats 4000000 in
set_option maxRecDepth 100000 in
theorem add_nil (k i b : Int) (body : ByteArray) (w : World) :
    Calls Try.prog 56 #[.pointer none, .int .i64 k, .int .i64 i, .int .i64 b, .string body] w fun e w' => e = .returned (.tuple #[entZ, .int .i64 1]) ∧ Below w.heap.size w w' := by
  go_enter Try.func56, Try.ntmps56
  go_wp2_with fail
  refine (len_nil _).mono ?_
  rintro e w1 ⟨rfl, hb1⟩
  have hR := obj_below (obj_new w _) hb1
  have B2 := hide (below_step (Below.refl _ w) (Nat.le_refl _) hb1)
  have y0 := obj_cell hR 0
  have y1 := obj_cell hR 1
  have y2 := obj_cell hR 2
  have y3 := obj_cell hR 3
  have y4 := obj_cell hR 4
  have f0 := obj_frozen hR 0
  have f1 := obj_frozen hR 1
  have f2 := obj_frozen hR 2
  have f3 := obj_frozen hR 3
  have f4 := obj_frozen hR 4
  simp only [List.getElem?_toArray, List.getElem?_cons_zero, List.getElem?_cons_succ] at y0 y1 y2 y3 y4
  have l2 := obj_lt hR
  have HR := hide hR
  clear hb1 hR
  go_wp2
  exact bodyPost_ret (res_ct rfl _ _ w.heap.size 89 #[.int .i64 0, .int .i64 0, .int .i64 0, .int .i64 0, .int .i64 0] _ _ rfl (obj_alloc (five_setT HR.out _ _ _ _ _) _) Try.underlying89 rfl (by kernel_rfl)) rfl ⟨rfl, (five_below B2.out (Nat.le_refl _)).alloc (five_below B2.out (Nat.le_refl _)).size _⟩
end Go.Proofs.Ytljmaicobafgkaa
