/- Chapter 07, timers: the walks of TimersNone, TimersAgain. -/
import Derived.Test.YthbhpojbdpgajaaTiD
namespace Go.Proofs.Ythbhpojbdpgajaa
open Go.RowKit

set_option maxHeartbeats 8000000 in
set_option maxRecDepth 100000 in
theorem walk_timersNone (d : TDeed) (w : World) (_h : d.wf) : Calls Try.prog 6 #[.agg d.lst.toArray] w fun e w' => e = .returned (.bool true) ∧ Below w.heap.size w w' := by
  obtain ⟨kd, id, at_⟩ := d
  simp only [TDeed.lst]
  clear _h
  obtain ⟨p, hp⟩ : ∃ p, p = w.heap.size := ⟨_, rfl⟩
  obtain ⟨W0, hW0⟩ : ∃ W, W = w.alloc (.cells #[.int .i64 kd, .int .i64 id, .int .i64 at_] 35) := ⟨_, rfl⟩
  have hb0 : Below w.heap.size w W0 := by rw [hW0]; exact (Below.refl _ _).alloc (Nat.le_refl _) _
  have o0 : W0.heap[p]? = some (.cells #[.int .i64 kd, .int .i64 id, .int .i64 at_] 35 (0, 0)) := by rw [hW0, hp]; exact obj_new _ _
  go_enter Try.func6, Try.ntmps6
  go_wp2_with fail
  rw [← hW0, ← hp]
  clear hW0 hp
  refine (tnext_nil _).mono ?_
  rintro e w1 ⟨rfl, hb⟩
  have o1 := obj_below o0 hb
  have hb1 := hb0.trans (hb.mono hb0.size)
  clear o0 hb0 hb
  obtain ⟨q, hq⟩ : ∃ q, q = w1.heap.size := ⟨_, rfl⟩
  obtain ⟨W1, hW1⟩ : ∃ W, W = w1.alloc (.cells #[.int .i64 0, .int .i64 0] 44) := ⟨_, rfl⟩
  have hb : Below w1.heap.size w1 W1 := by rw [hW1]; exact (Below.refl _ _).alloc (Nat.le_refl _) _
  have oq : W1.heap[q]? = some (.cells #[.int .i64 0, .int .i64 0] 44 (0, 0)) := by rw [hW1, hq]; exact obj_new _ _
  have o2 := obj_below o1 hb
  have hb2 := hb1.trans (hb.mono hb1.size)
  have x1 := obj_cell o2 1
  have x2 := obj_cell o2 2
  simp only [List.getElem?_toArray, List.getElem?_cons_zero, List.getElem?_cons_succ] at x1 x2
  have X1 := hide x1
  have X2 := hide x2
  rw [hW1] at x1 x2
  clear o1 hb1 hb
  go_wp2_with fail
  rw [← hW1, ← hq]
  clear hW1 hq x1 x2
  refine (tset_nil _ _ _).mono ?_
  rintro e w2 ⟨rfl, rfl⟩
  have x1 := X1.out
  have x2 := X2.out
  go_wp2_with fail
  refine (tstop_nil _ _).mono ?_
  rintro e w2 ⟨rfl, rfl⟩
  go_wp2_with fail
  refine (tdue_nil _ _).mono ?_
  rintro e w2 ⟨rfl, hb⟩
  have o3 := obj_below oq hb
  have hb3 := hb2.trans (hb.mono hb2.size)
  have y0 := obj_cell o3 0
  have y1 := obj_cell o3 1
  simp only [List.getElem?_toArray, List.getElem?_cons_zero, List.getElem?_cons_succ] at y0 y1
  clear hb2 hb x1 x2 oq o2 X1 X2
  go_wp2_with fail
  refine (tlen_nil _).mono ?_
  rintro e w3 ⟨rfl, rfl⟩
  go_wp2_with fail
  refine (tall_nil _).mono ?_
  rintro e w3 ⟨rfl, hb⟩
  have hb4 := hb3.trans (hb.mono hb3.size)
  clear hb3 hb y0 y1 o3
  go_wp2_with fail
  refine (awake07 _).mono ?_
  rintro e w4 ⟨rfl, hb⟩
  have hb5 := hb4.trans (hb.mono hb4.size)
  clear hb4 hb
  go_wp2
  go_ret
  exact ⟨rfl, hb5⟩
theorem tSet_one (id a : Int) (h : ¬ badT id a) : tSet [] id a = ([⟨id, a⟩], 0) := by
  unfold tSet
  rw [if_neg h]
  rfl
theorem tSet_two (id a b : Int) (h : ¬ badT id b) : tSet [⟨id, a⟩] id b = ([⟨id, b⟩], 0) := by
  unfold tSet
  rw [if_neg h]
  have e : tStop [⟨id, a⟩] id = [] := by simp [tStop]
  rw [e]
  rfl
theorem tDue_pre (id b : Int) : tDue [⟨id, b⟩] (b - 1) = ([⟨id, b⟩], []) := by
  unfold tDue
  simp [List.filter_cons]
  omega
theorem tDue_at (id b : Int) : tDue [⟨id, b⟩] b = ([], [id]) := by simp [tDue]
set_option maxHeartbeats 8000000 in
set_option maxRecDepth 100000 in
theorem walk_timersAgain (id a b : Int) (w : World) (_w0 : (Lit.int .i64 id).wf = true) (_w1 : (Lit.int .i64 a).wf = true) (_w2 : (Lit.int .i64 b).wf = true) :
    Calls Try.prog 3 #[.int .i64 id, .int .i64 a, .int .i64 b] w fun e w' => e = .returned (.bool true) ∧ Below w.heap.size w w' := by
  have AW := hide awake07
  clear _w0 _w1 _w2
  by_cases c0 : id < 0
  · go_enter Try.func3, Try.ntmps3
    go_wp2_with fail
    refine (AW.out _).mono ?_
    rintro e w4 ⟨rfl, hb⟩
    go_wp2
    go_ret
    exact ⟨rfl, hb⟩
  have c0' : decide (id < 0) = false := by simpa using c0
  by_cases c1 : a < 0
  · go_enter Try.func3, Try.ntmps3
    go_wp2_with fail
    refine (AW.out _).mono ?_
    rintro e w4 ⟨rfl, hb⟩
    go_wp2
    go_ret
    exact ⟨rfl, hb⟩
  have c1' : decide (a < 0) = false := by simpa using c1
  by_cases c2 : b < 0
  · go_enter Try.func3, Try.ntmps3
    go_wp2_with fail
    refine (AW.out _).mono ?_
    rintro e w4 ⟨rfl, hb⟩
    go_wp2
    go_ret
    exact ⟨rfl, hb⟩
  have c2' : decide (b < 0) = false := by simpa using c2
  by_cases c3 : 1099511627776 < a
  · go_enter Try.func3, Try.ntmps3
    go_wp2_with fail
    refine (AW.out _).mono ?_
    rintro e w4 ⟨rfl, hb⟩
    go_wp2
    go_ret
    exact ⟨rfl, hb⟩
  have c3' : decide (1099511627776 < a) = false := by simpa using c3
  by_cases c4 : 1099511627776 < b
  · go_enter Try.func3, Try.ntmps3
    go_wp2_with fail
    refine (AW.out _).mono ?_
    rintro e w4 ⟨rfl, hb⟩
    go_wp2
    go_ret
    exact ⟨rfl, hb⟩
  have c4' : decide (1099511627776 < b) = false := by simpa using c4
  have hba : ¬ badT id a := by unfold badT; omega
  have hbb : ¬ badT id b := by unfold badT; omega
  have k1 : TOk [⟨id, a⟩] := by have := tok_nil.set id a; rw [tSet_one _ _ hba] at this; exact this
  have k2 : TOk [⟨id, b⟩] := by have := tok_nil.set id b; rw [tSet_one _ _ hbb] at this; exact this
  have H1 := hide (show ∀ (W : World) (B t p c : Nat) (v : Value), TX W B t p c v [] → Calls Try.prog 9 #[.pointer (some ⟨t, 0, none⟩), .int .i64 id, .int .i64 a] W fun e w' => e = .returned (.int .i64 0) ∧ TAft W B t p c v [⟨id, a⟩] w' from fun W B t p c v h => by
    have := tset_any h tok_nil id a
    rwa [tSet_one _ _ hba] at this)
  have H2 := hide (show ∀ (W : World) (B t p c : Nat) (v : Value), TX W B t p c v [⟨id, a⟩] → Calls Try.prog 9 #[.pointer (some ⟨t, 0, none⟩), .int .i64 id, .int .i64 b] W fun e w' => e = .returned (.int .i64 0) ∧ TAft W B t p c v [⟨id, b⟩] w' from fun W B t p c v h => by
    have := tset_any h k1 id b
    rwa [tSet_two _ _ _ hbb] at this)
  have HL := hide (show ∀ (W : World) (B t p c : Nat) (v : Value), TX W B t p c v [⟨id, b⟩] → Calls Try.prog 10 #[.pointer (some ⟨t, 0, none⟩)] W fun e w' => e = .returned (.int .i64 1) ∧ W = w' from fun W B t p c v h => tlen_any h)
  have HD1 := hide (show ∀ (W : World) (B t p c : Nat) (v : Value), TX W B t p c v [⟨id, b⟩] → Calls Try.prog 11 #[.pointer (some ⟨t, 0, none⟩), .int .i64 (b - 1)] W fun e w' => (∃ A c, e = .returned (.slice A 0 c)) ∧ (∃ v', TX w' B t p c v' [⟨id, b⟩]) ∧ Below B W w' from fun W B t p c v h => (tdue_any h k2 (b - 1)).mono fun e w' ⟨ov, he, hq⟩ => by
    have hbl := hq.bel h
    unfold DueQ at hq
    rw [tDue_pre] at hq
    obtain ⟨v', q1, -, q2, -⟩ := hq
    obtain ⟨A, cc, e2⟩ := EK.row_slice q2
    exact ⟨⟨A, cc, by rw [he, e2]; rfl⟩, ⟨v', q1⟩, hbl⟩)
  have HD2 := hide (show ∀ (W : World) (B t p c : Nat) (v : Value), TX W B t p c v [⟨id, b⟩] → Calls Try.prog 11 #[.pointer (some ⟨t, 0, none⟩), .int .i64 b] W fun e w' => ∃ A cc, e = .returned (.slice A 1 cc) ∧ (∃ v', TX w' B t p c v' []) ∧ kI.row w' W.heap.size (.slice A 1 cc) [id] ∧ Below B W w' from fun W B t p c v h => (tdue_any h k2 b).mono fun e w' ⟨ov, he, hq⟩ => by
    have hbl := hq.bel h
    unfold DueQ at hq
    rw [tDue_at] at hq
    obtain ⟨v', q1, -, q2, -⟩ := hq
    obtain ⟨A, cc, e2⟩ := EK.row_slice q2
    subst e2
    exact ⟨A, cc, he, ⟨v', q1⟩, q2, hbl⟩)
  have HD3 := hide (show ∀ (W : World) (B t p c : Nat) (v : Value), TX W B t p c v [] → Calls Try.prog 11 #[.pointer (some ⟨t, 0, none⟩), .int .i64 1099511627776] W fun e w' => (∃ A c, e = .returned (.slice A 0 c)) ∧ Below B W w' from fun W B t p c v h => (tdue_any h tok_nil 1099511627776).mono fun e w' ⟨ov, he, hq⟩ => by
    have hbl := hq.bel h
    obtain ⟨v', q1, -, q2, -⟩ := hq
    obtain ⟨A, cc, e2⟩ := EK.row_slice q2
    exact ⟨⟨A, cc, by rw [he, e2]; rfl⟩, hbl⟩)
  clear hba hbb k1 k2
  go_enter Try.func3, Try.ntmps3
  go_wp2_with fail
  refine (tnew_any _).mono ?_
  rintro e w1 ⟨t, p, c, rfl, h1, hb1⟩
  go_wp2_with fail
  refine (H1.out _ _ t p c _ h1).mono ?_
  rintro e w2 ⟨rfl, ha⟩
  have hb2 := hb1.trans (ha.bel h1)
  obtain ⟨v2, h2, -, -⟩ := ha
  clear h1 hb1
  go_wp2_with fail
  refine (H2.out _ _ t p c _ h2).mono ?_
  rintro e w3 ⟨rfl, ha⟩
  have hb3 := hb2.trans (ha.bel h2)
  obtain ⟨v3, h3, -, -⟩ := ha
  clear h2 hb2
  go_wp2_with fail
  refine (HL.out _ _ t p c _ h3).mono ?_
  rintro e w4 ⟨rfl, rfl⟩
  go_wp2_with fail
  refine (HD1.out _ _ t p c _ h3).mono ?_
  rintro e w4 ⟨⟨A, cc, rfl⟩, ⟨v4, h4⟩, hb⟩
  have hb4 := hb3.trans hb
  clear h3 hb3 hb
  go_wp2_with fail
  refine (HD2.out _ _ t p c _ h4).mono ?_
  rintro e w5 ⟨A5, c5, rfl, ⟨v5, h5⟩, hr5, hb⟩
  have hb5 := hb4.trans hb
  clear h4 hb4 hb
  obtain ⟨W5, hW5⟩ : ∃ W, W = w5.alloc (.cells #[.int .i64 id] 3) := ⟨_, rfl⟩
  have hb : Below w5.heap.size w5 W5 := by rw [hW5]; exact (Below.refl _ _).alloc (Nat.le_refl _) _
  have hlit : kI.row W5 w5.heap.size (.slice (some ⟨w5.heap.size, 0, none⟩) 1 1) [id] := EK.row_lit (by rw [hW5]; exact obj_new _ _) (Nat.le_refl _) rfl (by decide)
  have HI := hide (ints_yes (EK.row_below hr5 hb) hlit)
  have h6 := h5.below hb
  have hb6 := hb5.trans (hb.mono hb5.size)
  clear h5 hb5 hb hr5 hlit
  go_wp2_with fail
  rw [← hW5]
  clear hW5
  refine HI.out.mono ?_
  rintro e w6 ⟨rfl, hb⟩
  have h7 := h6.below hb
  have hb7 := hb6.trans (hb.mono hb6.size)
  clear h6 hb6 hb
  go_wp2_with fail
  refine (HD3.out _ _ t p c _ h7).mono ?_
  rintro e w7 ⟨⟨A, cc, rfl⟩, hb⟩
  have hb8 := hb7.trans hb
  clear h7 hb7 hb
  go_wp2_with fail
  refine (AW.out _).mono ?_
  rintro e w8 ⟨rfl, hb⟩
  have hb9 := hb8.trans (hb.mono hb8.size)
  clear hb8 hb
  go_wp2
  go_ret
  exact ⟨rfl, hb9⟩
end Go.Proofs.Ythbhpojbdpgajaa
