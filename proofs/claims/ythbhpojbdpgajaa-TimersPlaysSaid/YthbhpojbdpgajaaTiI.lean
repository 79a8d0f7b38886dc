/- Chapter 07, timers: rows of numbers compared; the chapter's example; TimersAgain, TimersNone. -/
import Derived.Test.YthbhpojbdpgajaaTiC
namespace Go.Proofs.Ythbhpojbdpgajaa
open Go.RowKit

/-- A new block of elements, as a row. -/
theorem EK.row_lit {P : Program} {α : Type} {K : EK P α} {w : World} {b B : Nat} {l : List α} {n : Nat} (hb : w.heap[b]? = some (.cells (K.vals l).toArray K.e (0, 0))) (hB : B ≤ b) (hn : n = l.length) (hm : n ≤ maxLen) : K.row w B (.slice (some ⟨b, 0, none⟩) n n) l := by
  subst hn
  refine ⟨EK.vlen l, .inr ⟨b, l.length, _, rfl, hB, hb, Nat.le_refl _, hm, by rw [List.size_toArray, EK.vlen], ?_⟩⟩
  show List.take _ (K.vals l) = _
  rw [List.take_of_length_le (by rw [EK.vlen]; exact Nat.le_refl _)]
theorem below_drewN {B : Nat} {a w : World} (h : Below B a w) (n : Nat) : Below B a (w.drewN n) := ⟨h.os, h.tape, h.output, h.size, h.block⟩
def SameI (w0 : World) (n : Nat) (w : World) (i : Value) : Prop := ∃ k : Nat, i = .int .i64 k ∧ k ≤ n ∧ Below w0.heap.size w0 w
set_option maxHeartbeats 4000000 in
set_option maxRecDepth 100000 in
theorem ints_yes {w : World} {B B' : Nat} {u v : Value} {l : List Int} (hu : kI.row w B u l) (hv : kI.row w B' v l) : Calls Try.prog 12 #[u, v] w fun e w' => e = .returned (.bool true) ∧ Below w.heap.size w w' := by
  obtain ⟨A, c, rfl⟩ := EK.row_slice hu
  obtain ⟨A', c', rfl⟩ := EK.row_slice hv
  obtain ⟨n, hn⟩ : ∃ n, n = l.length := ⟨_, rfl⟩
  rw [← hn] at hu hv ⊢
  have HN := hide hn
  have HU := hide hu
  have HV := hide hv
  have HS : Hid (SameI w n w (.int .i64 0)) := hide ⟨0, rfl, Nat.zero_le _, Below.refl _ _⟩
  clear hu hv hn
  go_enter Try.func12, Try.ntmps12
  go_wp2_with fail
  go_loopw [5] (fun i wr => SameI w n wr i) (fun i _ => n - (intOf i).toNat)
  case atStart => exact HS.out
  case round =>
    obtain ⟨k, rfl, hk, hb⟩ := hrel
    have HB := hide hb
    have hu := EK.row_below HU.out hb
    have hv := EK.row_below HV.out hb
    clear hb
    rcases Nat.lt_or_ge k n with hkl | hkl
    · have hkl' : k < l.length := by have := HN.out; omega
      obtain ⟨r, cap, e1, hz1, hz2, -, -, hcell⟩ := EK.row_cells hu hkl'
      obtain ⟨r', cap', e2, hz3, hz4, -, -, hcell2⟩ := EK.row_cells hv hkl'
      rw [← HN.out] at e1 e2 hz1 hz3
      injection e1 with e1a e1b e1c
      subst e1a e1c
      injection e2 with e2a e2b e2c
      subst e2a e2c
      simp only [maxLen] at hz2 hz4
      obtain ⟨x, hx⟩ : ∃ x, x = l[k] := ⟨_, rfl⟩
      have q0 := hcell 0 (by decide)
      have q1 := hcell2 0 (by decide)
      rw [← hx] at q0 q1
      simp only [kI, List.getElem?_cons_zero, Nat.mul_one, Nat.add_zero] at q0 q1
      have hki : (k : Int) < (n : Int) := by omega
      have HRES := hide (fun nq => show SameI w n (wr.drewN nq) (.int .i64 ((k : Int) + 1)) from ⟨k + 1, rfl, hkl, below_drewN HB.out nq⟩)
      clear hcell hcell2 hu hv hx e1b e2b
      go_wp2_with fail
      go_quiet (fail)
      go_wp2_with fail
      exact ⟨HRES.out _, by simp only [intOf]; omega⟩
    · obtain rfl : k = n := by omega
      clear hu hv
      go_wp2
      go_ret
      exact ⟨rfl, HB.out⟩
theorem TAft.bel {w w' : World} {B t p c : Nat} {v : Value} {x y : List Tm} (h : TX w B t p c v x) (ha : TAft w B t p c v y w') : Below B w w' := by
  obtain ⟨v', -, -, hf⟩ := ha
  have hap := h.apart
  have hB := h.2.2
  have hlt := h.lt
  exact hf.below B (by omega) (fun j hj e => by
    rcases e with e | e | e
    · have := (hap.2.2.2 j e).2.2.2.1
      omega
    · omega
    · omega)
theorem DueQ.bel {w w' : World} {B t p c : Nat} {v ov : Value} {x : List Tm} {now : Int} (h : TX w B t p c v x) (ha : DueQ w B t p c v x now ov w') : Below B w w' := by
  obtain ⟨v', -, -, -, hf⟩ := ha
  have hap := h.apart
  have hB := h.2.2
  have hlt := h.lt
  exact hf.below B (by omega) (fun j hj e => by
    rcases e with e | e | e
    · have := (hap.2.2.2 j e).2.2.2.1
      omega
    · omega
    · omega)
/-- A block of one's own stays. -/
theorem TX.far {w w' : World} {B t p c q : Nat} {v : Value} {x : List Tm} (h : TX w B t p c v x) (hf : Fr (fun k => v.ownBlock = some k ∨ k = p ∨ k = c) w w') {cs : Array Value} {ty : TypeId} (ho : w.heap[q]? = some (.cells cs ty (0, 0))) (h1 : ty ≠ 44) (h2 : ty ≠ 58) : w'.heap[q]? = some (.cells cs ty (0, 0)) := by
  obtain ⟨_, ⟨l, ⟨f, h5, -⟩, -⟩, -⟩ := h
  refine hf.obj ho (fun e => ?_)
  rcases e with e | e | e
  · obtain ⟨-, -, cs', h8⟩ := EK.row_typed h5.2.1 e
    rw [ho] at h8
    simp only [Option.some.injEq, Obj.cells.injEq] at h8
    exact h1 h8.2.1
  · subst e
    have := h5.1
    rw [ho] at this
    simp only [Option.some.injEq, Obj.cells.injEq] at this
    exact h2 this.2.1
  · subst e
    obtain ⟨es, k, h3⟩ := MK.mp_obj h5.2.2
    rw [ho] at h3
    cases h3
def x71 : List Tm := [⟨1, 5⟩]
def x72 : List Tm := [⟨1, 5⟩, ⟨2, 5⟩]
def x73 : List Tm := [⟨1, 5⟩, ⟨2, 5⟩, ⟨0, 9⟩]
def x74 : List Tm := [⟨0, 9⟩]
theorem ok71 : TOk x71 := tok_nil.set 1 5
theorem ok72 : TOk x72 := ok71.set 2 5
theorem ok73 : TOk x73 := ok72.set 0 9
theorem ok74 : TOk x74 := ok73.due 5
set_option maxHeartbeats 8000000 in
set_option maxRecDepth 100000 in
theorem awake07 (w : World) : Calls Try.prog 7 #[] w fun e w' => e = .returned (.bool true) ∧ Below w.heap.size w w' := by
  have H1 := hide (show ∀ (W : World) (B t p c : Nat) (v : Value), TX W B t p c v [] → Calls Try.prog 9 #[.pointer (some ⟨t, 0, none⟩), .int .i64 1, .int .i64 5] W fun e w' => e = .returned (.int .i64 0) ∧ TAft W B t p c v x71 w' from fun W B t p c v h => tset_any h tok_nil 1 5)
  have H2 := hide (show ∀ (W : World) (B t p c : Nat) (v : Value), TX W B t p c v x71 → Calls Try.prog 9 #[.pointer (some ⟨t, 0, none⟩), .int .i64 2, .int .i64 5] W fun e w' => e = .returned (.int .i64 0) ∧ TAft W B t p c v x72 w' from fun W B t p c v h => tset_any h ok71 2 5)
  have H3 := hide (show ∀ (W : World) (B t p c : Nat) (v : Value), TX W B t p c v x72 → Calls Try.prog 9 #[.pointer (some ⟨t, 0, none⟩), .int .i64 0, .int .i64 9] W fun e w' => e = .returned (.int .i64 0) ∧ TAft W B t p c v x73 w' from fun W B t p c v h => tset_any h ok72 0 9)
  have H4 := hide (show ∀ (W : World) (t : Nat), Calls Try.prog 9 #[.pointer (some ⟨t, 0, none⟩), .int .i64 (-1), .int .i64 0] W fun e w' => e = .returned (.int .i64 1) ∧ W = w' from fun W t => tset_bad (-1) 0 W (by unfold badT; omega))
  have HN := hide (show ∀ (W : World) (B t p c : Nat) (v : Value), TX W B t p c v x73 → Calls Try.prog 17 #[.pointer (some ⟨t, 0, none⟩)] W fun e w' => e = .returned (.tuple #[.agg #[.int .i64 1, .int .i64 5], .bool true]) ∧ Below W.heap.size W w' from fun W B t p c v h => tnext_any h ok73.srt)
  have HD := hide (show ∀ (W : World) (B t p c : Nat) (v : Value), TX W B t p c v x73 → Calls Try.prog 11 #[.pointer (some ⟨t, 0, none⟩), .int .i64 5] W fun e w' => ∃ ov, e = .returned ov ∧ DueQ W B t p c v x73 5 ov w' from fun W B t p c v h => tdue_any h ok73 5)
  have HL := hide (show ∀ (W : World) (B t p c : Nat) (v : Value), TX W B t p c v x74 → Calls Try.prog 10 #[.pointer (some ⟨t, 0, none⟩)] W fun e w' => e = .returned (.int .i64 1) ∧ W = w' from fun W B t p c v h => tlen_any h)
  have HS1 := hide (show ∀ (W : World) (B t p c : Nat) (v : Value), TX W B t p c v x74 → Calls Try.prog 15 #[.pointer (some ⟨t, 0, none⟩), .int .i64 0] W fun e w' => e = .returned (.bool true) ∧ TAft W B t p c v [] w' from fun W B t p c v h => tstop_any h ok74 0)
  have HS2 := hide (show ∀ (W : World) (B t p c : Nat) (v : Value), TX W B t p c v [] → Calls Try.prog 15 #[.pointer (some ⟨t, 0, none⟩), .int .i64 0] W fun e w' => e = .returned (.bool false) ∧ TAft W B t p c v [] w' from fun W B t p c v h => tstop_any h tok_nil 0)
  go_enter Try.func7, Try.ntmps7
  go_wp2_with fail
  refine (tnew_any _).mono ?_
  rintro e w1 ⟨t, p, c, rfl, h1, hb1⟩
  go_wp2_with fail
  refine (H1.out _ _ t p c _ h1).mono ?_
  rintro e w2 ⟨rfl, ha⟩
  have hb2 := hb1.trans (ha.bel h1)
  obtain ⟨v2, h2, -, -⟩ := ha
  clear h1 hb1
  go_wp2_with fail
  refine (H2.out _ _ t p c _ h2).mono ?_
  rintro e w3 ⟨rfl, ha⟩
  have hb3 := hb2.trans (ha.bel h2)
  obtain ⟨v3, h3, -, -⟩ := ha
  clear h2 hb2
  go_wp2_with fail
  refine (H3.out _ _ t p c _ h3).mono ?_
  rintro e w4 ⟨rfl, ha⟩
  have hb4 := hb3.trans (ha.bel h3)
  obtain ⟨v4, h4, -, -⟩ := ha
  clear h3 hb3
  go_wp2_with fail
  refine (H4.out _ t).mono ?_
  rintro e w5 ⟨rfl, rfl⟩
  go_wp2_with fail
  refine (HN.out _ _ t p c _ h4).mono ?_
  rintro e w5 ⟨rfl, hb⟩
  have h5 := h4.below hb
  have hb5 := hb4.trans (hb.mono hb4.size)
  clear h4 hb4 hb
  obtain ⟨q, hq⟩ : ∃ q, q = w5.heap.size := ⟨_, rfl⟩
  obtain ⟨W5, hW5⟩ : ∃ W, W = w5.alloc (.cells #[.int .i64 1, .int .i64 5] 44) := ⟨_, rfl⟩
  have hb : Below w5.heap.size w5 W5 := by rw [hW5]; exact (Below.refl _ _).alloc (Nat.le_refl _) _
  have oq : W5.heap[q]? = some (.cells #[.int .i64 1, .int .i64 5] 44 (0, 0)) := by rw [hW5, hq]; exact obj_new _ _
  have h6 := h5.below hb
  have hb6 := hb5.trans (hb.mono hb5.size)
  have hqn : v4.ownBlock ≠ some q ∧ q ≠ p ∧ q ≠ c := by
    have hl := h5.lt
    refine ⟨fun e => ?_, by omega, by omega⟩
    have := (h5.apart.2.2.2 q e).2.2.2.2
    omega
  clear h5 hb5 hb
  go_wp2_with fail
  rw [← hW5, ← hq]
  clear hW5 hq
  refine (HD.out _ _ t p c _ h6).mono ?_
  rintro e w7 ⟨ov, rfl, hdq⟩
  have hb7 := hb6.trans (hdq.bel h6)
  obtain ⟨v7, h7, -, hr7, hf7⟩ := hdq
  have hr7' : kI.row w7 W5.heap.size ov [1, 2] := hr7
  have h7' : TX w7 w.heap.size t p c v7 x74 := h7
  have oq7 := hf7.obj oq (fun e => by
    rcases e with e | e | e
    · exact hqn.1 e
    · exact hqn.2.1 e
    · exact hqn.2.2 e)
  obtain ⟨A, cc, rfl⟩ := EK.row_slice hr7'
  have x0 := obj_cell oq7 0
  have x1 := obj_cell oq7 1
  simp only [List.getElem?_toArray, List.getElem?_cons_zero, List.getElem?_cons_succ] at x0 x1
  obtain ⟨W7, hW7⟩ : ∃ W, W = w7.alloc (.cells #[.int .i64 1, .int .i64 2] 3) := ⟨_, rfl⟩
  have hb : Below w7.heap.size w7 W7 := by rw [hW7]; exact (Below.refl _ _).alloc (Nat.le_refl _) _
  have hr8 := EK.row_below hr7' hb
  have hlit : kI.row W7 w7.heap.size (.slice (some ⟨w7.heap.size, 0, none⟩) 2 2) [1, 2] := EK.row_lit (by rw [hW7]; exact obj_new _ _) (Nat.le_refl _) rfl (by decide)
  have HI := hide (ints_yes hr8 hlit)
  have h8 := h7'.below hb
  have hb8 := hb7.trans (hb.mono hb7.size)
  clear h6 hb6 hb7 h7 h7' hr7 hr7' hf7 oq oq7 hb hr8 hlit
  simp only [List.length_cons, List.length_nil] at HI ⊢
  go_wp2_with fail
  rw [← hW7]
  clear hW7 x0 x1
  refine HI.out.mono ?_
  rintro e w9 ⟨rfl, hb⟩
  have h9 := h8.below hb
  have hb9 := hb8.trans (hb.mono hb8.size)
  clear h8 hb8 hb
  go_wp2_with fail
  refine (HL.out _ _ t p c _ h9).mono ?_
  rintro e w10 ⟨rfl, rfl⟩
  go_wp2_with fail
  refine (HS1.out _ _ t p c _ h9).mono ?_
  rintro e w10 ⟨rfl, ha⟩
  have hb10 := hb9.trans (ha.bel h9)
  obtain ⟨v10, h10, -, -⟩ := ha
  clear h9 hb9
  go_wp2_with fail
  refine (HS2.out _ _ t p c _ h10).mono ?_
  rintro e w11 ⟨rfl, ha⟩
  have hb11 := hb10.trans (ha.bel h10)
  clear h10 hb10 ha
  go_wp2
  go_ret
  exact ⟨rfl, hb11⟩
end Go.Proofs.Ythbhpojbdpgajaa
