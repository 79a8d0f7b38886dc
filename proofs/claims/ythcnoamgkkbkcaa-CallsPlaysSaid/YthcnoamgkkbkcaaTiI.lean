/- Chapter 07, timers: rows of numbers compared; the chapter's example; TimersAgain, TimersNone. -/
import Derived.Test.YthcnoamgkkbkcaaTiF
namespace Go.Proofs.Ythcnoamgkkbkcaa
open Go.RowKit

/-- A new block of elements, as a row. -/
theorem EK.row_lit {P : Program} {α : Type} {K : EK P α} {w : World} {b B : Nat} {l : List α} {n : Nat} (hb : w.heap[b]? = some (.cells (K.vals l).toArray K.e (0, 0))) (hB : B ≤ b) (hn : n = l.length) (hm : n ≤ maxLen) : K.row w B (.slice (some ⟨b, 0, none⟩) n n) l := by
  subst hn
  refine ⟨EK.vlen l, .inr ⟨b, l.length, _, rfl, hB, hb, Nat.le_refl _, hm, by rw [List.size_toArray, EK.vlen], ?_⟩⟩
  show List.take _ (K.vals l) = _
  rw [List.take_of_length_le (by rw [EK.vlen]; exact Nat.le_refl _)]
theorem below_drewN {B : Nat} {a w : World} (h : Below B a w) (n : Nat) : Below B a (w.drewN n) := ⟨h.os, h.tape, h.output, h.size, h.block⟩
def SameI (w0 : World) (n : Nat) (w : World) (i : Value) : Prop := ∃ k : Nat, i = .int .i64 k ∧ k ≤ n ∧ Below w0.heap.size w0 w
set_option maxHeartbeats 4000000 in
set_option maxRecDepth 100000 in
theorem ints_yes {w : World} {B B' : Nat} {u v : Value} {l : List Int} (hu : kI.row w B u l) (hv : kI.row w B' v l) : Calls Try.prog 27 #[u, v] w fun e w' => e = .returned (.bool true) ∧ Below w.heap.size w w' := by
  obtain ⟨A, c, rfl⟩ := EK.row_slice hu
  obtain ⟨A', c', rfl⟩ := EK.row_slice hv
  obtain ⟨n, hn⟩ : ∃ n, n = l.length := ⟨_, rfl⟩
  rw [← hn] at hu hv ⊢
  have HN := hide hn
  have HU := hide hu
  have HV := hide hv
  have HS : Hid (SameI w n w (.int .i64 0)) := hide ⟨0, rfl, Nat.zero_le _, Below.refl _ _⟩
  clear hu hv hn
  go_enter Try.func27, Try.ntmps27
  go_wp2_with fail
  go_loopw [5] (fun i wr => SameI w n wr i) (fun i _ => n - (intOf i).toNat)
  case atStart => exact HS.out
  case round =>
    obtain ⟨k, rfl, hk, hb⟩ := hrel
    have HB := hide hb
    have hu := EK.row_below HU.out hb
    have hv := EK.row_below HV.out hb
    clear hb
    rcases Nat.lt_or_ge k n with hkl | hkl
    · have hkl' : k < l.length := by have := HN.out; omega
      obtain ⟨r, cap, e1, hz1, hz2, -, -, hcell⟩ := EK.row_cells hu hkl'
      obtain ⟨r', cap', e2, hz3, hz4, -, -, hcell2⟩ := EK.row_cells hv hkl'
      rw [← HN.out] at e1 e2 hz1 hz3
      injection e1 with e1a e1b e1c
      subst e1a e1c
      injection e2 with e2a e2b e2c
      subst e2a e2c
      simp only [maxLen] at hz2 hz4
      obtain ⟨x, hx⟩ : ∃ x, x = l[k] := ⟨_, rfl⟩
      have q0 := hcell 0 (by decide)
      have q1 := hcell2 0 (by decide)
      rw [← hx] at q0 q1
      simp only [kI, List.getElem?_cons_zero, Nat.mul_one, Nat.add_zero] at q0 q1
      have hki : (k : Int) < (n : Int) := by omega
      have HRES := hide (fun nq => show SameI w n (wr.drewN nq) (.int .i64 ((k : Int) + 1)) from ⟨k + 1, rfl, hkl, below_drewN HB.out nq⟩)
      clear hcell hcell2 hu hv hx e1b e2b
      go_wp2_with fail
      go_quiet (fail)
      go_wp2_with fail
      exact ⟨HRES.out _, by simp only [intOf]; omega⟩
    · obtain rfl : k = n := by omega
      clear hu hv
      go_wp2
      go_ret
      exact ⟨rfl, HB.out⟩
theorem TAft.bel {w w' : World} {B t p c : Nat} {v : Value} {x y : List Tm} (h : TX w B t p c v x) (ha : TAft w B t p c v y w') : Below B w w' := by
  obtain ⟨v', -, -, hf⟩ := ha
  have hap := h.apart
  have hB := h.2.2
  have hlt := h.lt
  exact hf.below B (by omega) (fun j hj e => by
    rcases e with e | e | e
    · have := (hap.2.2.2 j e).2.2.2.1
      omega
    · omega
    · omega)
theorem DueQ.bel {w w' : World} {B t p c : Nat} {v ov : Value} {x : List Tm} {now : Int} (h : TX w B t p c v x) (ha : DueQ w B t p c v x now ov w') : Below B w w' := by
  obtain ⟨v', -, -, -, hf⟩ := ha
  have hap := h.apart
  have hB := h.2.2
  have hlt := h.lt
  exact hf.below B (by omega) (fun j hj e => by
    rcases e with e | e | e
    · have := (hap.2.2.2 j e).2.2.2.1
      omega
    · omega
    · omega)
/-- A block of one's own stays. -/
theorem TX.far {w w' : World} {B t p c q : Nat} {v : Value} {x : List Tm} (h : TX w B t p c v x) (hf : Fr (fun k => v.ownBlock = some k ∨ k = p ∨ k = c) w w') {cs : Array Value} {ty : TypeId} (ho : w.heap[q]? = some (.cells cs ty (0, 0))) (h1 : ty ≠ 153) (h2 : ty ≠ 149) : w'.heap[q]? = some (.cells cs ty (0, 0)) := by
  obtain ⟨_, ⟨l, ⟨f, h5, -⟩, -⟩, -⟩ := h
  refine hf.obj ho (fun e => ?_)
  rcases e with e | e | e
  · obtain ⟨-, -, cs', h8⟩ := EK.row_typed h5.2.1 e
    rw [ho] at h8
    simp only [Option.some.injEq, Obj.cells.injEq] at h8
    exact h1 h8.2.1
  · subst e
    have := h5.1
    rw [ho] at this
    simp only [Option.some.injEq, Obj.cells.injEq] at this
    exact h2 this.2.1
  · subst e
    obtain ⟨es, k, h3⟩ := MK.mp_obj h5.2.2
    rw [ho] at h3
    cases h3
end Go.Proofs.Ythcnoamgkkbkcaa
