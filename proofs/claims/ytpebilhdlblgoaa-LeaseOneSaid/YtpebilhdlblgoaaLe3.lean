/- Chapter 27, lease: Check, Drop. -/
import Derived.Test.YtpebilhdlblgoaaLe2
namespace Go.Proofs.Ytpebilhdlblgoaa
open Go.RowKit

/-- Does a lease pass? -/
def chkL (S : Les) (i cl tk nw : Int) : Bool := match S.f i with
  | some x => x.ino == i && x.cli == cl && x.tok == tk && decide (nw < x.til)
  | none => false
theorem check_nil (i cl tk nw : Int) (w : World) : Calls Try.prog 15 #[.pointer none, .int .i64 i, .int .i64 cl, .int .i64 tk, .int .i64 nw] w fun e w' => e = .returned (.bool false) ∧ w = w' := by
  go_enter Try.func15, Try.ntmps15
  go_wp2
  go_ret
  exact ⟨rfl, rfl⟩
set_option maxHeartbeats 8000000 in
set_option maxRecDepth 100000 in
theorem check_any {w : World} {g c : Nat} {S : Les} (h : LV w g c S) (i cl tk nw : Int) :
    Calls Try.prog 15 #[.pointer (some ⟨g, 0, none⟩), .int .i64 i, .int .i64 cl, .int .i64 tk, .int .i64 nw] w fun e w' => e = .returned (.bool (chkL S i cl tk nw)) ∧ Below w.heap.size w w' := by
  have z0 := obj_cell h.1 0
  simp only [List.getElem?_toArray, List.getElem?_cons_zero] at z0
  have hlk := MK.run_look_ok h.2 i
  rcases e : S.f i with _ | x
  · have HR := hide (show chkL S i cl tk nw = false by unfold chkL; rw [e])
    rw [e] at hlk
    have hl : (Instr.lookup 60 (.map (some c)) (.int .i64 i) true).run Try.prog w = .ok (.tuple #[.agg #[.int .i64 0, .int .i64 0, .int .i64 0, .int .i64 0], .bool false]) w := hlk
    have HB := hide ((Below.refl w.heap.size w).alloc (Nat.le_refl _) (.cells #[.int .i64 0, .int .i64 0, .int .i64 0, .int .i64 0] 30))
    clear h hlk e
    go_enter Try.func15, Try.ntmps15
    go_wp2
    go_ret
    rw [HR.out]
    exact ⟨rfl, HB.out⟩
  · obtain ⟨xi, xc, xt, xk⟩ := x
    have hc : chkL S i cl tk nw = (xi == i && xc == cl && xk == tk && decide (nw < xt)) := by unfold chkL; rw [e]
    rw [e] at hlk
    have hl : (Instr.lookup 60 (.map (some c)) (.int .i64 i) true).run Try.prog w = .ok (.tuple #[.agg #[.int .i64 xi, .int .i64 xc, .int .i64 xt, .int .i64 xk], .bool true]) w := hlk
    have HB := hide ((Below.refl w.heap.size w).alloc (Nat.le_refl _) (.cells #[.int .i64 xi, .int .i64 xc, .int .i64 xt, .int .i64 xk] 30))
    have HC := hide hc
    clear h hlk e hc
    by_cases e1 : xi = i
    · subst e1
      by_cases e2 : xc = cl
      · subst e2
        by_cases e3 : xk = tk
        · subst e3
          have HR := hide (show chkL S xi xc xk nw = decide (nw < xt) by rw [HC.out]; simp)
          go_enter Try.func15, Try.ntmps15
          go_wp2
          go_ret
          rw [HR.out]
          exact ⟨rfl, HB.out⟩
        · have HR := hide (show chkL S xi xc tk nw = false by rw [HC.out]; simp [e3])
          have n3 : (xk == tk) = false := by simp [e3]
          go_enter Try.func15, Try.ntmps15
          go_wp2
          go_ret
          rw [HR.out]
          exact ⟨rfl, HB.out⟩
      · have HR := hide (show chkL S xi cl tk nw = false by rw [HC.out]; simp [e2])
        have n2 : (xc == cl) = false := by simp [e2]
        go_enter Try.func15, Try.ntmps15
        go_wp2
        go_ret
        rw [HR.out]
        exact ⟨rfl, HB.out⟩
    · have HR := hide (show chkL S i cl tk nw = false by rw [HC.out]; simp [e1])
      have n1 : (xi == i) = false := by simp [e1]
      go_enter Try.func15, Try.ntmps15
      go_wp2
      go_ret
      rw [HR.out]
      exact ⟨rfl, HB.out⟩
/-- What Drop does: what is left, the error. -/
def dropL (S : Les) (i cl tk : Int) : Les × Int := match S.f i with
  | some x => if x.ino = i ∧ x.cli = cl ∧ x.tok = tk then (⟨upm S.f i none, S.tok⟩, 0) else (S, 11)
  | none => (S, 7)
theorem drop_nil (i cl tk : Int) (w : World) : Calls Try.prog 13 #[.pointer none, .int .i64 i, .int .i64 cl, .int .i64 tk] w fun e w' => e = .returned (.int .i64 1) ∧ w = w' := by
  go_enter Try.func13, Try.ntmps13
  go_wp2
  go_ret
  exact ⟨rfl, rfl⟩
set_option maxHeartbeats 8000000 in
set_option maxRecDepth 100000 in
theorem drop_any {w : World} {g c : Nat} {S : Les} (h : LV w g c S) (i cl tk : Int) :
    Calls Try.prog 13 #[.pointer (some ⟨g, 0, none⟩), .int .i64 i, .int .i64 cl, .int .i64 tk] w fun e w' => e = .returned (.int .i64 (dropL S i cl tk).2) ∧ LV w' g c (dropL S i cl tk).1 ∧ Fr (fun j => j = c) w w' := by
  have z0 := obj_cell h.1 0
  simp only [List.getElem?_toArray, List.getElem?_cons_zero] at z0
  have hlk := MK.run_look_ok h.2 i
  have HV := hide h
  rcases e : S.f i with _ | x
  · have HR := hide (show dropL S i cl tk = (S, 7) by unfold dropL; rw [e])
    rw [e] at hlk
    have hl : (Instr.lookup 60 (.map (some c)) (.int .i64 i) true).run Try.prog w = .ok (.tuple #[.agg #[.int .i64 0, .int .i64 0, .int .i64 0, .int .i64 0], .bool false]) w := hlk
    have HB := hide ((Below.refl w.heap.size w).alloc (Nat.le_refl _) (.cells #[.int .i64 0, .int .i64 0, .int .i64 0, .int .i64 0] 30))
    clear h hlk e
    go_enter Try.func13, Try.ntmps13
    go_wp2
    go_ret
    rw [HR.out]
    exact ⟨rfl, HV.out.below HB.out, Fr.of_below HB.out⟩
  · obtain ⟨xi, xc, xt, xk⟩ := x
    have hc : dropL S i cl tk = if xi = i ∧ xc = cl ∧ xk = tk then (⟨upm S.f i none, S.tok⟩, 0) else (S, 11) := by unfold dropL; rw [e]
    rw [e] at hlk
    have hl : (Instr.lookup 60 (.map (some c)) (.int .i64 i) true).run Try.prog w = .ok (.tuple #[.agg #[.int .i64 xi, .int .i64 xc, .int .i64 xt, .int .i64 xk], .bool true]) w := hlk
    obtain ⟨W1, hW1⟩ : ∃ W1, W1 = w.alloc (.cells #[.int .i64 xi, .int .i64 xc, .int .i64 xt, .int .i64 xk] 30) := ⟨_, rfl⟩
    have HB := hide (show Below w.heap.size w W1 by rw [hW1]; exact (Below.refl w.heap.size w).alloc (Nat.le_refl _) _)
    have HC := hide hc
    clear h hlk e hc
    by_cases e1 : xi = i
    · subst e1
      by_cases e2 : xc = cl
      · subst e2
        by_cases e3 : xk = tk
        · subst e3
          have HR := hide (show dropL S xi xc xk = (⟨upm S.f xi none, S.tok⟩, 0) by rw [HC.out]; simp)
          have hv1 := HV.out.below HB.out
          obtain ⟨W2, hdel, hm2, hf2, -⟩ := MK.run_del hv1.2 xi 0
          have hdel' : (Builtin.delete_ #[60, 3] 0 #[.map (some c), .int .i64 xi]).run Try.prog W1 = .ok (.tuple #[]) W2 := hdel
          have HV2 := hide (show LV W2 g c ⟨upm S.f xi none, S.tok⟩ from ⟨hf2.obj hv1.1 hv1.gc, hm2⟩)
          have HF2 := hide ((Fr.of_below (F := fun j => j = c) HB.out).trans hf2 (fun _ _ e => e))
          rw [hW1] at hdel'
          have hglt := HV.out.lt
          clear hdel hm2 hf2 hv1
          go_enter Try.func13, Try.ntmps13
          go_wp2
          go_ret
          rw [HR.out]
          exact ⟨rfl, HV2.out, HF2.out⟩
        · have HR := hide (show dropL S xi xc tk = (S, 11) by rw [HC.out]; simp [e3])
          go_enter Try.func13, Try.ntmps13
          go_wp2
          go_ret
          rw [HR.out, ← hW1]
          exact ⟨rfl, HV.out.below HB.out, Fr.of_below HB.out⟩
      · have HR := hide (show dropL S xi cl tk = (S, 11) by rw [HC.out]; simp [e2])
        go_enter Try.func13, Try.ntmps13
        go_wp2
        go_ret
        rw [HR.out, ← hW1]
        exact ⟨rfl, HV.out.below HB.out, Fr.of_below HB.out⟩
    · have HR := hide (show dropL S i cl tk = (S, 11) by rw [HC.out]; simp [e1])
      go_enter Try.func13, Try.ntmps13
      go_wp2
      go_ret
      rw [HR.out, ← hW1]
      exact ⟨rfl, HV.out.below HB.out, Fr.of_below HB.out⟩
end Go.Proofs.Ytpebilhdlblgoaa
