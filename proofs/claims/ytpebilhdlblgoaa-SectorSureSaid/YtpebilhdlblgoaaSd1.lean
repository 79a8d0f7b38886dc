/- Chapters 09 and 10, sector: may sectors be gone to. -/
import Derived.Test.YtpebilhdlblgoaaAx
namespace Go.Proofs.Ytpebilhdlblgoaa
open Go.RowKit

def chkE (n a k : Int) (ok lost : Bool) : Int := if a < 0 ∨ k < 1 ∨ ok = false then 1 else if n < a ∨ n - a < k then 5 else if lost = true then 8 else 0
set_option maxHeartbeats 2000000 in
set_option maxRecDepth 100000 in
theorem dcheck_any {w : World} {g n c : Nat} {A : Option Addr} {m : Value} {lost : Bool} (h : w.heap[g]? = some (.cells #[.slice A n c, m, .bool lost] 69 (0, 0))) (hn : n ≤ 9223372036854775807) (a k : Int) (ha : a ≤ 9223372036854775807) (hk : k ≤ 9223372036854775807) (ok : Bool) :
    Calls Try.prog 31 #[.pointer (some ⟨g, 0, none⟩), .int .i64 a, .int .i64 k, .bool ok] w fun e w' => e = .returned (.int .i64 (chkE n a k ok lost)) ∧ w = w' := by
  have z0 := obj_cell h 0
  have z2 := obj_cell h 2
  simp only [List.getElem?_toArray, List.getElem?_cons_zero, List.getElem?_cons_succ] at z0 z2
  clear h
  by_cases h1 : a < 0
  · rw [show chkE n a k ok lost = 1 by unfold chkE; rw [if_pos (.inl h1)]]
    go_enter Try.func31, Try.ntmps31
    go_wp2
    go_ret
    exact ⟨rfl, rfl⟩
  by_cases h2 : k < 1
  · rw [show chkE n a k ok lost = 1 by unfold chkE; rw [if_pos (.inr (.inl h2))]]
    go_enter Try.func31, Try.ntmps31
    go_wp2
    go_ret
    exact ⟨rfl, rfl⟩
  rcases ok with _ | _
  · rw [show chkE n a k false lost = 1 by unfold chkE; rw [if_pos (.inr (.inr rfl))]]
    go_enter Try.func31, Try.ntmps31
    go_wp2
    go_ret
    exact ⟨rfl, rfl⟩
  have h12 : ¬ (a < 0 ∨ k < 1 ∨ true = false) := by rintro (e | e | e); omega; omega; cases e
  by_cases h3 : (n : Int) < a
  · rw [show chkE n a k true lost = 5 by unfold chkE; rw [if_neg h12, if_pos (.inl h3)]]
    go_enter Try.func31, Try.ntmps31
    go_wp2
    go_ret
    exact ⟨rfl, rfl⟩
  by_cases h4 : (n : Int) - a < k
  · rw [show chkE n a k true lost = 5 by unfold chkE; rw [if_neg h12, if_pos (.inr h4)]]
    go_enter Try.func31, Try.ntmps31
    go_wp2
    go_ret
    exact ⟨rfl, rfl⟩
  have h34 : ¬ ((n : Int) < a ∨ (n : Int) - a < k) := by rintro (e | e) <;> omega
  rcases lost with _ | _
  · rw [show chkE n a k true false = 0 by unfold chkE; rw [if_neg h12, if_neg h34, if_neg (by decide)]]
    go_enter Try.func31, Try.ntmps31
    go_wp2
    go_ret
    exact ⟨rfl, rfl⟩
  · rw [show chkE n a k true true = 8 by unfold chkE; rw [if_neg h12, if_neg h34, if_pos rfl]]
    go_enter Try.func31, Try.ntmps31
    go_wp2
    go_ret
    exact ⟨rfl, rfl⟩
set_option maxRecDepth 100000 in
theorem dcheck_nil (a k : Int) (ok : Bool) (w : World) : Calls Try.prog 31 #[.pointer none, .int .i64 a, .int .i64 k, .bool ok] w fun e w' => e = .returned (.int .i64 1) ∧ w = w' := by
  go_enter Try.func31, Try.ntmps31
  go_wp2
  go_ret
  exact ⟨rfl, rfl⟩
set_option maxRecDepth 100000 in
theorem dread_nil (a k : Int) (w : World) : Calls Try.prog 23 #[.pointer none, .int .i64 a, .int .i64 k] w fun e w' => e = .returned (.tuple #[.string ⟨#[]⟩, .int .i64 1]) ∧ w = w' := by
  go_enter Try.func23, Try.ntmps23
  go_wp2_with fail
  refine (dcheck_nil _ _ _ _).mono ?_
  rintro e w1 ⟨rfl, rfl⟩
  go_wp2
  go_ret2
  exact ⟨rfl, rfl⟩
/-- Read is refused. -/
theorem dread_no {w : World} {g n c : Nat} {A : Option Addr} {m : Value} {lost : Bool} (h : w.heap[g]? = some (.cells #[.slice A n c, m, .bool lost] 69 (0, 0))) (hn : n ≤ 9223372036854775807) (a k : Int) (ha : a ≤ 9223372036854775807) (hk : k ≤ 9223372036854775807) (he : chkE n a k true lost ≠ 0) :
    Calls Try.prog 23 #[.pointer (some ⟨g, 0, none⟩), .int .i64 a, .int .i64 k] w fun e w' => e = .returned (.tuple #[.string ⟨#[]⟩, .int .i64 (chkE n a k true lost)]) ∧ w = w' := by
  have HC := hide (dcheck_any h hn a k ha hk true)
  clear h
  generalize chkE n a k true lost = ec at HC he ⊢
  have he' : (ec != 0) = true := by simp [he]
  go_enter Try.func23, Try.ntmps23
  go_wp2_with fail
  refine HC.out.mono ?_
  rintro e w1 ⟨rfl, rfl⟩
  go_wp2
  go_ret2
  exact ⟨rfl, rfl⟩
end Go.Proofs.Ytpebilhdlblgoaa
