/- Chapter 31, segment: the small functions. -/
import Derived.Test.YtljmaicobafgkaaOrd
import Derived.Test.YtljmaicobafgkaaApp
import Derived.Test.YtljmaicobafgkaaWriter
namespace Go.Proofs.Ytljmaicobafgkaa
open Go.RowKit

/-- A piece's numbers. -/
structure Ent where
  kind : Int
  inode : Int
  block : Int
  pos : Int
  len : Int
def Ent.cells (e : Ent) : List Value := [.int .i64 e.kind, .int .i64 e.inode, .int .i64 e.block, .int .i64 e.pos, .int .i64 e.len]
def entV (e : Ent) : Value := .agg #[.int .i64 e.kind, .int .i64 e.inode, .int .i64 e.block, .int .i64 e.pos, .int .i64 e.len]
def mayE (k i b : Int) : Prop := 1 ≤ k ∧ k ≤ 3 ∧ 0 ≤ i ∧ i < 256 ∧ 0 ≤ b ∧ b < 2147483648
instance (k i b : Int) : Decidable (mayE k i b) := by unfold mayE; infer_instance

set_option maxRecDepth 100000 in
theorem may_any (k i b f n : Int) (w : World) :
    Calls Try.prog 127 #[.agg #[.int .i64 k, .int .i64 i, .int .i64 b, .int .i64 f, .int .i64 n]] w fun e w' => e = .returned (.bool (decide (mayE k i b))) ∧ Below w.heap.size w w' := by
  by_cases h0 : 1 ≤ k
  · 
    by_cases h1 : k ≤ 3
    · 
      by_cases h2 : 0 ≤ i
      · 
        by_cases h3 : i < 256
        · 
          by_cases h4 : 0 ≤ b
          · 
            by_cases h5 : b < 2147483648
            · 
              rw [show decide (mayE k i b) = true from decide_eq_true ⟨h0, h1, h2, h3, h4, h5⟩]
              go_enter Try.func127, Try.ntmps127
              go_wp2
              go_ret
              exact ⟨rfl, (Below.refl _ _).alloc (Nat.le_refl _) _⟩
            · rw [show decide (mayE k i b) = false from decide_eq_false (by unfold mayE; omega)]
              go_enter Try.func127, Try.ntmps127
              go_wp2
              go_ret
              exact ⟨rfl, (Below.refl _ _).alloc (Nat.le_refl _) _⟩
          · rw [show decide (mayE k i b) = false from decide_eq_false (by unfold mayE; omega)]
            go_enter Try.func127, Try.ntmps127
            go_wp2
            go_ret
            exact ⟨rfl, (Below.refl _ _).alloc (Nat.le_refl _) _⟩
        · rw [show decide (mayE k i b) = false from decide_eq_false (by unfold mayE; omega)]
          go_enter Try.func127, Try.ntmps127
          go_wp2
          go_ret
          exact ⟨rfl, (Below.refl _ _).alloc (Nat.le_refl _) _⟩
      · rw [show decide (mayE k i b) = false from decide_eq_false (by unfold mayE; omega)]
        go_enter Try.func127, Try.ntmps127
        go_wp2
        go_ret
        exact ⟨rfl, (Below.refl _ _).alloc (Nat.le_refl _) _⟩
    · rw [show decide (mayE k i b) = false from decide_eq_false (by unfold mayE; omega)]
      go_enter Try.func127, Try.ntmps127
      go_wp2
      go_ret
      exact ⟨rfl, (Below.refl _ _).alloc (Nat.le_refl _) _⟩
  · rw [show decide (mayE k i b) = false from decide_eq_false (by unfold mayE; omega)]
    go_enter Try.func127, Try.ntmps127
    go_wp2
    go_ret
    exact ⟨rfl, (Below.refl _ _).alloc (Nat.le_refl _) _⟩
set_option maxRecDepth 100000 in
theorem rMay_any (k i b : Int) (w : World) :
    Calls Try.prog 125 #[.int .i64 k, .int .i64 i, .int .i64 b] w fun e w' => e = .returned (.bool (decide (mayE k i b))) ∧ Below w.heap.size w w' := by
  by_cases h0 : 1 ≤ k
  · 
    by_cases h1 : k ≤ 3
    · 
      by_cases h2 : 0 ≤ i
      · 
        by_cases h3 : i < 256
        · 
          by_cases h4 : 0 ≤ b
          · 
            by_cases h5 : b < 2147483648
            · 
              rw [show decide (mayE k i b) = true from decide_eq_true ⟨h0, h1, h2, h3, h4, h5⟩]
              go_enter Try.func125, Try.ntmps125
              go_wp2
              go_ret
              exact ⟨rfl, Below.refl _ _⟩
            · rw [show decide (mayE k i b) = false from decide_eq_false (by unfold mayE; omega)]
              go_enter Try.func125, Try.ntmps125
              go_wp2
              go_ret
              exact ⟨rfl, Below.refl _ _⟩
          · rw [show decide (mayE k i b) = false from decide_eq_false (by unfold mayE; omega)]
            go_enter Try.func125, Try.ntmps125
            go_wp2
            go_ret
            exact ⟨rfl, Below.refl _ _⟩
        · rw [show decide (mayE k i b) = false from decide_eq_false (by unfold mayE; omega)]
          go_enter Try.func125, Try.ntmps125
          go_wp2
          go_ret
          exact ⟨rfl, Below.refl _ _⟩
      · rw [show decide (mayE k i b) = false from decide_eq_false (by unfold mayE; omega)]
        go_enter Try.func125, Try.ntmps125
        go_wp2
        go_ret
        exact ⟨rfl, Below.refl _ _⟩
    · rw [show decide (mayE k i b) = false from decide_eq_false (by unfold mayE; omega)]
      go_enter Try.func125, Try.ntmps125
      go_wp2
      go_ret
      exact ⟨rfl, Below.refl _ _⟩
  · rw [show decide (mayE k i b) = false from decide_eq_false (by unfold mayE; omega)]
    go_enter Try.func125, Try.ntmps125
    go_wp2
    go_ret
    exact ⟨rfl, Below.refl _ _⟩
def over (n : Int) : Int := if n < 0 then 0 else 9 + 28 * min n 100000
set_option maxRecDepth 100000 in
theorem over_any (n : Int) (w : World) (h1 : n ≤ 9223372036854775807) :
    Calls Try.prog 124 #[.int .i64 n] w fun e w' => e = .returned (.int .i64 (over n)) ∧ Below w.heap.size w w' := by
  by_cases h : n < 0
  · rw [show over n = 0 from if_pos h]
    go_enter Try.func124, Try.ntmps124
    go_wp2
    go_ret
    exact ⟨rfl, Below.refl _ _⟩
  · rw [show over n = 9 + 28 * min n 100000 from if_neg h]
    rcases Int.lt_or_le 100000 n with h2 | h2
    · rw [show min n 100000 = 100000 from by omega]
      go_enter Try.func124, Try.ntmps124
      go_wp2
      go_ret
      exact ⟨rfl, Below.refl _ _⟩
    · rw [show min n 100000 = n from by omega]
      go_enter Try.func124, Try.ntmps124
      go_wp2
      go_ret
      exact ⟨rfl, Below.refl _ _⟩
set_option maxRecDepth 100000 in
theorem rOver_any (n : Int) (w : World) (h1 : n ≤ 9223372036854775807) :
    Calls Try.prog 126 #[.int .i64 n] w fun e w' => e = .returned (.int .i64 (over n)) ∧ Below w.heap.size w w' := by
  by_cases h : n < 0
  · rw [show over n = 0 from if_pos h]
    go_enter Try.func126, Try.ntmps126
    go_wp2
    go_ret
    exact ⟨rfl, Below.refl _ _⟩
  · rw [show over n = 9 + 28 * min n 100000 from if_neg h]
    rcases Int.lt_or_le 100000 n with h2 | h2
    · rw [show min n 100000 = 100000 from by omega]
      go_enter Try.func126, Try.ntmps126
      go_wp2
      go_ret
      exact ⟨rfl, Below.refl _ _⟩
    · rw [show min n 100000 = n from by omega]
      go_enter Try.func126, Try.ntmps126
      go_wp2
      go_ret
      exact ⟨rfl, Below.refl _ _⟩
end Go.Proofs.Ytljmaicobafgkaa
