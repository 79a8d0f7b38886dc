/- Chapter 31, segment: Get, and the reference's. -/
import Derived.Test.YtljmaicobafgkaaSeg5
namespace Go.Proofs.Ytljmaicobafgkaa
open Go.RowKit

def getOk (n : Nat) (f l : Int) : Prop := 0 ≤ f ∧ 0 ≤ l ∧ f ≤ n ∧ l ≤ n - f
set_option maxRecDepth 100000 in
theorem get_bad (s : ByteArray) (k i b f l : Int) (w : World) (hs : s.size ≤ 4611686018427387904) (hb : ¬ getOk s.size f l) :
    Calls Try.prog 64 #[.string s, .agg #[.int .i64 k, .int .i64 i, .int .i64 b, .int .i64 f, .int .i64 l]] w fun e w' => e = .returned (.tuple #[.string ⟨#[]⟩, .int .i64 1]) ∧ Below w.heap.size w w' := by
  by_cases h0 : f < 0
  · skip
    go_enter Try.func64, Try.ntmps64
    go_wp2
    go_ret2
    exact ⟨rfl, (Below.refl _ _).alloc (Nat.le_refl _) _⟩
  by_cases h1 : l < 0
  · skip
    go_enter Try.func64, Try.ntmps64
    go_wp2
    go_ret2
    exact ⟨rfl, (Below.refl _ _).alloc (Nat.le_refl _) _⟩
  by_cases h2 : (s.size : Int) < f
  · skip
    go_enter Try.func64, Try.ntmps64
    go_wp2
    go_ret2
    exact ⟨rfl, (Below.refl _ _).alloc (Nat.le_refl _) _⟩
  have h3 : (s.size : Int) - f < l := by unfold getOk at hb; omega
  go_enter Try.func64, Try.ntmps64
  go_wp2
  go_ret2
  exact ⟨rfl, (Below.refl _ _).alloc (Nat.le_refl _) _⟩
set_option maxRecDepth 100000 in
theorem get_ok (s : ByteArray) (k i b : Int) (f l : Nat) (w : World) (hs : s.size ≤ 4611686018427387904) (hf : f + l ≤ s.size) :
    Calls Try.prog 64 #[.string s, .agg #[.int .i64 k, .int .i64 i, .int .i64 b, .int .i64 f, .int .i64 l]] w fun e w' => e = .returned (.tuple #[.string (s.extract f (f + l)), .int .i64 0]) ∧ Below w.heap.size w w' := by
  obtain ⟨m, hm⟩ : ∃ m, m = f + l := ⟨_, rfl⟩
  rw [← hm]
  have hsum : (f : Int) + (l : Int) = (m : Int) := by omega
  have h4 : (f : Int) ≤ (m : Int) := by omega
  have h5 : (m : Int) ≤ (s.size : Int) := by omega
  have h6 : f ≤ m := by omega
  have h7 : m ≤ s.size := by omega
  have h0 : ¬ (f : Int) < 0 := by omega
  have h1 : ¬ (l : Int) < 0 := by omega
  have h2 : ¬ (s.size : Int) < (f : Int) := by omega
  have h3 : ¬ (s.size : Int) - (f : Int) < (l : Int) := by omega
  clear hm hf
  go_enter Try.func64, Try.ntmps64
  go_wp2
  go_ret2
  exact ⟨rfl, (Below.refl _ _).alloc (Nat.le_refl _) _⟩
set_option maxRecDepth 100000 in
theorem rGet_bad (s : ByteArray) (k i b f l : Int) (w : World) (hs : s.size ≤ 4611686018427387904) (hb : ¬ getOk s.size f l) :
    Calls Try.prog 145 #[.string s, .agg #[.int .i64 k, .int .i64 i, .int .i64 b, .int .i64 f, .int .i64 l]] w fun e w' => e = .returned (.tuple #[.string ⟨#[]⟩, .int .i64 1]) ∧ Below w.heap.size w w' := by
  by_cases h0 : f < 0
  · skip
    go_enter Try.func145, Try.ntmps145
    go_wp2
    go_ret2
    exact ⟨rfl, (Below.refl _ _).alloc (Nat.le_refl _) _⟩
  by_cases h1 : l < 0
  · skip
    go_enter Try.func145, Try.ntmps145
    go_wp2
    go_ret2
    exact ⟨rfl, (Below.refl _ _).alloc (Nat.le_refl _) _⟩
  by_cases h2 : (s.size : Int) < f
  · skip
    go_enter Try.func145, Try.ntmps145
    go_wp2
    go_ret2
    exact ⟨rfl, (Below.refl _ _).alloc (Nat.le_refl _) _⟩
  have h3 : (s.size : Int) - f < l := by unfold getOk at hb; omega
  go_enter Try.func145, Try.ntmps145
  go_wp2
  go_ret2
  exact ⟨rfl, (Below.refl _ _).alloc (Nat.le_refl _) _⟩
set_option maxRecDepth 100000 in
theorem rGet_ok (s : ByteArray) (k i b : Int) (f l : Nat) (w : World) (hs : s.size ≤ 4611686018427387904) (hf : f + l ≤ s.size) :
    Calls Try.prog 145 #[.string s, .agg #[.int .i64 k, .int .i64 i, .int .i64 b, .int .i64 f, .int .i64 l]] w fun e w' => e = .returned (.tuple #[.string (s.extract f (f + l)), .int .i64 0]) ∧ Below w.heap.size w w' := by
  obtain ⟨m, hm⟩ : ∃ m, m = f + l := ⟨_, rfl⟩
  rw [← hm]
  have hsum : (f : Int) + (l : Int) = (m : Int) := by omega
  have h4 : (f : Int) ≤ (m : Int) := by omega
  have h5 : (m : Int) ≤ (s.size : Int) := by omega
  have h6 : f ≤ m := by omega
  have h7 : m ≤ s.size := by omega
  have h0 : ¬ (f : Int) < 0 := by omega
  have h1 : ¬ (l : Int) < 0 := by omega
  have h2 : ¬ (s.size : Int) < (f : Int) := by omega
  have h3 : ¬ (s.size : Int) - (f : Int) < (l : Int) := by omega
  clear hm hf
  go_enter Try.func145, Try.ntmps145
  go_wp2
  go_ret2
  exact ⟨rfl, (Below.refl _ _).alloc (Nat.le_refl _) _⟩
end Go.Proofs.Ytljmaicobafgkaa
