/- A join of 1 texts of this claim: Seg2. Conditions: none of their own. -/
import Derived.Test.YtljmaicobafgkaaQ1
import Derived.Test.YtljmaicobafgkaaQ4
section
/- Chapter 31, segment: a segment in memory; how much is left. -/
namespace Go.Proofs.Ytljmaicobafgkaa
open Go.RowKit

def entVals (l : List Ent) : List Value := l.flatMap Ent.cells
theorem entVals_len (l : List Ent) : (entVals l).length = l.length * 5 := by
  induction l with
  | nil => rfl
  | cons e l ih => simp only [entVals, List.flatMap_cons, List.length_append] at ih ⊢; rw [ih]; simp [Ent.cells]; omega
/-- A row of pieces of the call's own. -/
def OwE (w : World) (B : Nat) (v : Value) (l : List Ent) : Prop := w.ownsRow B 89 5 v l.length (entVals l)
def segC (size : Int) (bv lv : Value) : Array Value := #[.int .i64 size, bv, lv]
/-- Block g is a segment. -/
def Sg (w : World) (g : Nat) (size : Int) (t : List UInt8) (l : List Ent) (lv : Value) : Prop :=
  ∃ bv, w.heap[g]? = some (.cells (segC size bv lv) 199 (0, 0)) ∧ OwB w g bv t ∧ OwE w g lv l
/-- What a segment's Add may turn. -/
def sgF (w : World) (g : Nat) (lv : Value) (k : Nat) : Prop := k = g ∨ lv.ownBlock = some k ∨ (g ≤ k ∧ ∃ cs f, w.heap[k]? = some (.cells cs 5 f))
theorem Sg.below {w w' : World} {g : Nat} {size : Int} {t : List UInt8} {l : List Ent} {lv : Value} (h : Sg w g size t l lv) (hb : Below w.heap.size w w') : Sg w' g size t l lv := by
  obtain ⟨bv, h1, h2, h3⟩ := h
  exact ⟨bv, obj_below h1 hb, row_below h2 hb, row_below h3 hb⟩
theorem Sg.lt {w : World} {g : Nat} {size : Int} {t : List UInt8} {l : List Ent} {lv : Value} (h : Sg w g size t l lv) : g < w.heap.size := by
  obtain ⟨bv, h1, _⟩ := h
  exact obj_lt h1
def szOf (n : Int) : Int := min (max n 16) 65536
theorem newSeg_any (n : Int) (w : World) :
    Calls Try.prog 53 #[.int .i64 n] w fun e w' => e = .returned (.pointer (some ⟨w.heap.size, 0, none⟩)) ∧ Sg w' w.heap.size (szOf n) [] [] (.slice none 0 0) ∧ Below w.heap.size w w' := by
  rcases Int.lt_or_le n 16 with h | h
  · skip
    rw [show szOf n = 16 from by unfold szOf; omega]
    go_enter Try.func53, Try.ntmps53
    go_wp2
    go_ret
    exact ⟨rfl, ⟨.slice none 0 0, by simpa [segC] using obj_new w _, World.ownsRow_nil _ _ _ _, World.ownsRow_nil _ _ _ _⟩, (Below.refl _ _).alloc (Nat.le_refl _) _⟩
  · rcases Int.lt_or_le 65536 n with h2 | h2
    · skip
      rw [show szOf n = 65536 from by unfold szOf; omega]
      go_enter Try.func53, Try.ntmps53
      go_wp2
      go_ret
      exact ⟨rfl, ⟨.slice none 0 0, by simpa [segC] using obj_new w _, World.ownsRow_nil _ _ _ _, World.ownsRow_nil _ _ _ _⟩, (Below.refl _ _).alloc (Nat.le_refl _) _⟩
    · skip
      rw [show szOf n = n from by unfold szOf; omega]
      go_enter Try.func53, Try.ntmps53
      go_wp2
      go_ret
      exact ⟨rfl, ⟨.slice none 0 0, by simpa [segC] using obj_new w _, World.ownsRow_nil _ _ _ _, World.ownsRow_nil _ _ _ _⟩, (Below.refl _ _).alloc (Nat.le_refl _) _⟩
theorem rNewSeg_any (n : Int) (w : World) :
    Calls Try.prog 54 #[.int .i64 n] w fun e w' => e = .returned (.agg #[.int .i64 (szOf n), .string ⟨#[]⟩, .slice none 0 0]) ∧ Below w.heap.size w w' := by
  rcases Int.lt_or_le n 16 with h | h
  · skip
    rw [show szOf n = 16 from by unfold szOf; omega]
    go_enter Try.func54, Try.ntmps54
    go_wp2
    exact bodyPost_ret (res_c rfl _ _ w.heap.size 86 _ _ _ rfl (obj_new w _) Try.underlying86 rfl (by kernel_rfl)) rfl ⟨rfl, (Below.refl _ _).alloc (Nat.le_refl _) _⟩
  · rcases Int.lt_or_le 65536 n with h2 | h2
    · skip
      rw [show szOf n = 65536 from by unfold szOf; omega]
      go_enter Try.func54, Try.ntmps54
      go_wp2
      exact bodyPost_ret (res_c rfl _ _ w.heap.size 86 _ _ _ rfl (obj_new w _) Try.underlying86 rfl (by kernel_rfl)) rfl ⟨rfl, (Below.refl _ _).alloc (Nat.le_refl _) _⟩
    · skip
      rw [show szOf n = n from by unfold szOf; omega]
      go_enter Try.func54, Try.ntmps54
      go_wp2
      exact bodyPost_ret (res_c rfl _ _ w.heap.size 86 _ _ _ rfl (obj_new w _) Try.underlying86 rfl (by kernel_rfl)) rfl ⟨rfl, (Below.refl _ _).alloc (Nat.le_refl _) _⟩
def leftA (g : Nat) (x : Nat → Value) : Act := ⟨#[.pointer (some ⟨g, 0, none⟩), undef, x 18, x 0, x 1, x 2, x 3, x 4, x 5, x 6, x 7, x 8, x 9, x 10, x 11, x 12, x 13, x 14, x 15, x 16, x 17], []⟩
def leftX (j : Nat) : Value := if j = 18 then .int .i64 0 else undef
def leftV (g : Nat) (size : Int) (A A' : Option Addr) (t n c c' : Nat) (i : Nat) (v : Value) (_w : World) : Prop :=
  match i with
  | 0 => v = .pointer (some ⟨g, 0, none⟩)
  | 1 => v = .pointer (some ⟨g, 0, none⟩)
  | 2 => v = .pointer (some ⟨g, 0, none⟩)
  | 3 => v = .int .i64 size
  | 4 => v = .pointer (some ⟨g, 0, none⟩)
  | 5 => v = .pointer (some ⟨g, 0, none⟩)
  | 6 => v = .pointer (some ⟨g, 1, none⟩)
  | 7 => v = .slice A t c
  | 8 => v = .int .i64 (t : Int)
  | 9 => v = .int .i64 (size - t)
  | 10 => v = .pointer (some ⟨g, 0, none⟩)
  | 11 => v = .pointer (some ⟨g, 0, none⟩)
  | 12 => v = .pointer (some ⟨g, 2, none⟩)
  | 13 => v = .slice A' n c'
  | 14 => v = .int .i64 (n : Int)
  | 15 => v = .int .i64 (n + 1 : Int)
  | 16 => v = .int .i64 (over (n + 1))
  | 17 => v = .int .i64 (size - t - over (n + 1))
  | _ => v = .int .i64 (size - t - over (n + 1))
theorem over_bound (n : Int) : 0 ≤ over n ∧ over n ≤ 2800009 := by
  unfold over
  split <;> omega
set_option maxHeartbeats 4000000 in
set_option maxRecDepth 100000 in
theorem left_walk (g : Nat) (size : Int) (A A' : Option Addr) (t n c c' : Nat) (w : World) (hh : w.heap[g]? = some (.cells (segC size (.slice A t c) (.slice A' n c')) 199 (0, 0)))
    (h0 : 0 ≤ size) (h1 : size ≤ 65536) (ht : t ≤ 1048576) (hn : n ≤ 1048576) :
    Calls Try.prog 128 #[.pointer (some ⟨g, 0, none⟩)] w fun e w' => e = .returned (.int .i64 (size - t - over (n + 1))) ∧ Below w.heap.size w w' := by
  have ho := over_bound (n + 1)
  go_enter Try.func128, Try.ntmps128
  go_wp2_with fail
  refine wp_region_vals (leftA g) leftX (Kept w.heap.size g (segC size (.slice A t c) (.slice A' n c')) 199 w) (leftV g size A A' t n c c') rfl (by kernel_rfl) rfl (fun _ _ => Kept.on) (fun _ _ _ _ _ h => h) (Kept.self hh).drew ?_ ?_ ?_
  · exact ⟨fun x v => rfl, fun x v => rfl, fun x v => rfl, fun x v => rfl, fun x v => rfl, fun x v => rfl, fun x v => rfl, fun x v => rfl, fun x v => rfl, fun x v => rfl, fun x v => rfl, fun x v => rfl, fun x v => rfl, fun x v => rfl, fun x v => rfl, fun x v => rfl, fun x v => rfl, fun x v => rfl, fun x v => rfl, trivial⟩
  · refine ⟨?_, ?_, ?_, ?_, ?_, ?_, ?_, ?_, ?_, ?_, ?_, ?_, ?_, ?_, ?_, ?_, ?_, ?_, ?_, trivial⟩
    · intro x w' hS hd K hK
      refine ⟨rfl, ?_⟩
      unfold leftA at hK ⊢
      go_wp2
      exact hK (.pointer (some ⟨g, 0, none⟩)) w' (Below.refl _ _) rfl
    · intro x w' hS hd K hK
      have d0 : x 0 = .pointer (some ⟨g, 0, none⟩) := by first | exact hd _ List.mem_cons_self | exact hd _ (List.mem_cons_of_mem _ List.mem_cons_self) | exact hd _ (List.mem_cons_of_mem _ (List.mem_cons_of_mem _ List.mem_cons_self)) | exact hd _ (List.mem_cons_of_mem _ (List.mem_cons_of_mem _ (List.mem_cons_of_mem _ List.mem_cons_self))) | exact hd _ (List.mem_cons_of_mem _ (List.mem_cons_of_mem _ (List.mem_cons_of_mem _ (List.mem_cons_of_mem _ List.mem_cons_self))))
      refine ⟨rfl, ?_⟩
      unfold leftA at hK ⊢
      simp only [d0] at hK ⊢
      go_wp2
      exact hK (.pointer (some ⟨g, 0, none⟩)) w' (Below.refl _ _) rfl
    · intro x w' hS hd K hK
      have d0 : x 1 = .pointer (some ⟨g, 0, none⟩) := by first | exact hd _ List.mem_cons_self | exact hd _ (List.mem_cons_of_mem _ List.mem_cons_self) | exact hd _ (List.mem_cons_of_mem _ (List.mem_cons_of_mem _ List.mem_cons_self)) | exact hd _ (List.mem_cons_of_mem _ (List.mem_cons_of_mem _ (List.mem_cons_of_mem _ List.mem_cons_self))) | exact hd _ (List.mem_cons_of_mem _ (List.mem_cons_of_mem _ (List.mem_cons_of_mem _ (List.mem_cons_of_mem _ List.mem_cons_self))))
      refine ⟨rfl, ?_⟩
      unfold leftA at hK ⊢
      simp only [d0] at hK ⊢
      go_wp2
      exact hK (.pointer (some ⟨g, 0, none⟩)) w' (Below.refl _ _) rfl
    · intro x w' hS hd K hK
      have d0 : x 2 = .pointer (some ⟨g, 0, none⟩) := by first | exact hd _ List.mem_cons_self | exact hd _ (List.mem_cons_of_mem _ List.mem_cons_self) | exact hd _ (List.mem_cons_of_mem _ (List.mem_cons_of_mem _ List.mem_cons_self)) | exact hd _ (List.mem_cons_of_mem _ (List.mem_cons_of_mem _ (List.mem_cons_of_mem _ List.mem_cons_self))) | exact hd _ (List.mem_cons_of_mem _ (List.mem_cons_of_mem _ (List.mem_cons_of_mem _ (List.mem_cons_of_mem _ List.mem_cons_self))))
      refine ⟨rfl, ?_⟩
      unfold leftA at hK ⊢
      simp only [d0] at hK ⊢
      have z := hS.cell 0
      simp only [segC, List.getElem?_toArray, List.getElem?_cons_zero] at z
      go_wp2
      exact hK (.int .i64 size) w' (Below.refl _ _) rfl
    · intro x w' hS hd K hK
      refine ⟨rfl, ?_⟩
      unfold leftA at hK ⊢
      go_wp2
      exact hK (.pointer (some ⟨g, 0, none⟩)) w' (Below.refl _ _) rfl
    · intro x w' hS hd K hK
      have d0 : x 4 = .pointer (some ⟨g, 0, none⟩) := by first | exact hd _ List.mem_cons_self | exact hd _ (List.mem_cons_of_mem _ List.mem_cons_self) | exact hd _ (List.mem_cons_of_mem _ (List.mem_cons_of_mem _ List.mem_cons_self)) | exact hd _ (List.mem_cons_of_mem _ (List.mem_cons_of_mem _ (List.mem_cons_of_mem _ List.mem_cons_self))) | exact hd _ (List.mem_cons_of_mem _ (List.mem_cons_of_mem _ (List.mem_cons_of_mem _ (List.mem_cons_of_mem _ List.mem_cons_self))))
      refine ⟨rfl, ?_⟩
      unfold leftA at hK ⊢
      simp only [d0] at hK ⊢
      go_wp2
      exact hK (.pointer (some ⟨g, 0, none⟩)) w' (Below.refl _ _) rfl
    · intro x w' hS hd K hK
      have d0 : x 5 = .pointer (some ⟨g, 0, none⟩) := by first | exact hd _ List.mem_cons_self | exact hd _ (List.mem_cons_of_mem _ List.mem_cons_self) | exact hd _ (List.mem_cons_of_mem _ (List.mem_cons_of_mem _ List.mem_cons_self)) | exact hd _ (List.mem_cons_of_mem _ (List.mem_cons_of_mem _ (List.mem_cons_of_mem _ List.mem_cons_self))) | exact hd _ (List.mem_cons_of_mem _ (List.mem_cons_of_mem _ (List.mem_cons_of_mem _ (List.mem_cons_of_mem _ List.mem_cons_self))))
      refine ⟨rfl, ?_⟩
      unfold leftA at hK ⊢
      simp only [d0] at hK ⊢
      go_wp2
      exact hK (.pointer (some ⟨g, 1, none⟩)) w' (Below.refl _ _) rfl
    · intro x w' hS hd K hK
      have d0 : x 6 = .pointer (some ⟨g, 1, none⟩) := by first | exact hd _ List.mem_cons_self | exact hd _ (List.mem_cons_of_mem _ List.mem_cons_self) | exact hd _ (List.mem_cons_of_mem _ (List.mem_cons_of_mem _ List.mem_cons_self)) | exact hd _ (List.mem_cons_of_mem _ (List.mem_cons_of_mem _ (List.mem_cons_of_mem _ List.mem_cons_self))) | exact hd _ (List.mem_cons_of_mem _ (List.mem_cons_of_mem _ (List.mem_cons_of_mem _ (List.mem_cons_of_mem _ List.mem_cons_self))))
      refine ⟨rfl, ?_⟩
      unfold leftA at hK ⊢
      simp only [d0] at hK ⊢
      have z := hS.cell 1
      simp only [segC, List.getElem?_toArray, List.getElem?_cons_zero, List.getElem?_cons_succ] at z
      go_wp2
      exact hK (.slice A t c) w' (Below.refl _ _) rfl
    · intro x w' hS hd K hK
      have d0 : x 7 = .slice A t c := by first | exact hd _ List.mem_cons_self | exact hd _ (List.mem_cons_of_mem _ List.mem_cons_self) | exact hd _ (List.mem_cons_of_mem _ (List.mem_cons_of_mem _ List.mem_cons_self)) | exact hd _ (List.mem_cons_of_mem _ (List.mem_cons_of_mem _ (List.mem_cons_of_mem _ List.mem_cons_self))) | exact hd _ (List.mem_cons_of_mem _ (List.mem_cons_of_mem _ (List.mem_cons_of_mem _ (List.mem_cons_of_mem _ List.mem_cons_self))))
      refine ⟨rfl, ?_⟩
      unfold leftA at hK ⊢
      simp only [d0] at hK ⊢
      go_wp2
      exact hK (.int .i64 (t : Int)) w' (Below.refl _ _) rfl
    · intro x w' hS hd K hK
      have d0 : x 3 = .int .i64 size := by first | exact hd _ List.mem_cons_self | exact hd _ (List.mem_cons_of_mem _ List.mem_cons_self) | exact hd _ (List.mem_cons_of_mem _ (List.mem_cons_of_mem _ List.mem_cons_self)) | exact hd _ (List.mem_cons_of_mem _ (List.mem_cons_of_mem _ (List.mem_cons_of_mem _ List.mem_cons_self))) | exact hd _ (List.mem_cons_of_mem _ (List.mem_cons_of_mem _ (List.mem_cons_of_mem _ (List.mem_cons_of_mem _ List.mem_cons_self))))
      have d1 : x 8 = .int .i64 (t : Int) := by first | exact hd _ List.mem_cons_self | exact hd _ (List.mem_cons_of_mem _ List.mem_cons_self) | exact hd _ (List.mem_cons_of_mem _ (List.mem_cons_of_mem _ List.mem_cons_self)) | exact hd _ (List.mem_cons_of_mem _ (List.mem_cons_of_mem _ (List.mem_cons_of_mem _ List.mem_cons_self))) | exact hd _ (List.mem_cons_of_mem _ (List.mem_cons_of_mem _ (List.mem_cons_of_mem _ (List.mem_cons_of_mem _ List.mem_cons_self))))
      refine ⟨rfl, ?_⟩
      unfold leftA at hK ⊢
      simp only [d0, d1] at hK ⊢
      go_wp2
      exact hK (.int .i64 (size - t)) w' (Below.refl _ _) rfl
    · intro x w' hS hd K hK
      refine ⟨rfl, ?_⟩
      unfold leftA at hK ⊢
      go_wp2
      exact hK (.pointer (some ⟨g, 0, none⟩)) w' (Below.refl _ _) rfl
    · intro x w' hS hd K hK
      have d0 : x 10 = .pointer (some ⟨g, 0, none⟩) := by first | exact hd _ List.mem_cons_self | exact hd _ (List.mem_cons_of_mem _ List.mem_cons_self) | exact hd _ (List.mem_cons_of_mem _ (List.mem_cons_of_mem _ List.mem_cons_self)) | exact hd _ (List.mem_cons_of_mem _ (List.mem_cons_of_mem _ (List.mem_cons_of_mem _ List.mem_cons_self))) | exact hd _ (List.mem_cons_of_mem _ (List.mem_cons_of_mem _ (List.mem_cons_of_mem _ (List.mem_cons_of_mem _ List.mem_cons_self))))
      refine ⟨rfl, ?_⟩
      unfold leftA at hK ⊢
      simp only [d0] at hK ⊢
      go_wp2
      exact hK (.pointer (some ⟨g, 0, none⟩)) w' (Below.refl _ _) rfl
    · intro x w' hS hd K hK
      have d0 : x 11 = .pointer (some ⟨g, 0, none⟩) := by first | exact hd _ List.mem_cons_self | exact hd _ (List.mem_cons_of_mem _ List.mem_cons_self) | exact hd _ (List.mem_cons_of_mem _ (List.mem_cons_of_mem _ List.mem_cons_self)) | exact hd _ (List.mem_cons_of_mem _ (List.mem_cons_of_mem _ (List.mem_cons_of_mem _ List.mem_cons_self))) | exact hd _ (List.mem_cons_of_mem _ (List.mem_cons_of_mem _ (List.mem_cons_of_mem _ (List.mem_cons_of_mem _ List.mem_cons_self))))
      refine ⟨rfl, ?_⟩
      unfold leftA at hK ⊢
      simp only [d0] at hK ⊢
      go_wp2
      exact hK (.pointer (some ⟨g, 2, none⟩)) w' (Below.refl _ _) rfl
    · intro x w' hS hd K hK
      have d0 : x 12 = .pointer (some ⟨g, 2, none⟩) := by first | exact hd _ List.mem_cons_self | exact hd _ (List.mem_cons_of_mem _ List.mem_cons_self) | exact hd _ (List.mem_cons_of_mem _ (List.mem_cons_of_mem _ List.mem_cons_self)) | exact hd _ (List.mem_cons_of_mem _ (List.mem_cons_of_mem _ (List.mem_cons_of_mem _ List.mem_cons_self))) | exact hd _ (List.mem_cons_of_mem _ (List.mem_cons_of_mem _ (List.mem_cons_of_mem _ (List.mem_cons_of_mem _ List.mem_cons_self))))
      refine ⟨rfl, ?_⟩
      unfold leftA at hK ⊢
      simp only [d0] at hK ⊢
      have z := hS.cell 2
      simp only [segC, List.getElem?_toArray, List.getElem?_cons_zero, List.getElem?_cons_succ] at z
      go_wp2
      exact hK (.slice A' n c') w' (Below.refl _ _) rfl
    · intro x w' hS hd K hK
      have d0 : x 13 = .slice A' n c' := by first | exact hd _ List.mem_cons_self | exact hd _ (List.mem_cons_of_mem _ List.mem_cons_self) | exact hd _ (List.mem_cons_of_mem _ (List.mem_cons_of_mem _ List.mem_cons_self)) | exact hd _ (List.mem_cons_of_mem _ (List.mem_cons_of_mem _ (List.mem_cons_of_mem _ List.mem_cons_self))) | exact hd _ (List.mem_cons_of_mem _ (List.mem_cons_of_mem _ (List.mem_cons_of_mem _ (List.mem_cons_of_mem _ List.mem_cons_self))))
      refine ⟨rfl, ?_⟩
      unfold leftA at hK ⊢
      simp only [d0] at hK ⊢
      go_wp2
      exact hK (.int .i64 (n : Int)) w' (Below.refl _ _) rfl
    · intro x w' hS hd K hK
      have d0 : x 14 = .int .i64 (n : Int) := by first | exact hd _ List.mem_cons_self | exact hd _ (List.mem_cons_of_mem _ List.mem_cons_self) | exact hd _ (List.mem_cons_of_mem _ (List.mem_cons_of_mem _ List.mem_cons_self)) | exact hd _ (List.mem_cons_of_mem _ (List.mem_cons_of_mem _ (List.mem_cons_of_mem _ List.mem_cons_self))) | exact hd _ (List.mem_cons_of_mem _ (List.mem_cons_of_mem _ (List.mem_cons_of_mem _ (List.mem_cons_of_mem _ List.mem_cons_self))))
      refine ⟨rfl, ?_⟩
      unfold leftA at hK ⊢
      simp only [d0] at hK ⊢
      go_wp2
      exact hK (.int .i64 (n + 1 : Int)) w' (Below.refl _ _) rfl
    · intro x w' hS hd K hK
      have d0 : x 15 = .int .i64 (n + 1 : Int) := by first | exact hd _ List.mem_cons_self | exact hd _ (List.mem_cons_of_mem _ List.mem_cons_self) | exact hd _ (List.mem_cons_of_mem _ (List.mem_cons_of_mem _ List.mem_cons_self)) | exact hd _ (List.mem_cons_of_mem _ (List.mem_cons_of_mem _ (List.mem_cons_of_mem _ List.mem_cons_self))) | exact hd _ (List.mem_cons_of_mem _ (List.mem_cons_of_mem _ (List.mem_cons_of_mem _ (List.mem_cons_of_mem _ List.mem_cons_self))))
      refine ⟨rfl, ?_⟩
      unfold leftA at hK ⊢
      simp only [d0] at hK ⊢
      go_wp2_with fail
      refine (over_any (n + 1 : Int) _ (by omega)).mono ?_
      rintro e w2 ⟨rfl, hb2⟩
      exact hK (.int .i64 (over (n + 1))) w2 hb2 rfl
    · intro x w' hS hd K hK
      have d0 : x 9 = .int .i64 (size - t) := by first | exact hd _ List.mem_cons_self | exact hd _ (List.mem_cons_of_mem _ List.mem_cons_self) | exact hd _ (List.mem_cons_of_mem _ (List.mem_cons_of_mem _ List.mem_cons_self)) | exact hd _ (List.mem_cons_of_mem _ (List.mem_cons_of_mem _ (List.mem_cons_of_mem _ List.mem_cons_self))) | exact hd _ (List.mem_cons_of_mem _ (List.mem_cons_of_mem _ (List.mem_cons_of_mem _ (List.mem_cons_of_mem _ List.mem_cons_self))))
      have d1 : x 16 = .int .i64 (over (n + 1)) := by first | exact hd _ List.mem_cons_self | exact hd _ (List.mem_cons_of_mem _ List.mem_cons_self) | exact hd _ (List.mem_cons_of_mem _ (List.mem_cons_of_mem _ List.mem_cons_self)) | exact hd _ (List.mem_cons_of_mem _ (List.mem_cons_of_mem _ (List.mem_cons_of_mem _ List.mem_cons_self))) | exact hd _ (List.mem_cons_of_mem _ (List.mem_cons_of_mem _ (List.mem_cons_of_mem _ (List.mem_cons_of_mem _ List.mem_cons_self))))
      refine ⟨rfl, ?_⟩
      unfold leftA at hK ⊢
      simp only [d0, d1] at hK ⊢
      go_wp2
      exact hK (.int .i64 (size - t - over (n + 1))) w' (Below.refl _ _) rfl
    · intro x w' hS hd K hK
      have d0 : x 17 = .int .i64 (size - t - over (n + 1)) := by first | exact hd _ List.mem_cons_self | exact hd _ (List.mem_cons_of_mem _ List.mem_cons_self) | exact hd _ (List.mem_cons_of_mem _ (List.mem_cons_of_mem _ List.mem_cons_self)) | exact hd _ (List.mem_cons_of_mem _ (List.mem_cons_of_mem _ (List.mem_cons_of_mem _ List.mem_cons_self))) | exact hd _ (List.mem_cons_of_mem _ (List.mem_cons_of_mem _ (List.mem_cons_of_mem _ (List.mem_cons_of_mem _ List.mem_cons_self))))
      refine ⟨rfl, ?_⟩
      unfold leftA at hK ⊢
      simp only [d0] at hK ⊢
      go_wp2
      exact hK (.int .i64 (size - t - over (n + 1))) w' (Below.refl _ _) rfl
  · intro x w' hS hv
    have d0 : x 18 = .int .i64 (size - t - over (n + 1)) := hv 18 (by decide)
    unfold leftA
    simp only [d0]
    go_wp2
    go_ret
    exact ⟨rfl, hS.1⟩
end Go.Proofs.Ytljmaicobafgkaa
end
