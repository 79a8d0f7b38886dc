/- A join of 1 texts of this claim: Seg3. Conditions: none of their own. -/
import Derived.Test.YtljmaicobafgkaaQ5
section
/- Chapter 31, segment: Room and Len, and the reference's Room. -/
namespace Go.Proofs.Ytljmaicobafgkaa
open Go.RowKit

def leftOf (size : Int) (t n : Nat) : Int := size - t - over (n + 1)
theorem left_any (g : Nat) (size : Int) (t : List UInt8) (l : List Ent) (lv : Value) (w : World) (h : Sg w g size t l lv) (h0 : 0 ≤ size) (h1 : size ≤ 65536) (ht : t.length ≤ 1048576) (hn : l.length ≤ 1048576) :
    Calls Try.prog 128 #[.pointer (some ⟨g, 0, none⟩)] w fun e w' => e = .returned (.int .i64 (leftOf size t.length l.length)) ∧ Below w.heap.size w w' := by
  obtain ⟨bv, hh, hb, he⟩ := h
  obtain ⟨A, c, rfl⟩ := row_slice hb
  obtain ⟨A', c', rfl⟩ := row_slice he
  exact left_walk g size A A' t.length l.length c c' w hh h0 h1 ht hn
theorem room_any (g : Nat) (size : Int) (t : List UInt8) (l : List Ent) (lv : Value) (w : World) (h : Sg w g size t l lv) (h0 : 0 ≤ size) (h1 : size ≤ 65536) (ht : t.length ≤ 1048576) (hn : l.length ≤ 1048576) :
    Calls Try.prog 57 #[.pointer (some ⟨g, 0, none⟩)] w fun e w' => e = .returned (.int .i64 (max (leftOf size t.length l.length) 0)) ∧ Below w.heap.size w w' := by
  have hl := fun W h => left_any g size t l lv W h h0 h1 ht hn
  have HL := hide hl
  have H := hide h
  clear hl h
  obtain ⟨v, hv⟩ : ∃ v, v = leftOf size t.length l.length := ⟨_, rfl⟩
  rw [← hv] at HL ⊢
  clear hv
  rcases Int.lt_or_le v 0 with hc | hc
  · rw [show max v 0 = 0 from by omega]
    go_enter Try.func57, Try.ntmps57
    go_wp2_with fail
    refine (HL.out _ H.out).mono ?_
    rintro e w1 ⟨rfl, hb1⟩
    go_wp2
    go_ret
    exact ⟨rfl, hb1⟩
  · rw [show max v 0 = v from by omega]
    go_enter Try.func57, Try.ntmps57
    go_wp2_with fail
    refine (HL.out _ H.out).mono ?_
    rintro e w1 ⟨rfl, hb1⟩
    go_wp2
    go_ret
    exact ⟨rfl, hb1⟩
theorem room_nil (w : World) : Calls Try.prog 57 #[.pointer none] w fun e w' => e = .returned (.int .i64 0) ∧ Below w.heap.size w w' := by
  go_enter Try.func57, Try.ntmps57
  go_wp2
  go_ret
  exact ⟨rfl, Below.refl _ _⟩
theorem len_any (g : Nat) (size : Int) (t : List UInt8) (l : List Ent) (lv : Value) (w : World) (h : Sg w g size t l lv) :
    Calls Try.prog 59 #[.pointer (some ⟨g, 0, none⟩)] w fun e w' => e = .returned (.int .i64 t.length) ∧ Below w.heap.size w w' := by
  obtain ⟨bv, hh, hb, _⟩ := h
  obtain ⟨A, c, rfl⟩ := row_slice hb
  have z := obj_cell hh 1
  simp only [segC, List.getElem?_toArray, List.getElem?_cons_zero, List.getElem?_cons_succ] at z
  go_enter Try.func59, Try.ntmps59
  go_wp2
  go_ret
  exact ⟨rfl, Below.refl _ _⟩
theorem len_nil (w : World) : Calls Try.prog 59 #[.pointer none] w fun e w' => e = .returned (.int .i64 0) ∧ Below w.heap.size w w' := by
  go_enter Try.func59, Try.ntmps59
  go_wp2
  go_ret
  exact ⟨rfl, Below.refl _ _⟩
def rsC (size : Int) (t : ByteArray) (lv : Value) : Array Value := #[.int .i64 size, .string t, lv]
def rroomA (g : Nat) (m : Array Value) (x : Nat → Value) : Act := ⟨#[.agg m, .pointer (some ⟨g, 0, none⟩), x 13, x 0, x 1, x 2, x 3, x 4, x 5, x 6, x 7, x 8, x 9, x 10, x 11, x 12], []⟩
def rroomX (j : Nat) : Value := if j = 13 then .int .i64 0 else undef
def rroomV (g : Nat) (size : Int) (t : ByteArray) (A : Option Addr) (n c : Nat) (v r : Int) (i : Nat) (u : Value) (_w : World) : Prop :=
  match i with
  | 0 => u = .pointer (some ⟨g, 0, none⟩)
  | 1 => u = .int .i64 size
  | 2 => u = .pointer (some ⟨g, 1, none⟩)
  | 3 => u = .string t
  | 4 => u = .int .i64 (t.size : Int)
  | 5 => u = .int .i64 (size - t.size)
  | 6 => u = .pointer (some ⟨g, 2, none⟩)
  | 7 => u = .slice A n c
  | 8 => u = .int .i64 (n : Int)
  | 9 => u = .int .i64 (n + 1 : Int)
  | 10 => u = .int .i64 (over (n + 1))
  | 11 => u = .int .i64 v
  | 12 => u = .int .i64 r
  | _ => u = .int .i64 r
set_option maxHeartbeats 4000000 in
set_option maxRecDepth 100000 in
theorem rRoom_walk (size : Int) (t : ByteArray) (A : Option Addr) (n c : Nat) (v r : Int) (hv : leftOf size t.size n = v) (hr : r = max v 0) (w : World)
    (h0 : 0 ≤ size) (h1 : size ≤ 65536) (ht : t.size ≤ 1048576) (hn : n ≤ 1048576) :
    Calls Try.prog 58 #[.agg (rsC size t (.slice A n c))] w fun e w' => e = .returned (.int .i64 r) ∧ Below w.heap.size w w' := by
  have ho := over_bound (n + 1)
  have hb : -9223372036854775808 ≤ v ∧ v ≤ 9223372036854775807 := by unfold leftOf at hv; omega
  rcases Int.lt_or_le v 0 with hc | hc
  · have hr0 : r = 0 := by omega
    subst hr0
    clear hr
    unfold rsC
    go_enter Try.func58, Try.ntmps58
    go_wp2_with fail
    refine wp_region_vals (rroomA w.heap.size (rsC size t (.slice A n c))) rroomX (Kept w.heap.size w.heap.size (rsC size t (.slice A n c)) 86 w) (rroomV w.heap.size size t A n c v 0) rfl (by kernel_rfl) rfl (fun _ _ => Kept.on) (fun _ _ _ _ _ h => h) (Kept.drew ⟨(Below.refl _ _).alloc (Nat.le_refl _) _, by simp, obj_new w _⟩) ?_ ?_ ?_
    · exact ⟨fun x v => rfl, fun x v => rfl, fun x v => rfl, fun x v => rfl, fun x v => rfl, fun x v => rfl, fun x v => rfl, fun x v => rfl, fun x v => rfl, fun x v => rfl, fun x v => rfl, fun x v => rfl, fun x v => rfl, fun x v => rfl, trivial⟩
    · refine ⟨?_, ?_, ?_, ?_, ?_, ?_, ?_, ?_, ?_, ?_, ?_, ?_, ?_, ?_, trivial⟩
      · intro x w' hS hd K hK
        refine ⟨rfl, ?_⟩
        unfold rroomA at hK ⊢
        go_wp2
        exact hK (.pointer (some ⟨w.heap.size, 0, none⟩)) w' (Below.refl _ _) rfl
      · intro x w' hS hd K hK
        have d0 : x 0 = .pointer (some ⟨w.heap.size, 0, none⟩) := by first | exact hd _ List.mem_cons_self | exact hd _ (List.mem_cons_of_mem _ List.mem_cons_self) | exact hd _ (List.mem_cons_of_mem _ (List.mem_cons_of_mem _ List.mem_cons_self)) | exact hd _ (List.mem_cons_of_mem _ (List.mem_cons_of_mem _ (List.mem_cons_of_mem _ List.mem_cons_self))) | exact hd _ (List.mem_cons_of_mem _ (List.mem_cons_of_mem _ (List.mem_cons_of_mem _ (List.mem_cons_of_mem _ List.mem_cons_self))))
        refine ⟨rfl, ?_⟩
        unfold rroomA at hK ⊢
        simp only [d0] at hK ⊢
        have z := hS.cell 0
        simp only [rsC, List.getElem?_toArray, List.getElem?_cons_zero] at z
        go_wp2
        exact hK (.int .i64 size) w' (Below.refl _ _) rfl
      · intro x w' hS hd K hK
        refine ⟨rfl, ?_⟩
        unfold rroomA at hK ⊢
        go_wp2
        exact hK (.pointer (some ⟨w.heap.size, 1, none⟩)) w' (Below.refl _ _) rfl
      · intro x w' hS hd K hK
        have d0 : x 2 = .pointer (some ⟨w.heap.size, 1, none⟩) := by first | exact hd _ List.mem_cons_self | exact hd _ (List.mem_cons_of_mem _ List.mem_cons_self) | exact hd _ (List.mem_cons_of_mem _ (List.mem_cons_of_mem _ List.mem_cons_self)) | exact hd _ (List.mem_cons_of_mem _ (List.mem_cons_of_mem _ (List.mem_cons_of_mem _ List.mem_cons_self))) | exact hd _ (List.mem_cons_of_mem _ (List.mem_cons_of_mem _ (List.mem_cons_of_mem _ (List.mem_cons_of_mem _ List.mem_cons_self))))
        refine ⟨rfl, ?_⟩
        unfold rroomA at hK ⊢
        simp only [d0] at hK ⊢
        have z := hS.cell 1
        simp only [rsC, List.getElem?_toArray, List.getElem?_cons_zero, List.getElem?_cons_succ] at z
        go_wp2
        exact hK (.string t) w' (Below.refl _ _) rfl
      · intro x w' hS hd K hK
        have d0 : x 3 = .string t := by first | exact hd _ List.mem_cons_self | exact hd _ (List.mem_cons_of_mem _ List.mem_cons_self) | exact hd _ (List.mem_cons_of_mem _ (List.mem_cons_of_mem _ List.mem_cons_self)) | exact hd _ (List.mem_cons_of_mem _ (List.mem_cons_of_mem _ (List.mem_cons_of_mem _ List.mem_cons_self))) | exact hd _ (List.mem_cons_of_mem _ (List.mem_cons_of_mem _ (List.mem_cons_of_mem _ (List.mem_cons_of_mem _ List.mem_cons_self))))
        refine ⟨rfl, ?_⟩
        unfold rroomA at hK ⊢
        simp only [d0] at hK ⊢
        go_wp2
        exact hK (.int .i64 (t.size : Int)) w' (Below.refl _ _) rfl
      · intro x w' hS hd K hK
        have d0 : x 1 = .int .i64 size := by first | exact hd _ List.mem_cons_self | exact hd _ (List.mem_cons_of_mem _ List.mem_cons_self) | exact hd _ (List.mem_cons_of_mem _ (List.mem_cons_of_mem _ List.mem_cons_self)) | exact hd _ (List.mem_cons_of_mem _ (List.mem_cons_of_mem _ (List.mem_cons_of_mem _ List.mem_cons_self))) | exact hd _ (List.mem_cons_of_mem _ (List.mem_cons_of_mem _ (List.mem_cons_of_mem _ (List.mem_cons_of_mem _ List.mem_cons_self))))
        have d1 : x 4 = .int .i64 (t.size : Int) := by first | exact hd _ List.mem_cons_self | exact hd _ (List.mem_cons_of_mem _ List.mem_cons_self) | exact hd _ (List.mem_cons_of_mem _ (List.mem_cons_of_mem _ List.mem_cons_self)) | exact hd _ (List.mem_cons_of_mem _ (List.mem_cons_of_mem _ (List.mem_cons_of_mem _ List.mem_cons_self))) | exact hd _ (List.mem_cons_of_mem _ (List.mem_cons_of_mem _ (List.mem_cons_of_mem _ (List.mem_cons_of_mem _ List.mem_cons_self))))
        refine ⟨rfl, ?_⟩
        unfold rroomA at hK ⊢
        simp only [d0, d1] at hK ⊢
        go_wp2
        exact hK (.int .i64 (size - t.size)) w' (Below.refl _ _) rfl
      · intro x w' hS hd K hK
        refine ⟨rfl, ?_⟩
        unfold rroomA at hK ⊢
        go_wp2
        exact hK (.pointer (some ⟨w.heap.size, 2, none⟩)) w' (Below.refl _ _) rfl
      · intro x w' hS hd K hK
        have d0 : x 6 = .pointer (some ⟨w.heap.size, 2, none⟩) := by first | exact hd _ List.mem_cons_self | exact hd _ (List.mem_cons_of_mem _ List.mem_cons_self) | exact hd _ (List.mem_cons_of_mem _ (List.mem_cons_of_mem _ List.mem_cons_self)) | exact hd _ (List.mem_cons_of_mem _ (List.mem_cons_of_mem _ (List.mem_cons_of_mem _ List.mem_cons_self))) | exact hd _ (List.mem_cons_of_mem _ (List.mem_cons_of_mem _ (List.mem_cons_of_mem _ (List.mem_cons_of_mem _ List.mem_cons_self))))
        refine ⟨rfl, ?_⟩
        unfold rroomA at hK ⊢
        simp only [d0] at hK ⊢
        have z := hS.cell 2
        simp only [rsC, List.getElem?_toArray, List.getElem?_cons_zero, List.getElem?_cons_succ] at z
        go_wp2
        exact hK (.slice A n c) w' (Below.refl _ _) rfl
      · intro x w' hS hd K hK
        have d0 : x 7 = .slice A n c := by first | exact hd _ List.mem_cons_self | exact hd _ (List.mem_cons_of_mem _ List.mem_cons_self) | exact hd _ (List.mem_cons_of_mem _ (List.mem_cons_of_mem _ List.mem_cons_self)) | exact hd _ (List.mem_cons_of_mem _ (List.mem_cons_of_mem _ (List.mem_cons_of_mem _ List.mem_cons_self))) | exact hd _ (List.mem_cons_of_mem _ (List.mem_cons_of_mem _ (List.mem_cons_of_mem _ (List.mem_cons_of_mem _ List.mem_cons_self))))
        refine ⟨rfl, ?_⟩
        unfold rroomA at hK ⊢
        simp only [d0] at hK ⊢
        go_wp2
        exact hK (.int .i64 (n : Int)) w' (Below.refl _ _) rfl
      · intro x w' hS hd K hK
        have d0 : x 8 = .int .i64 (n : Int) := by first | exact hd _ List.mem_cons_self | exact hd _ (List.mem_cons_of_mem _ List.mem_cons_self) | exact hd _ (List.mem_cons_of_mem _ (List.mem_cons_of_mem _ List.mem_cons_self)) | exact hd _ (List.mem_cons_of_mem _ (List.mem_cons_of_mem _ (List.mem_cons_of_mem _ List.mem_cons_self))) | exact hd _ (List.mem_cons_of_mem _ (List.mem_cons_of_mem _ (List.mem_cons_of_mem _ (List.mem_cons_of_mem _ List.mem_cons_self))))
        refine ⟨rfl, ?_⟩
        unfold rroomA at hK ⊢
        simp only [d0] at hK ⊢
        go_wp2
        exact hK (.int .i64 (n + 1 : Int)) w' (Below.refl _ _) rfl
      · intro x w' hS hd K hK
        have d0 : x 9 = .int .i64 (n + 1 : Int) := by first | exact hd _ List.mem_cons_self | exact hd _ (List.mem_cons_of_mem _ List.mem_cons_self) | exact hd _ (List.mem_cons_of_mem _ (List.mem_cons_of_mem _ List.mem_cons_self)) | exact hd _ (List.mem_cons_of_mem _ (List.mem_cons_of_mem _ (List.mem_cons_of_mem _ List.mem_cons_self))) | exact hd _ (List.mem_cons_of_mem _ (List.mem_cons_of_mem _ (List.mem_cons_of_mem _ (List.mem_cons_of_mem _ List.mem_cons_self))))
        refine ⟨rfl, ?_⟩
        unfold rroomA at hK ⊢
        simp only [d0] at hK ⊢
        go_wp2_with fail
        refine (rOver_any (n + 1 : Int) _ (by omega)).mono ?_
        rintro e w2 ⟨rfl, hb2⟩
        exact hK (.int .i64 (over (n + 1))) w2 hb2 rfl
      · intro x w' hS hd K hK
        have d0 : x 5 = .int .i64 (size - t.size) := by first | exact hd _ List.mem_cons_self | exact hd _ (List.mem_cons_of_mem _ List.mem_cons_self) | exact hd _ (List.mem_cons_of_mem _ (List.mem_cons_of_mem _ List.mem_cons_self)) | exact hd _ (List.mem_cons_of_mem _ (List.mem_cons_of_mem _ (List.mem_cons_of_mem _ List.mem_cons_self))) | exact hd _ (List.mem_cons_of_mem _ (List.mem_cons_of_mem _ (List.mem_cons_of_mem _ (List.mem_cons_of_mem _ List.mem_cons_self))))
        have d1 : x 10 = .int .i64 (over (n + 1)) := by first | exact hd _ List.mem_cons_self | exact hd _ (List.mem_cons_of_mem _ List.mem_cons_self) | exact hd _ (List.mem_cons_of_mem _ (List.mem_cons_of_mem _ List.mem_cons_self)) | exact hd _ (List.mem_cons_of_mem _ (List.mem_cons_of_mem _ (List.mem_cons_of_mem _ List.mem_cons_self))) | exact hd _ (List.mem_cons_of_mem _ (List.mem_cons_of_mem _ (List.mem_cons_of_mem _ (List.mem_cons_of_mem _ List.mem_cons_self))))
        refine ⟨rfl, ?_⟩
        unfold rroomA at hK ⊢
        simp only [d0, d1] at hK ⊢
        have hv' : size - (t.size : Int) - over (n + 1) = v := hv
        go_wp2
        exact hK (.int .i64 v) w' (Below.refl _ _) rfl
      · intro x w' hS hd K hK
        have d0 : x 11 = .int .i64 v := by first | exact hd _ List.mem_cons_self | exact hd _ (List.mem_cons_of_mem _ List.mem_cons_self) | exact hd _ (List.mem_cons_of_mem _ (List.mem_cons_of_mem _ List.mem_cons_self)) | exact hd _ (List.mem_cons_of_mem _ (List.mem_cons_of_mem _ (List.mem_cons_of_mem _ List.mem_cons_self))) | exact hd _ (List.mem_cons_of_mem _ (List.mem_cons_of_mem _ (List.mem_cons_of_mem _ (List.mem_cons_of_mem _ List.mem_cons_self))))
        refine ⟨rfl, ?_⟩
        unfold rroomA at hK ⊢
        simp only [d0] at hK ⊢
        go_wp2
        exact hK (.int .i64 0) w' (Below.refl _ _) rfl
      · intro x w' hS hd K hK
        have d0 : x 12 = .int .i64 0 := by first | exact hd _ List.mem_cons_self | exact hd _ (List.mem_cons_of_mem _ List.mem_cons_self) | exact hd _ (List.mem_cons_of_mem _ (List.mem_cons_of_mem _ List.mem_cons_self)) | exact hd _ (List.mem_cons_of_mem _ (List.mem_cons_of_mem _ (List.mem_cons_of_mem _ List.mem_cons_self))) | exact hd _ (List.mem_cons_of_mem _ (List.mem_cons_of_mem _ (List.mem_cons_of_mem _ (List.mem_cons_of_mem _ List.mem_cons_self))))
        refine ⟨rfl, ?_⟩
        unfold rroomA at hK ⊢
        simp only [d0] at hK ⊢
        go_wp2
        exact hK (.int .i64 0) w' (Below.refl _ _) rfl
    · intro x w' hS hv
      have d0 : x 13 = .int .i64 0 := hv 13 (by decide)
      unfold rroomA
      simp only [d0]
      go_wp2
      go_ret
      exact ⟨rfl, hS.1⟩
  · have hr0 : v = r := by omega
    subst hr0
    clear hr
    unfold rsC
    go_enter Try.func58, Try.ntmps58
    go_wp2_with fail
    refine wp_region_vals (rroomA w.heap.size (rsC size t (.slice A n c))) rroomX (Kept w.heap.size w.heap.size (rsC size t (.slice A n c)) 86 w) (rroomV w.heap.size size t A n c v v) rfl (by kernel_rfl) rfl (fun _ _ => Kept.on) (fun _ _ _ _ _ h => h) (Kept.drew ⟨(Below.refl _ _).alloc (Nat.le_refl _) _, by simp, obj_new w _⟩) ?_ ?_ ?_
    · exact ⟨fun x v => rfl, fun x v => rfl, fun x v => rfl, fun x v => rfl, fun x v => rfl, fun x v => rfl, fun x v => rfl, fun x v => rfl, fun x v => rfl, fun x v => rfl, fun x v => rfl, fun x v => rfl, fun x v => rfl, fun x v => rfl, trivial⟩
    · refine ⟨?_, ?_, ?_, ?_, ?_, ?_, ?_, ?_, ?_, ?_, ?_, ?_, ?_, ?_, trivial⟩
      · intro x w' hS hd K hK
        refine ⟨rfl, ?_⟩
        unfold rroomA at hK ⊢
        go_wp2
        exact hK (.pointer (some ⟨w.heap.size, 0, none⟩)) w' (Below.refl _ _) rfl
      · intro x w' hS hd K hK
        have d0 : x 0 = .pointer (some ⟨w.heap.size, 0, none⟩) := by first | exact hd _ List.mem_cons_self | exact hd _ (List.mem_cons_of_mem _ List.mem_cons_self) | exact hd _ (List.mem_cons_of_mem _ (List.mem_cons_of_mem _ List.mem_cons_self)) | exact hd _ (List.mem_cons_of_mem _ (List.mem_cons_of_mem _ (List.mem_cons_of_mem _ List.mem_cons_self))) | exact hd _ (List.mem_cons_of_mem _ (List.mem_cons_of_mem _ (List.mem_cons_of_mem _ (List.mem_cons_of_mem _ List.mem_cons_self))))
        refine ⟨rfl, ?_⟩
        unfold rroomA at hK ⊢
        simp only [d0] at hK ⊢
        have z := hS.cell 0
        simp only [rsC, List.getElem?_toArray, List.getElem?_cons_zero] at z
        go_wp2
        exact hK (.int .i64 size) w' (Below.refl _ _) rfl
      · intro x w' hS hd K hK
        refine ⟨rfl, ?_⟩
        unfold rroomA at hK ⊢
        go_wp2
        exact hK (.pointer (some ⟨w.heap.size, 1, none⟩)) w' (Below.refl _ _) rfl
      · intro x w' hS hd K hK
        have d0 : x 2 = .pointer (some ⟨w.heap.size, 1, none⟩) := by first | exact hd _ List.mem_cons_self | exact hd _ (List.mem_cons_of_mem _ List.mem_cons_self) | exact hd _ (List.mem_cons_of_mem _ (List.mem_cons_of_mem _ List.mem_cons_self)) | exact hd _ (List.mem_cons_of_mem _ (List.mem_cons_of_mem _ (List.mem_cons_of_mem _ List.mem_cons_self))) | exact hd _ (List.mem_cons_of_mem _ (List.mem_cons_of_mem _ (List.mem_cons_of_mem _ (List.mem_cons_of_mem _ List.mem_cons_self))))
        refine ⟨rfl, ?_⟩
        unfold rroomA at hK ⊢
        simp only [d0] at hK ⊢
        have z := hS.cell 1
        simp only [rsC, List.getElem?_toArray, List.getElem?_cons_zero, List.getElem?_cons_succ] at z
        go_wp2
        exact hK (.string t) w' (Below.refl _ _) rfl
      · intro x w' hS hd K hK
        have d0 : x 3 = .string t := by first | exact hd _ List.mem_cons_self | exact hd _ (List.mem_cons_of_mem _ List.mem_cons_self) | exact hd _ (List.mem_cons_of_mem _ (List.mem_cons_of_mem _ List.mem_cons_self)) | exact hd _ (List.mem_cons_of_mem _ (List.mem_cons_of_mem _ (List.mem_cons_of_mem _ List.mem_cons_self))) | exact hd _ (List.mem_cons_of_mem _ (List.mem_cons_of_mem _ (List.mem_cons_of_mem _ (List.mem_cons_of_mem _ List.mem_cons_self))))
        refine ⟨rfl, ?_⟩
        unfold rroomA at hK ⊢
        simp only [d0] at hK ⊢
        go_wp2
        exact hK (.int .i64 (t.size : Int)) w' (Below.refl _ _) rfl
      · intro x w' hS hd K hK
        have d0 : x 1 = .int .i64 size := by first | exact hd _ List.mem_cons_self | exact hd _ (List.mem_cons_of_mem _ List.mem_cons_self) | exact hd _ (List.mem_cons_of_mem _ (List.mem_cons_of_mem _ List.mem_cons_self)) | exact hd _ (List.mem_cons_of_mem _ (List.mem_cons_of_mem _ (List.mem_cons_of_mem _ List.mem_cons_self))) | exact hd _ (List.mem_cons_of_mem _ (List.mem_cons_of_mem _ (List.mem_cons_of_mem _ (List.mem_cons_of_mem _ List.mem_cons_self))))
        have d1 : x 4 = .int .i64 (t.size : Int) := by first | exact hd _ List.mem_cons_self | exact hd _ (List.mem_cons_of_mem _ List.mem_cons_self) | exact hd _ (List.mem_cons_of_mem _ (List.mem_cons_of_mem _ List.mem_cons_self)) | exact hd _ (List.mem_cons_of_mem _ (List.mem_cons_of_mem _ (List.mem_cons_of_mem _ List.mem_cons_self))) | exact hd _ (List.mem_cons_of_mem _ (List.mem_cons_of_mem _ (List.mem_cons_of_mem _ (List.mem_cons_of_mem _ List.mem_cons_self))))
        refine ⟨rfl, ?_⟩
        unfold rroomA at hK ⊢
        simp only [d0, d1] at hK ⊢
        go_wp2
        exact hK (.int .i64 (size - t.size)) w' (Below.refl _ _) rfl
      · intro x w' hS hd K hK
        refine ⟨rfl, ?_⟩
        unfold rroomA at hK ⊢
        go_wp2
        exact hK (.pointer (some ⟨w.heap.size, 2, none⟩)) w' (Below.refl _ _) rfl
      · intro x w' hS hd K hK
        have d0 : x 6 = .pointer (some ⟨w.heap.size, 2, none⟩) := by first | exact hd _ List.mem_cons_self | exact hd _ (List.mem_cons_of_mem _ List.mem_cons_self) | exact hd _ (List.mem_cons_of_mem _ (List.mem_cons_of_mem _ List.mem_cons_self)) | exact hd _ (List.mem_cons_of_mem _ (List.mem_cons_of_mem _ (List.mem_cons_of_mem _ List.mem_cons_self))) | exact hd _ (List.mem_cons_of_mem _ (List.mem_cons_of_mem _ (List.mem_cons_of_mem _ (List.mem_cons_of_mem _ List.mem_cons_self))))
        refine ⟨rfl, ?_⟩
        unfold rroomA at hK ⊢
        simp only [d0] at hK ⊢
        have z := hS.cell 2
        simp only [rsC, List.getElem?_toArray, List.getElem?_cons_zero, List.getElem?_cons_succ] at z
        go_wp2
        exact hK (.slice A n c) w' (Below.refl _ _) rfl
      · intro x w' hS hd K hK
        have d0 : x 7 = .slice A n c := by first | exact hd _ List.mem_cons_self | exact hd _ (List.mem_cons_of_mem _ List.mem_cons_self) | exact hd _ (List.mem_cons_of_mem _ (List.mem_cons_of_mem _ List.mem_cons_self)) | exact hd _ (List.mem_cons_of_mem _ (List.mem_cons_of_mem _ (List.mem_cons_of_mem _ List.mem_cons_self))) | exact hd _ (List.mem_cons_of_mem _ (List.mem_cons_of_mem _ (List.mem_cons_of_mem _ (List.mem_cons_of_mem _ List.mem_cons_self))))
        refine ⟨rfl, ?_⟩
        unfold rroomA at hK ⊢
        simp only [d0] at hK ⊢
        go_wp2
        exact hK (.int .i64 (n : Int)) w' (Below.refl _ _) rfl
      · intro x w' hS hd K hK
        have d0 : x 8 = .int .i64 (n : Int) := by first | exact hd _ List.mem_cons_self | exact hd _ (List.mem_cons_of_mem _ List.mem_cons_self) | exact hd _ (List.mem_cons_of_mem _ (List.mem_cons_of_mem _ List.mem_cons_self)) | exact hd _ (List.mem_cons_of_mem _ (List.mem_cons_of_mem _ (List.mem_cons_of_mem _ List.mem_cons_self))) | exact hd _ (List.mem_cons_of_mem _ (List.mem_cons_of_mem _ (List.mem_cons_of_mem _ (List.mem_cons_of_mem _ List.mem_cons_self))))
        refine ⟨rfl, ?_⟩
        unfold rroomA at hK ⊢
        simp only [d0] at hK ⊢
        go_wp2
        exact hK (.int .i64 (n + 1 : Int)) w' (Below.refl _ _) rfl
      · intro x w' hS hd K hK
        have d0 : x 9 = .int .i64 (n + 1 : Int) := by first | exact hd _ List.mem_cons_self | exact hd _ (List.mem_cons_of_mem _ List.mem_cons_self) | exact hd _ (List.mem_cons_of_mem _ (List.mem_cons_of_mem _ List.mem_cons_self)) | exact hd _ (List.mem_cons_of_mem _ (List.mem_cons_of_mem _ (List.mem_cons_of_mem _ List.mem_cons_self))) | exact hd _ (List.mem_cons_of_mem _ (List.mem_cons_of_mem _ (List.mem_cons_of_mem _ (List.mem_cons_of_mem _ List.mem_cons_self))))
        refine ⟨rfl, ?_⟩
        unfold rroomA at hK ⊢
        simp only [d0] at hK ⊢
        go_wp2_with fail
        refine (rOver_any (n + 1 : Int) _ (by omega)).mono ?_
        rintro e w2 ⟨rfl, hb2⟩
        exact hK (.int .i64 (over (n + 1))) w2 hb2 rfl
      · intro x w' hS hd K hK
        have d0 : x 5 = .int .i64 (size - t.size) := by first | exact hd _ List.mem_cons_self | exact hd _ (List.mem_cons_of_mem _ List.mem_cons_self) | exact hd _ (List.mem_cons_of_mem _ (List.mem_cons_of_mem _ List.mem_cons_self)) | exact hd _ (List.mem_cons_of_mem _ (List.mem_cons_of_mem _ (List.mem_cons_of_mem _ List.mem_cons_self))) | exact hd _ (List.mem_cons_of_mem _ (List.mem_cons_of_mem _ (List.mem_cons_of_mem _ (List.mem_cons_of_mem _ List.mem_cons_self))))
        have d1 : x 10 = .int .i64 (over (n + 1)) := by first | exact hd _ List.mem_cons_self | exact hd _ (List.mem_cons_of_mem _ List.mem_cons_self) | exact hd _ (List.mem_cons_of_mem _ (List.mem_cons_of_mem _ List.mem_cons_self)) | exact hd _ (List.mem_cons_of_mem _ (List.mem_cons_of_mem _ (List.mem_cons_of_mem _ List.mem_cons_self))) | exact hd _ (List.mem_cons_of_mem _ (List.mem_cons_of_mem _ (List.mem_cons_of_mem _ (List.mem_cons_of_mem _ List.mem_cons_self))))
        refine ⟨rfl, ?_⟩
        unfold rroomA at hK ⊢
        simp only [d0, d1] at hK ⊢
        have hv' : size - (t.size : Int) - over (n + 1) = v := hv
        go_wp2
        exact hK (.int .i64 v) w' (Below.refl _ _) rfl
      · intro x w' hS hd K hK
        have d0 : x 11 = .int .i64 v := by first | exact hd _ List.mem_cons_self | exact hd _ (List.mem_cons_of_mem _ List.mem_cons_self) | exact hd _ (List.mem_cons_of_mem _ (List.mem_cons_of_mem _ List.mem_cons_self)) | exact hd _ (List.mem_cons_of_mem _ (List.mem_cons_of_mem _ (List.mem_cons_of_mem _ List.mem_cons_self))) | exact hd _ (List.mem_cons_of_mem _ (List.mem_cons_of_mem _ (List.mem_cons_of_mem _ (List.mem_cons_of_mem _ List.mem_cons_self))))
        refine ⟨rfl, ?_⟩
        unfold rroomA at hK ⊢
        simp only [d0] at hK ⊢
        go_wp2
        exact hK (.int .i64 v) w' (Below.refl _ _) rfl
      · intro x w' hS hd K hK
        have d0 : x 12 = .int .i64 v := by first | exact hd _ List.mem_cons_self | exact hd _ (List.mem_cons_of_mem _ List.mem_cons_self) | exact hd _ (List.mem_cons_of_mem _ (List.mem_cons_of_mem _ List.mem_cons_self)) | exact hd _ (List.mem_cons_of_mem _ (List.mem_cons_of_mem _ (List.mem_cons_of_mem _ List.mem_cons_self))) | exact hd _ (List.mem_cons_of_mem _ (List.mem_cons_of_mem _ (List.mem_cons_of_mem _ (List.mem_cons_of_mem _ List.mem_cons_self))))
        refine ⟨rfl, ?_⟩
        unfold rroomA at hK ⊢
        simp only [d0] at hK ⊢
        go_wp2
        exact hK (.int .i64 v) w' (Below.refl _ _) rfl
    · intro x w' hS hv
      have d0 : x 13 = .int .i64 v := hv 13 (by decide)
      unfold rroomA
      simp only [d0]
      go_wp2
      go_ret
      exact ⟨rfl, hS.1⟩
end Go.Proofs.Ytljmaicobafgkaa
end
