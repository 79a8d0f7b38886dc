/- Layer 12: Encode and the reference's are the same (FramesEncodes). -/
import Derived.Test.YtljmaicobafgkaaRef12Enc
import Derived.Test.YtljmaicobafgkaaFrWalks2
namespace Go.Proofs.Ytljmaicobafgkaa
open Go.RowKit

def REncTo (k f t i : Int) (b o : ByteArray) (c : Int) : Prop := ∀ w : World,
  Calls Try.prog 45 #[.agg #[.int .i64 k, .int .i64 f, .int .i64 t, .int .i64 i, .string b]] w fun e w' => e = .returned (.tuple #[.string o, .int .i64 c]) ∧ Below w.heap.size w w'
theorem enc_same (k f t i : Int) (b : ByteArray) (hb : b.size ≤ 9223372036854775807) : ∃ o c, EncTo k f t i b o c ∧ REncTo k f t i b o c := by
  by_cases hc : chk k f t i b.size = 0
  · obtain ⟨hm, hn⟩ := chk_zero hc
    exact ⟨_, _, fun w => encode_ok k f t i b w hm hn, fun w => rEncode_ok k f t i b w hm hn⟩
  · exact ⟨_, _, fun w => encode_bad k f t i b w hb hc, fun w => rEncode_bad k f t i b w hb hc⟩
def sameA (g : Nat) (m : Array Value) (o c : Value) (x : Nat → Value) : Act := ⟨#[.agg m, .pointer (some ⟨g, 0, none⟩), x 18, o, c, o, c, .tuple #[o, c], .agg m, .tuple #[o, c], o, c, .tuple #[o, c], .agg m, .tuple #[o, c], o, c,
  x 0, x 1, x 2, x 3, x 4, x 5, x 6, x 7, x 8, x 9, x 10, x 11, x 12, x 13, x 14, x 15, x 16, x 17], []⟩
def sameX (j : Nat) : Value := if j = 18 then .bool false else undef
def sameV (m : Array Value) (o e c : Value) (i : Nat) (v : Value) (_w : World) : Prop :=
  match i with
  | 0 => v = .agg m
  | 1 => v = c
  | 2 => v = .agg m
  | 3 => v = c
  | 6 => v = o
  | 7 => v = o
  | 11 => v = e
  | 12 => v = e
  | _ => v = .bool true
set_option maxHeartbeats 4000000 in
set_option maxRecDepth 100000 in
theorem same_walk (ha : Awake12) (k f t i : Int) (b o : ByteArray) (c : Int) (hb : b.size ≤ 9223372036854775807) (hE : EncTo k f t i b o c) (hR : REncTo k f t i b o c) (w : World) :
    Calls Try.prog 7 #[.agg #[.int .i64 k, .int .i64 f, .int .i64 t, .int .i64 i, .string b]] w fun e w' => e = .returned (.bool true) ∧ Below w.heap.size w w' := by
  have HA := hide ha
  have HE := hide hE
  have HR := hide hR
  clear ha hE hR
  go_enter Try.func7, Try.ntmps7
  go_wp2_with fail
  refine (HE.out _).mono ?_
  rintro e w1 ⟨rfl, hb1⟩
  have hm := obj_below (obj_new w _) hb1
  have HM := hide hm
  have HB1 := hide (below_step (Below.refl _ _) (Nat.le_refl _) hb1)
  have hz1 := HB1.out.size
  have z0 := obj_cell hm 0
  have z1 := obj_cell hm 1
  have z2 := obj_cell hm 2
  have z3 := obj_cell hm 3
  have z4 := obj_cell hm 4
  simp only [List.getElem?_toArray, List.getElem?_cons_zero, List.getElem?_cons_succ] at z0 z1 z2 z3 z4
  have l1 := obj_lt hm
  clear hb1 hm
  go_wp2_with fail
  refine (HR.out _).mono ?_
  rintro e w2 ⟨rfl, hb2⟩
  have hS2 : EncM w.heap.size w.heap.size #[.int .i64 k, .int .i64 f, .int .i64 t, .int .i64 i, .string b] w w2 := ⟨below_on HB1.out hz1 hb2, by have := hb2.size; omega, obj_below HM.out hb2⟩
  clear z0 z1 z2 z3 z4 l1 hb2
  go_wp2_with fail
  refine wp_region_vals (sameA w.heap.size #[.int .i64 k, .int .i64 f, .int .i64 t, .int .i64 i, .string b] (.string o) (.int .i64 c)) sameX (EncM w.heap.size w.heap.size #[.int .i64 k, .int .i64 f, .int .i64 t, .int .i64 i, .string b] w) (sameV #[.int .i64 k, .int .i64 f, .int .i64 t, .int .i64 i, .string b] (.string o) (.int .i64 c) (.int .i64 (chk k f t i b.size))) rfl (by kernel_rfl) rfl (fun _ _ => EncM.on) (fun _ _ _ _ _ h => h) hS2.drew ?_ ?_ ?_
  · exact ⟨fun x v => rfl, fun x v => rfl, fun x v => rfl, fun x v => rfl, fun x v => rfl, fun x v => rfl, fun x v => rfl, fun x v => rfl, fun x v => rfl, fun x v => rfl, fun x v => rfl, fun x v => rfl, fun x v => rfl, fun x v => rfl, fun x v => rfl, fun x v => rfl, fun x v => rfl, fun x v => rfl, fun x v => rfl, trivial⟩
  · refine ⟨?_, ?_, ?_, ?_, ?_, ?_, ?_, ?_, ?_, ?_, ?_, ?_, ?_, ?_, ?_, ?_, ?_, ?_, ?_, trivial⟩
    · intro x w' hS hd K hK
      refine ⟨rfl, ?_⟩
      unfold sameA at hK ⊢
      have z0 := obj_cell hS.2.2 0
      have z1 := obj_cell hS.2.2 1
      have z2 := obj_cell hS.2.2 2
      have z3 := obj_cell hS.2.2 3
      have z4 := obj_cell hS.2.2 4
      have hlt := obj_lt hS.2.2
      simp only [List.getElem?_toArray, List.getElem?_cons_zero, List.getElem?_cons_succ] at z0 z1 z2 z3 z4
      go_wp2
      exact hK (.agg #[.int .i64 k, .int .i64 f, .int .i64 t, .int .i64 i, .string b]) w' (Below.refl _ _) rfl
    · intro x w' hS hd K hK
      have d0 : x 0 = .agg #[.int .i64 k, .int .i64 f, .int .i64 t, .int .i64 i, .string b] := by first | exact hd _ List.mem_cons_self | exact hd _ (List.mem_cons_of_mem _ List.mem_cons_self) | exact hd _ (List.mem_cons_of_mem _ (List.mem_cons_of_mem _ List.mem_cons_self)) | exact hd _ (List.mem_cons_of_mem _ (List.mem_cons_of_mem _ (List.mem_cons_of_mem _ List.mem_cons_self))) | exact hd _ (List.mem_cons_of_mem _ (List.mem_cons_of_mem _ (List.mem_cons_of_mem _ (List.mem_cons_of_mem _ List.mem_cons_self))))
      refine ⟨rfl, ?_⟩
      unfold sameA at hK ⊢
      simp only [d0] at hK ⊢
      go_wp2_with fail
      refine (check_any k f t i b _ hb).mono ?_
      rintro e w2 ⟨rfl, hb2⟩
      exact hK (.int .i64 (chk k f t i b.size)) w2 hb2 rfl
    · intro x w' hS hd K hK
      refine ⟨rfl, ?_⟩
      unfold sameA at hK ⊢
      have z0 := obj_cell hS.2.2 0
      have z1 := obj_cell hS.2.2 1
      have z2 := obj_cell hS.2.2 2
      have z3 := obj_cell hS.2.2 3
      have z4 := obj_cell hS.2.2 4
      have hlt := obj_lt hS.2.2
      simp only [List.getElem?_toArray, List.getElem?_cons_zero, List.getElem?_cons_succ] at z0 z1 z2 z3 z4
      go_wp2
      exact hK (.agg #[.int .i64 k, .int .i64 f, .int .i64 t, .int .i64 i, .string b]) w' (Below.refl _ _) rfl
    · intro x w' hS hd K hK
      have d0 : x 2 = .agg #[.int .i64 k, .int .i64 f, .int .i64 t, .int .i64 i, .string b] := by first | exact hd _ List.mem_cons_self | exact hd _ (List.mem_cons_of_mem _ List.mem_cons_self) | exact hd _ (List.mem_cons_of_mem _ (List.mem_cons_of_mem _ List.mem_cons_self)) | exact hd _ (List.mem_cons_of_mem _ (List.mem_cons_of_mem _ (List.mem_cons_of_mem _ List.mem_cons_self))) | exact hd _ (List.mem_cons_of_mem _ (List.mem_cons_of_mem _ (List.mem_cons_of_mem _ (List.mem_cons_of_mem _ List.mem_cons_self))))
      refine ⟨rfl, ?_⟩
      unfold sameA at hK ⊢
      simp only [d0] at hK ⊢
      go_wp2_with fail
      refine (rCheck_any k f t i b _ hb).mono ?_
      rintro e w2 ⟨rfl, hb2⟩
      exact hK (.int .i64 (chk k f t i b.size)) w2 hb2 rfl
    · intro x w' hS hd K hK
      have d0 : x 1 = .int .i64 (chk k f t i b.size) := by first | exact hd _ List.mem_cons_self | exact hd _ (List.mem_cons_of_mem _ List.mem_cons_self) | exact hd _ (List.mem_cons_of_mem _ (List.mem_cons_of_mem _ List.mem_cons_self)) | exact hd _ (List.mem_cons_of_mem _ (List.mem_cons_of_mem _ (List.mem_cons_of_mem _ List.mem_cons_self))) | exact hd _ (List.mem_cons_of_mem _ (List.mem_cons_of_mem _ (List.mem_cons_of_mem _ (List.mem_cons_of_mem _ List.mem_cons_self))))
      have d1 : x 3 = .int .i64 (chk k f t i b.size) := by first | exact hd _ List.mem_cons_self | exact hd _ (List.mem_cons_of_mem _ List.mem_cons_self) | exact hd _ (List.mem_cons_of_mem _ (List.mem_cons_of_mem _ List.mem_cons_self)) | exact hd _ (List.mem_cons_of_mem _ (List.mem_cons_of_mem _ (List.mem_cons_of_mem _ List.mem_cons_self))) | exact hd _ (List.mem_cons_of_mem _ (List.mem_cons_of_mem _ (List.mem_cons_of_mem _ (List.mem_cons_of_mem _ List.mem_cons_self))))
      refine ⟨rfl, ?_⟩
      unfold sameA at hK ⊢
      simp only [d0, d1] at hK ⊢
      go_wp2
      exact hK (.bool true) w' (Below.refl _ _) rfl
    · intro x w' hS hd K hK
      have d0 : x 4 = .bool true := by first | exact hd _ List.mem_cons_self | exact hd _ (List.mem_cons_of_mem _ List.mem_cons_self) | exact hd _ (List.mem_cons_of_mem _ (List.mem_cons_of_mem _ List.mem_cons_self)) | exact hd _ (List.mem_cons_of_mem _ (List.mem_cons_of_mem _ (List.mem_cons_of_mem _ List.mem_cons_self))) | exact hd _ (List.mem_cons_of_mem _ (List.mem_cons_of_mem _ (List.mem_cons_of_mem _ (List.mem_cons_of_mem _ List.mem_cons_self))))
      refine ⟨rfl, ?_⟩
      unfold sameA at hK ⊢
      simp only [d0] at hK ⊢
      go_wp2
      exact hK (.bool true) w' (Below.refl _ _) rfl
    · intro x w' hS hd K hK
      have d0 : x 5 = .bool true := by first | exact hd _ List.mem_cons_self | exact hd _ (List.mem_cons_of_mem _ List.mem_cons_self) | exact hd _ (List.mem_cons_of_mem _ (List.mem_cons_of_mem _ List.mem_cons_self)) | exact hd _ (List.mem_cons_of_mem _ (List.mem_cons_of_mem _ (List.mem_cons_of_mem _ List.mem_cons_self))) | exact hd _ (List.mem_cons_of_mem _ (List.mem_cons_of_mem _ (List.mem_cons_of_mem _ (List.mem_cons_of_mem _ List.mem_cons_self))))
      refine ⟨by unfold sameA; rw [d0]; rfl, ?_⟩
      unfold sameA at hK ⊢
      simp only [d0] at hK ⊢
      go_wp2
      exact hK (.string o) w' (Below.refl _ _) rfl
    · intro x w' hS hd K hK
      have d0 : x 5 = .bool true := by first | exact hd _ List.mem_cons_self | exact hd _ (List.mem_cons_of_mem _ List.mem_cons_self) | exact hd _ (List.mem_cons_of_mem _ (List.mem_cons_of_mem _ List.mem_cons_self)) | exact hd _ (List.mem_cons_of_mem _ (List.mem_cons_of_mem _ (List.mem_cons_of_mem _ List.mem_cons_self))) | exact hd _ (List.mem_cons_of_mem _ (List.mem_cons_of_mem _ (List.mem_cons_of_mem _ (List.mem_cons_of_mem _ List.mem_cons_self))))
      refine ⟨by unfold sameA; rw [d0]; rfl, ?_⟩
      unfold sameA at hK ⊢
      simp only [d0] at hK ⊢
      go_wp2
      exact hK (.string o) w' (Below.refl _ _) rfl
    · intro x w' hS hd K hK
      have d0 : x 6 = .string o := by first | exact hd _ List.mem_cons_self | exact hd _ (List.mem_cons_of_mem _ List.mem_cons_self) | exact hd _ (List.mem_cons_of_mem _ (List.mem_cons_of_mem _ List.mem_cons_self)) | exact hd _ (List.mem_cons_of_mem _ (List.mem_cons_of_mem _ (List.mem_cons_of_mem _ List.mem_cons_self))) | exact hd _ (List.mem_cons_of_mem _ (List.mem_cons_of_mem _ (List.mem_cons_of_mem _ (List.mem_cons_of_mem _ List.mem_cons_self))))
      have d1 : x 7 = .string o := by first | exact hd _ List.mem_cons_self | exact hd _ (List.mem_cons_of_mem _ List.mem_cons_self) | exact hd _ (List.mem_cons_of_mem _ (List.mem_cons_of_mem _ List.mem_cons_self)) | exact hd _ (List.mem_cons_of_mem _ (List.mem_cons_of_mem _ (List.mem_cons_of_mem _ List.mem_cons_self))) | exact hd _ (List.mem_cons_of_mem _ (List.mem_cons_of_mem _ (List.mem_cons_of_mem _ (List.mem_cons_of_mem _ List.mem_cons_self))))
      have d2 : x 5 = .bool true := by first | exact hd _ List.mem_cons_self | exact hd _ (List.mem_cons_of_mem _ List.mem_cons_self) | exact hd _ (List.mem_cons_of_mem _ (List.mem_cons_of_mem _ List.mem_cons_self)) | exact hd _ (List.mem_cons_of_mem _ (List.mem_cons_of_mem _ (List.mem_cons_of_mem _ List.mem_cons_self))) | exact hd _ (List.mem_cons_of_mem _ (List.mem_cons_of_mem _ (List.mem_cons_of_mem _ (List.mem_cons_of_mem _ List.mem_cons_self))))
      refine ⟨by unfold sameA; rw [d2]; rfl, ?_⟩
      unfold sameA at hK ⊢
      simp only [d0, d1, d2] at hK ⊢
      go_wp2
      exact hK (.bool true) w' (Below.refl _ _) rfl
    · intro x w' hS hd K hK
      have d0 : x 5 = .bool true := by first | exact hd _ List.mem_cons_self | exact hd _ (List.mem_cons_of_mem _ List.mem_cons_self) | exact hd _ (List.mem_cons_of_mem _ (List.mem_cons_of_mem _ List.mem_cons_self)) | exact hd _ (List.mem_cons_of_mem _ (List.mem_cons_of_mem _ (List.mem_cons_of_mem _ List.mem_cons_self))) | exact hd _ (List.mem_cons_of_mem _ (List.mem_cons_of_mem _ (List.mem_cons_of_mem _ (List.mem_cons_of_mem _ List.mem_cons_self))))
      have d1 : x 8 = .bool true := by first | exact hd _ List.mem_cons_self | exact hd _ (List.mem_cons_of_mem _ List.mem_cons_self) | exact hd _ (List.mem_cons_of_mem _ (List.mem_cons_of_mem _ List.mem_cons_self)) | exact hd _ (List.mem_cons_of_mem _ (List.mem_cons_of_mem _ (List.mem_cons_of_mem _ List.mem_cons_self))) | exact hd _ (List.mem_cons_of_mem _ (List.mem_cons_of_mem _ (List.mem_cons_of_mem _ (List.mem_cons_of_mem _ List.mem_cons_self))))
      refine ⟨rfl, ?_⟩
      unfold sameA at hK ⊢
      simp only [d0, d1] at hK ⊢
      go_wp2
      exact hK (.bool true) w' (Below.refl _ _) rfl
    · intro x w' hS hd K hK
      have d0 : x 9 = .bool true := by first | exact hd _ List.mem_cons_self | exact hd _ (List.mem_cons_of_mem _ List.mem_cons_self) | exact hd _ (List.mem_cons_of_mem _ (List.mem_cons_of_mem _ List.mem_cons_self)) | exact hd _ (List.mem_cons_of_mem _ (List.mem_cons_of_mem _ (List.mem_cons_of_mem _ List.mem_cons_self))) | exact hd _ (List.mem_cons_of_mem _ (List.mem_cons_of_mem _ (List.mem_cons_of_mem _ (List.mem_cons_of_mem _ List.mem_cons_self))))
      refine ⟨rfl, ?_⟩
      unfold sameA at hK ⊢
      simp only [d0] at hK ⊢
      go_wp2
      exact hK (.bool true) w' (Below.refl _ _) rfl
    · intro x w' hS hd K hK
      have d0 : x 10 = .bool true := by first | exact hd _ List.mem_cons_self | exact hd _ (List.mem_cons_of_mem _ List.mem_cons_self) | exact hd _ (List.mem_cons_of_mem _ (List.mem_cons_of_mem _ List.mem_cons_self)) | exact hd _ (List.mem_cons_of_mem _ (List.mem_cons_of_mem _ (List.mem_cons_of_mem _ List.mem_cons_self))) | exact hd _ (List.mem_cons_of_mem _ (List.mem_cons_of_mem _ (List.mem_cons_of_mem _ (List.mem_cons_of_mem _ List.mem_cons_self))))
      refine ⟨by unfold sameA; rw [d0]; rfl, ?_⟩
      unfold sameA at hK ⊢
      simp only [d0] at hK ⊢
      go_wp2
      exact hK (.int .i64 c) w' (Below.refl _ _) rfl
    · intro x w' hS hd K hK
      have d0 : x 10 = .bool true := by first | exact hd _ List.mem_cons_self | exact hd _ (List.mem_cons_of_mem _ List.mem_cons_self) | exact hd _ (List.mem_cons_of_mem _ (List.mem_cons_of_mem _ List.mem_cons_self)) | exact hd _ (List.mem_cons_of_mem _ (List.mem_cons_of_mem _ (List.mem_cons_of_mem _ List.mem_cons_self))) | exact hd _ (List.mem_cons_of_mem _ (List.mem_cons_of_mem _ (List.mem_cons_of_mem _ (List.mem_cons_of_mem _ List.mem_cons_self))))
      refine ⟨by unfold sameA; rw [d0]; rfl, ?_⟩
      unfold sameA at hK ⊢
      simp only [d0] at hK ⊢
      go_wp2
      exact hK (.int .i64 c) w' (Below.refl _ _) rfl
    · intro x w' hS hd K hK
      have d0 : x 11 = .int .i64 c := by first | exact hd _ List.mem_cons_self | exact hd _ (List.mem_cons_of_mem _ List.mem_cons_self) | exact hd _ (List.mem_cons_of_mem _ (List.mem_cons_of_mem _ List.mem_cons_self)) | exact hd _ (List.mem_cons_of_mem _ (List.mem_cons_of_mem _ (List.mem_cons_of_mem _ List.mem_cons_self))) | exact hd _ (List.mem_cons_of_mem _ (List.mem_cons_of_mem _ (List.mem_cons_of_mem _ (List.mem_cons_of_mem _ List.mem_cons_self))))
      have d1 : x 12 = .int .i64 c := by first | exact hd _ List.mem_cons_self | exact hd _ (List.mem_cons_of_mem _ List.mem_cons_self) | exact hd _ (List.mem_cons_of_mem _ (List.mem_cons_of_mem _ List.mem_cons_self)) | exact hd _ (List.mem_cons_of_mem _ (List.mem_cons_of_mem _ (List.mem_cons_of_mem _ List.mem_cons_self))) | exact hd _ (List.mem_cons_of_mem _ (List.mem_cons_of_mem _ (List.mem_cons_of_mem _ (List.mem_cons_of_mem _ List.mem_cons_self))))
      have d2 : x 10 = .bool true := by first | exact hd _ List.mem_cons_self | exact hd _ (List.mem_cons_of_mem _ List.mem_cons_self) | exact hd _ (List.mem_cons_of_mem _ (List.mem_cons_of_mem _ List.mem_cons_self)) | exact hd _ (List.mem_cons_of_mem _ (List.mem_cons_of_mem _ (List.mem_cons_of_mem _ List.mem_cons_self))) | exact hd _ (List.mem_cons_of_mem _ (List.mem_cons_of_mem _ (List.mem_cons_of_mem _ (List.mem_cons_of_mem _ List.mem_cons_self))))
      refine ⟨by unfold sameA; rw [d2]; rfl, ?_⟩
      unfold sameA at hK ⊢
      simp only [d0, d1, d2] at hK ⊢
      go_wp2
      exact hK (.bool true) w' (Below.refl _ _) rfl
    · intro x w' hS hd K hK
      have d0 : x 10 = .bool true := by first | exact hd _ List.mem_cons_self | exact hd _ (List.mem_cons_of_mem _ List.mem_cons_self) | exact hd _ (List.mem_cons_of_mem _ (List.mem_cons_of_mem _ List.mem_cons_self)) | exact hd _ (List.mem_cons_of_mem _ (List.mem_cons_of_mem _ (List.mem_cons_of_mem _ List.mem_cons_self))) | exact hd _ (List.mem_cons_of_mem _ (List.mem_cons_of_mem _ (List.mem_cons_of_mem _ (List.mem_cons_of_mem _ List.mem_cons_self))))
      have d1 : x 13 = .bool true := by first | exact hd _ List.mem_cons_self | exact hd _ (List.mem_cons_of_mem _ List.mem_cons_self) | exact hd _ (List.mem_cons_of_mem _ (List.mem_cons_of_mem _ List.mem_cons_self)) | exact hd _ (List.mem_cons_of_mem _ (List.mem_cons_of_mem _ (List.mem_cons_of_mem _ List.mem_cons_self))) | exact hd _ (List.mem_cons_of_mem _ (List.mem_cons_of_mem _ (List.mem_cons_of_mem _ (List.mem_cons_of_mem _ List.mem_cons_self))))
      refine ⟨rfl, ?_⟩
      unfold sameA at hK ⊢
      simp only [d0, d1] at hK ⊢
      go_wp2
      exact hK (.bool true) w' (Below.refl _ _) rfl
    · intro x w' hS hd K hK
      have d0 : x 14 = .bool true := by first | exact hd _ List.mem_cons_self | exact hd _ (List.mem_cons_of_mem _ List.mem_cons_self) | exact hd _ (List.mem_cons_of_mem _ (List.mem_cons_of_mem _ List.mem_cons_self)) | exact hd _ (List.mem_cons_of_mem _ (List.mem_cons_of_mem _ (List.mem_cons_of_mem _ List.mem_cons_self))) | exact hd _ (List.mem_cons_of_mem _ (List.mem_cons_of_mem _ (List.mem_cons_of_mem _ (List.mem_cons_of_mem _ List.mem_cons_self))))
      refine ⟨rfl, ?_⟩
      unfold sameA at hK ⊢
      simp only [d0] at hK ⊢
      go_wp2
      exact hK (.bool true) w' (Below.refl _ _) rfl
    · intro x w' hS hd K hK
      have d0 : x 15 = .bool true := by first | exact hd _ List.mem_cons_self | exact hd _ (List.mem_cons_of_mem _ List.mem_cons_self) | exact hd _ (List.mem_cons_of_mem _ (List.mem_cons_of_mem _ List.mem_cons_self)) | exact hd _ (List.mem_cons_of_mem _ (List.mem_cons_of_mem _ (List.mem_cons_of_mem _ List.mem_cons_self))) | exact hd _ (List.mem_cons_of_mem _ (List.mem_cons_of_mem _ (List.mem_cons_of_mem _ (List.mem_cons_of_mem _ List.mem_cons_self))))
      refine ⟨by unfold sameA; rw [d0]; rfl, ?_⟩
      unfold sameA at hK ⊢
      simp only [d0] at hK ⊢
      go_wp2_with fail
      refine (HA.out _).mono ?_
      rintro e w2 ⟨rfl, hb2⟩
      exact hK (.bool true) w2 hb2 rfl
    · intro x w' hS hd K hK
      have d0 : x 15 = .bool true := by first | exact hd _ List.mem_cons_self | exact hd _ (List.mem_cons_of_mem _ List.mem_cons_self) | exact hd _ (List.mem_cons_of_mem _ (List.mem_cons_of_mem _ List.mem_cons_self)) | exact hd _ (List.mem_cons_of_mem _ (List.mem_cons_of_mem _ (List.mem_cons_of_mem _ List.mem_cons_self))) | exact hd _ (List.mem_cons_of_mem _ (List.mem_cons_of_mem _ (List.mem_cons_of_mem _ (List.mem_cons_of_mem _ List.mem_cons_self))))
      have d1 : x 16 = .bool true := by first | exact hd _ List.mem_cons_self | exact hd _ (List.mem_cons_of_mem _ List.mem_cons_self) | exact hd _ (List.mem_cons_of_mem _ (List.mem_cons_of_mem _ List.mem_cons_self)) | exact hd _ (List.mem_cons_of_mem _ (List.mem_cons_of_mem _ (List.mem_cons_of_mem _ List.mem_cons_self))) | exact hd _ (List.mem_cons_of_mem _ (List.mem_cons_of_mem _ (List.mem_cons_of_mem _ (List.mem_cons_of_mem _ List.mem_cons_self))))
      refine ⟨rfl, ?_⟩
      unfold sameA at hK ⊢
      simp only [d0, d1] at hK ⊢
      go_wp2
      exact hK (.bool true) w' (Below.refl _ _) rfl
    · intro x w' hS hd K hK
      have d0 : x 17 = .bool true := by first | exact hd _ List.mem_cons_self | exact hd _ (List.mem_cons_of_mem _ List.mem_cons_self) | exact hd _ (List.mem_cons_of_mem _ (List.mem_cons_of_mem _ List.mem_cons_self)) | exact hd _ (List.mem_cons_of_mem _ (List.mem_cons_of_mem _ (List.mem_cons_of_mem _ List.mem_cons_self))) | exact hd _ (List.mem_cons_of_mem _ (List.mem_cons_of_mem _ (List.mem_cons_of_mem _ (List.mem_cons_of_mem _ List.mem_cons_self))))
      refine ⟨rfl, ?_⟩
      unfold sameA at hK ⊢
      simp only [d0] at hK ⊢
      go_wp2
      exact hK (.bool true) w' (Below.refl _ _) rfl
  · intro x w' hS hv
    have d0 : x 18 = .bool true := hv 18 (by decide)
    unfold sameA
    simp only [d0]
    go_wp2
    go_ret
    exact ⟨rfl, hS.1⟩
theorem walk_framesEncodes (k f t i : Int) (b : ByteArray) (w : World) (_hk : (Lit.int .i64 k).wf = true) (_hf : (Lit.int .i64 f).wf = true) (_ht : (Lit.int .i64 t).wf = true) (_hi : (Lit.int .i64 i).wf = true) (hb : b.size ≤ maxLen) :
    Calls Try.prog 7 #[.agg #[.int .i64 k, .int .i64 f, .int .i64 t, .int .i64 i, .string b]] w fun e w' => e = .returned (.bool true) ∧ Below w.heap.size w w' := by
  obtain ⟨o, c, hE, hR⟩ := enc_same k f t i b hb
  exact same_walk awake12 k f t i b o c hb hE hR w
end Go.Proofs.Ytljmaicobafgkaa
