/- Layer 12's reference: Encode, whole. -/
import Derived.Test.YtljmaicobafgkaaRef12
import Derived.Test.YtljmaicobafgkaaOrd
import Derived.Test.YtljmaicobafgkaaFrEnc
namespace Go.Proofs.Ytljmaicobafgkaa
open Go.RowKit

theorem conv3 {w : World} {g : Nat} {kd fr tt : Int} (h : w.heap[g]? = some (.cells #[.int .u8 kd, .int .u8 fr, .int .u8 tt] 5 (0, 0))) (h0 : 0 ≤ kd) (h1 : kd ≤ 255) (h2 : 0 ≤ fr) (h3 : fr ≤ 255) (h4 : 0 ≤ tt) (h5 : tt ≤ 255) :
    (convert 77 9 (.slice (some ⟨g, 0, none⟩) 3 3)).run Try.prog w = .ok (.string ⟨[ub kd, ub fr, ub tt].toArray⟩) w := by
  refine conv_str [ub kd, ub fr, ub tt] rfl (fun ad e j u hu => ?_) (fun h => by simp at h)
  cases e
  rw [add_plain', Nat.zero_add, obj_cell h j, ← hu]
  match j with
  | 0 => simp [byteVals, ub_small h0 (by omega)]
  | 1 => simp [byteVals, ub_small h2 (by omega)]
  | 2 => simp [byteVals, ub_small h4 (by omega)]
  | j + 3 => simp [byteVals]
theorem wrap_u8 (n : Int) (h0 : 0 ≤ n) (h1 : n ≤ 255) : IntKind.u8.wrap n = n := by
  show n % 256 = n
  omega
def encA (g : Nat) (m : Array Value) (x : Nat → Value) : Act := ⟨#[.agg m, .pointer (some ⟨g, 0, none⟩), x 20, x 21, .int .i64 0, .agg m, .int .i64 0, .int .i64 0, .bool false, undef,
  x 0, x 1, x 2, x 3, x 4, x 5, x 6, x 7, x 8, x 9, x 10, x 11, x 12, x 13, x 14, x 15, x 16, x 17, x 18, x 19], []⟩
def encX (j : Nat) : Value := if j = 20 then .string ⟨#[]⟩ else if j = 21 then .int .i64 0 else undef
def EncM (B g : Nat) (m : Array Value) (w0 w : World) : Prop := Below B w0 w ∧ B ≤ w.heap.size ∧ w.heap[g]? = some (.cells m 63 (0, 0))
def Row3 (g : Nat) (m : Array Value) (w : World) : Prop := w.heap[g]? = some (.cells m 5 (0, 0))
def encV (g : Nat) (kd fr tt id : Int) (b : ByteArray) (i : Nat) (v : Value) (w : World) : Prop :=
  match i with
  | 0 => v = .pointer (some ⟨g, 0, none⟩)
  | 1 => v = .int .i64 kd
  | 2 => v = .int .u8 kd
  | 3 => v = .pointer (some ⟨g, 1, none⟩)
  | 4 => v = .int .i64 fr
  | 5 => v = .int .u8 fr
  | 6 => v = .pointer (some ⟨g, 2, none⟩)
  | 7 => v = .int .i64 tt
  | 8 => v = .int .u8 tt
  | 9 => ∃ g', v = .slice (some ⟨g', 0, none⟩) 3 3 ∧ Row3 g' #[.int .u8 kd, .int .u8 fr, .int .u8 tt] w
  | 10 => v = .string ⟨#[ub kd, ub fr, ub tt]⟩
  | 11 => v = .pointer (some ⟨g, 3, none⟩)
  | 12 => v = .int .i64 id
  | 13 => v = .string ⟨(num id).toArray⟩
  | 14 => v = .string ((⟨#[ub kd, ub fr, ub tt]⟩ : ByteArray) ++ ⟨(num id).toArray⟩)
  | 15 => v = .pointer (some ⟨g, 4, none⟩)
  | 16 => v = .string b
  | 17 => v = .string ⟨(textB b.data.toList).toArray⟩
  | 18 => v = .string ⟨(frB kd fr tt id b.data.toList).toArray⟩
  | 19 => v = .string (sealS ⟨(frB kd fr tt id b.data.toList).toArray⟩)
  | 20 => v = .string (sealS ⟨(frB kd fr tt id b.data.toList).toArray⟩)
  | _ => v = .int .i64 0
theorem encV_on {g : Nat} {kd fr tt id : Int} {b : ByteArray} (i : Nat) (v : Value) (w w' : World) (hb : Below w.heap.size w w') (h : encV g kd fr tt id b i v w) : encV g kd fr tt id b i v w' := by
  unfold encV at h ⊢
  split at h <;> try exact h
  obtain ⟨g', hv, hr⟩ := h
  exact ⟨g', hv, obj_below hr hb⟩
theorem EncM.drew {B g : Nat} {m : Array Value} {w0 w : World} (h : EncM B g m w0 w) : EncM B g m w0 w.drew := ⟨h.1.drew, h.2.1, h.2.2⟩
theorem EncM.on {B g : Nat} {m : Array Value} {w0 w w' : World} (hb : Below w.heap.size w w') (h : EncM B g m w0 w) : EncM B g m w0 w' :=
  ⟨h.1.trans (hb.mono h.2.1), Nat.le_trans h.2.1 hb.size, obj_below h.2.2 hb⟩
set_option maxHeartbeats 2000000 in
set_option maxRecDepth 100000 in
theorem rEncode_ok (kd fr tt id : Int) (b : ByteArray) (w : World) (hm : msgOk kd fr tt id) (hb : b.size ≤ 4096) :
    Calls Try.prog 45 #[.agg #[.int .i64 kd, .int .i64 fr, .int .i64 tt, .int .i64 id, .string b]] w fun e w' => e = .returned (.tuple #[.string (sealS ⟨(frB kd fr tt id b.data.toList).toArray⟩), .int .i64 0]) ∧ Below w.heap.size w w' := by
  have hchk : chk kd fr tt id b.size = 0 := by unfold chk; rw [if_pos hm, if_neg (by omega)]
  have HC := hide hchk
  clear hchk
  obtain ⟨hk0, hk1, hf0, hf1, ht0, ht1, hi0, hi1⟩ := hm
  go_enter Try.func45, Try.ntmps45
  go_wp2_with fail
  refine (rCheck_any kd fr tt id b _ (by omega)).mono ?_
  rintro e w1 ⟨rfl, hb1⟩
  rw [HC.out]
  have hmg := obj_below (obj_new w (.cells #[.int .i64 kd, .int .i64 fr, .int .i64 tt, .int .i64 id, .string b] 63)) hb1
  have HM : EncM w.heap.size w.heap.size #[.int .i64 kd, .int .i64 fr, .int .i64 tt, .int .i64 id, .string b] w w1 :=
    ⟨((Below.refl w.heap.size w).alloc (Nat.le_refl _) (.cells #[.int .i64 kd, .int .i64 fr, .int .i64 tt, .int .i64 id, .string b] 63)).trans (hb1.mono (by simp)), by have := hb1.size; simp at this; omega, hmg⟩
  clear hb1 hmg
  go_wp2_with fail
  have hw1 := wrap_u8 kd (by omega) (by omega)
  have hw2 := wrap_u8 fr hf0 (by omega)
  have hw3 := wrap_u8 tt ht0 (by omega)
  have hn := num_ten id (by omega)
  have ht : (textB b.data.toList).length ≤ 4200 := by
    have h1 := num_ten (b.data.toList.length : Int) (by have := size_list b; omega)
    have h2 := size_list b
    unfold textB
    rw [List.length_append]
    omega
  have hs2 : (⟨(textB b.data.toList).toArray⟩ : ByteArray).size ≤ 4200 := by rw [str_size]; exact ht
  have hse : ({ data := #[ub kd, ub fr, ub tt] } : ByteArray) ++ { data := (num id).toArray } ++ { data := (textB b.data.toList).toArray } = ⟨(frB kd fr tt id b.data.toList).toArray⟩ := by
    rw [show ({ data := #[ub kd, ub fr, ub tt] } : ByteArray) = ⟨[ub kd, ub fr, ub tt].toArray⟩ from rfl, str_app, str_app]
    simp [frB, frPre]
  have hsf : (⟨(frB kd fr tt id b.data.toList).toArray⟩ : ByteArray).size ≤ 4611686018427387904 := by
    rw [str_size]
    simp [frB, frPre]
    omega
  have hs1 : (⟨(num id).toArray⟩ : ByteArray).size ≤ 10 := by rw [str_size]; exact hn
  refine wp_region_vals (encA w.heap.size #[.int .i64 kd, .int .i64 fr, .int .i64 tt, .int .i64 id, .string b]) encX (EncM w.heap.size w.heap.size #[.int .i64 kd, .int .i64 fr, .int .i64 tt, .int .i64 id, .string b] w) (encV w.heap.size kd fr tt id b) rfl (by kernel_rfl) rfl (fun _ _ => EncM.on) encV_on HM.drew ?_ ?_ ?_
  · exact ⟨fun x v => rfl, fun x v => rfl, fun x v => rfl, fun x v => rfl, fun x v => rfl, fun x v => rfl, fun x v => rfl, fun x v => rfl, fun x v => rfl, fun x v => rfl, fun x v => rfl,
      fun x v => rfl, fun x v => rfl, fun x v => rfl, fun x v => rfl, fun x v => rfl, fun x v => rfl, fun x v => rfl, fun x v => rfl, fun x v => rfl, fun x v => rfl, fun x v => rfl, trivial⟩
  · refine ⟨?_, ?_, ?_, ?_, ?_, ?_, ?_, ?_, ?_, ?_, ?_, ?_, ?_, ?_, ?_, ?_, ?_, ?_, ?_, ?_, ?_, ?_, trivial⟩
    · intro x w' hS hd K hK
      refine ⟨rfl, ?_⟩
      unfold encA at hK ⊢
      go_wp2
      exact hK (.pointer (some ⟨w.heap.size, 0, none⟩)) w' (Below.refl _ _) rfl
    · intro x w' hS hd K hK
      refine ⟨rfl, ?_⟩
      have d0 : x 0 = .pointer (some ⟨w.heap.size, 0, none⟩) := hd _ List.mem_cons_self
      unfold encA at hK ⊢
      simp only [d0] at hK ⊢
      have z := obj_cell hS.2.2 0
      simp only [List.getElem?_toArray, List.getElem?_cons_zero] at z
      go_wp2
      exact hK (.int .i64 kd) w' (Below.refl _ _) rfl
    · intro x w' hS hd K hK
      refine ⟨rfl, ?_⟩
      have d0 : x 1 = .int .i64 kd := hd _ List.mem_cons_self
      unfold encA at hK ⊢
      simp only [d0] at hK ⊢
      go_wp2
      exact hK (.int .u8 kd) w' (Below.refl _ _) rfl
    · intro x w' hS hd K hK
      refine ⟨rfl, ?_⟩
      unfold encA at hK ⊢
      go_wp2
      exact hK (.pointer (some ⟨w.heap.size, 1, none⟩)) w' (Below.refl _ _) rfl
    · intro x w' hS hd K hK
      refine ⟨rfl, ?_⟩
      have d0 : x 3 = .pointer (some ⟨w.heap.size, 1, none⟩) := hd _ List.mem_cons_self
      unfold encA at hK ⊢
      simp only [d0] at hK ⊢
      have z := obj_cell hS.2.2 1
      simp only [List.getElem?_toArray, List.getElem?_cons_zero, List.getElem?_cons_succ] at z
      go_wp2
      exact hK (.int .i64 fr) w' (Below.refl _ _) rfl
    · intro x w' hS hd K hK
      refine ⟨rfl, ?_⟩
      have d0 : x 4 = .int .i64 fr := hd _ List.mem_cons_self
      unfold encA at hK ⊢
      simp only [d0] at hK ⊢
      go_wp2
      exact hK (.int .u8 fr) w' (Below.refl _ _) rfl
    · intro x w' hS hd K hK
      refine ⟨rfl, ?_⟩
      unfold encA at hK ⊢
      go_wp2
      exact hK (.pointer (some ⟨w.heap.size, 2, none⟩)) w' (Below.refl _ _) rfl
    · intro x w' hS hd K hK
      refine ⟨rfl, ?_⟩
      have d0 : x 6 = .pointer (some ⟨w.heap.size, 2, none⟩) := hd _ List.mem_cons_self
      unfold encA at hK ⊢
      simp only [d0] at hK ⊢
      have z := obj_cell hS.2.2 2
      simp only [List.getElem?_toArray, List.getElem?_cons_zero, List.getElem?_cons_succ] at z
      go_wp2
      exact hK (.int .i64 tt) w' (Below.refl _ _) rfl
    · intro x w' hS hd K hK
      refine ⟨rfl, ?_⟩
      have d0 : x 7 = .int .i64 tt := hd _ List.mem_cons_self
      unfold encA at hK ⊢
      simp only [d0] at hK ⊢
      go_wp2
      exact hK (.int .u8 tt) w' (Below.refl _ _) rfl
    · intro x w' hS hd K hK
      refine ⟨rfl, ?_⟩
      have d0 : x 2 = .int .u8 kd := hd _ List.mem_cons_self
      have d1 : x 5 = .int .u8 fr := hd _ (List.mem_cons_of_mem _ List.mem_cons_self)
      have d2 : x 8 = .int .u8 tt := hd _ (List.mem_cons_of_mem _ (List.mem_cons_of_mem _ List.mem_cons_self))
      unfold encA at hK ⊢
      simp only [d0, d1, d2] at hK ⊢
      go_wp2
      exact hK (.slice (some ⟨w'.heap.size, 0, none⟩) 3 3) _ ((Below.refl _ _).alloc (Nat.le_refl _) _) ⟨_, rfl, obj_new _ _⟩
    · intro x w' hS hd K hK
      refine ⟨rfl, ?_⟩
      obtain ⟨g', d0, hr⟩ : encV w.heap.size kd fr tt id b 9 (x 9) w' := hd _ List.mem_cons_self
      have hcv := conv3 hr (by omega) (by omega) hf0 (by omega) ht0 (by omega)
      unfold encA at hK ⊢
      simp only [d0] at hK ⊢
      go_wp2
      exact hK (.string ⟨#[ub kd, ub fr, ub tt]⟩) w' (Below.refl _ _) rfl
    · intro x w' hS hd K hK
      refine ⟨rfl, ?_⟩
      unfold encA at hK ⊢
      go_wp2
      exact hK (.pointer (some ⟨w.heap.size, 3, none⟩)) w' (Below.refl _ _) rfl
    · intro x w' hS hd K hK
      refine ⟨rfl, ?_⟩
      have d0 : x 11 = .pointer (some ⟨w.heap.size, 3, none⟩) := hd _ List.mem_cons_self
      unfold encA at hK ⊢
      simp only [d0] at hK ⊢
      have z := obj_cell hS.2.2 3
      simp only [List.getElem?_toArray, List.getElem?_cons_zero, List.getElem?_cons_succ] at z
      go_wp2
      exact hK (.int .i64 id) w' (Below.refl _ _) rfl
    · intro x w' hS hd K hK
      refine ⟨rfl, ?_⟩
      have d0 : x 12 = .int .i64 id := hd _ List.mem_cons_self
      unfold encA at hK ⊢
      simp only [d0] at hK ⊢
      go_wp2_with fail
      refine (r3Int_any id _ (by omega) (by omega)).mono ?_
      rintro e w2 ⟨rfl, hb2⟩
      exact hK (.string ⟨(num id).toArray⟩) w2 hb2 rfl
    · intro x w' hS hd K hK
      refine ⟨rfl, ?_⟩
      have d0 : x 10 = .string ⟨#[ub kd, ub fr, ub tt]⟩ := hd _ List.mem_cons_self
      have d1 : x 13 = .string ⟨(num id).toArray⟩ := hd _ (List.mem_cons_of_mem _ List.mem_cons_self)
      unfold encA at hK ⊢
      simp only [d0, d1] at hK ⊢
      go_wp2
      exact hK (.string ((⟨#[ub kd, ub fr, ub tt]⟩ : ByteArray) ++ (⟨(num id).toArray⟩ : ByteArray))) w' (Below.refl _ _) rfl
    · intro x w' hS hd K hK
      refine ⟨rfl, ?_⟩
      unfold encA at hK ⊢
      go_wp2
      exact hK (.pointer (some ⟨w.heap.size, 4, none⟩)) w' (Below.refl _ _) rfl
    · intro x w' hS hd K hK
      refine ⟨rfl, ?_⟩
      have d0 : x 15 = .pointer (some ⟨w.heap.size, 4, none⟩) := hd _ List.mem_cons_self
      unfold encA at hK ⊢
      simp only [d0] at hK ⊢
      have z := obj_cell hS.2.2 4
      simp only [List.getElem?_toArray, List.getElem?_cons_zero, List.getElem?_cons_succ] at z
      go_wp2
      exact hK (.string b) w' (Below.refl _ _) rfl
    · intro x w' hS hd K hK
      refine ⟨rfl, ?_⟩
      have d0 : x 16 = .string b := hd _ List.mem_cons_self
      unfold encA at hK ⊢
      simp only [d0] at hK ⊢
      go_wp2_with fail
      refine (r3Text_any b _ (by omega)).mono ?_
      rintro e w2 ⟨rfl, hb2⟩
      exact hK (.string ⟨(textB b.data.toList).toArray⟩) w2 hb2 rfl
    · intro x w' hS hd K hK
      refine ⟨rfl, ?_⟩
      have d0 : x 14 = .string ((⟨#[ub kd, ub fr, ub tt]⟩ : ByteArray) ++ ⟨(num id).toArray⟩) := hd _ List.mem_cons_self
      have d1 : x 17 = .string ⟨(textB b.data.toList).toArray⟩ := hd _ (List.mem_cons_of_mem _ List.mem_cons_self)
      unfold encA at hK ⊢
      simp only [d0, d1] at hK ⊢
      go_wp2
      exact hK (.string ⟨(frB kd fr tt id b.data.toList).toArray⟩) w' (Below.refl _ _) rfl
    · intro x w' hS hd K hK
      refine ⟨rfl, ?_⟩
      have d0 : x 18 = .string ⟨(frB kd fr tt id b.data.toList).toArray⟩ := hd _ List.mem_cons_self
      unfold encA at hK ⊢
      simp only [d0] at hK ⊢
      go_wp2_with fail
      refine (rSeal_any _ _ hsf).mono ?_
      rintro e w2 ⟨rfl, hb2⟩
      exact hK (.string (sealS ⟨(frB kd fr tt id b.data.toList).toArray⟩)) w2 hb2 rfl
    · intro x w' hS hd K hK
      refine ⟨rfl, ?_⟩
      have d0 : x 19 = .string (sealS ⟨(frB kd fr tt id b.data.toList).toArray⟩) := hd _ List.mem_cons_self
      unfold encA at hK ⊢
      simp only [d0] at hK ⊢
      go_wp2
      exact hK (.string (sealS ⟨(frB kd fr tt id b.data.toList).toArray⟩)) w' (Below.refl _ _) rfl
    · intro x w' hS hd K hK
      refine ⟨rfl, ?_⟩
      unfold encA at hK ⊢
      go_wp2
      exact hK (.int .i64 0) w' (Below.refl _ _) rfl
  · intro x w' hS hv
    have d0 : x 20 = .string (sealS ⟨(frB kd fr tt id b.data.toList).toArray⟩) := hv 20 (by decide)
    have d1 : x 21 = .int .i64 0 := hv 21 (by decide)
    unfold encA
    simp only [d0, d1]
    go_wp2
    go_ret2
    exact ⟨rfl, hS.1⟩
end Go.Proofs.Ytljmaicobafgkaa
