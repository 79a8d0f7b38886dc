/- Layer 12: a message there and back (FramesBack). -/
import Derived.Test.YtljmaicobafgkaaPure2
namespace Go.Proofs.Ytljmaicobafgkaa
open Go.RowKit

/-- What a call of Encode is asked to give, from any world. -/
def EncTo (k f t i : Int) (b o : ByteArray) (c : Int) : Prop := ∀ w : World,
  Calls Try.prog 44 #[.agg #[.int .i64 k, .int .i64 f, .int .i64 t, .int .i64 i, .string b]] w fun e w' => e = .returned (.tuple #[.string o, .int .i64 c]) ∧ Below w.heap.size w w'
def DecTo (s : ByteArray) (k f t i : Int) (b : ByteArray) (c : Int) : Prop := ∀ w : World,
  Calls Try.prog 49 #[.string s] w fun e w' => e = .returned (.tuple #[.agg #[.int .i64 k, .int .i64 f, .int .i64 t, .int .i64 i, .string b], .int .i64 c]) ∧ Below w.heap.size w w'

theorem below_step {B : Nat} {w w1 w2 : World} {o : Obj} (h1 : Below B w w1) (hB : B ≤ w1.heap.size) (h2 : Below (w1.alloc o).heap.size (w1.alloc o) w2) : Below B w w2 :=
  (h1.alloc hB o).trans (h2.mono (by simp; omega))
theorem below_on {B : Nat} {w w1 w2 : World} (h1 : Below B w w1) (hB : B ≤ w1.heap.size) (h2 : Below w1.heap.size w1 w2) : Below B w w2 :=
  h1.trans (h2.mono hB)

set_option maxHeartbeats 4000000 in
set_option maxRecDepth 100000 in
theorem back_00 (ha : Awake12) (k f t i : Int) (b s o : ByteArray) (_c : Int) (k' f' t' i' : Int) (b' : ByteArray) (_c' : Int)
    (hE : EncTo k f t i b o 0) (hD : DecTo o k f t i b 0) (hD' : DecTo s k' f' t' i' b' 0) (hE' : EncTo k' f' t' i' b' s 0) (w : World) (hs : s.size ≤ 10000) :
    Calls Try.prog 9 #[.agg #[.int .i64 k, .int .i64 f, .int .i64 t, .int .i64 i, .string b], .string s] w fun e w' => e = .returned (.bool true) ∧ Below w.heap.size w w' := by
  have HA := hide ha
  have HE := hide hE
  have HD := hide hD
  have HD' := hide hD'
  have HE' := hide hE'
  clear ha hE hD hD' hE'
  go_enter Try.func9, Try.ntmps9
  go_wp2_with fail
  refine (HE.out _).mono ?_
  rintro e w1 ⟨rfl, hb1⟩
  have hm := obj_below (obj_new w _) hb1
  have HM := hide hm
  have HB1 := hide (below_step (Below.refl _ _) (Nat.le_refl _) hb1)
  have hz1 := HB1.out.size
  clear hb1 hm
  go_wp2_with fail
  refine (HD.out _).mono ?_
  rintro e w2 ⟨rfl, hb2⟩
  have hm2 := obj_below HM.out hb2
  have HM2 := hide hm2
  have HB2 := hide (below_on HB1.out hz1 hb2)
  have hz2 := HB2.out.size
  have z0 := obj_cell hm2 0
  have z1 := obj_cell hm2 1
  have z2 := obj_cell hm2 2
  have z3 := obj_cell hm2 3
  have z4 := obj_cell hm2 4
  simp only [List.getElem?_toArray, List.getElem?_cons_zero, List.getElem?_cons_succ] at z0 z1 z2 z3 z4
  have l2 := obj_lt hm2
  clear hb2 hm2
  go_wp2_with fail
  refine (HD'.out _).mono ?_
  rintro e w3 ⟨rfl, hb3⟩
  have HB3 := hide (below_step HB2.out hz2 hb3)
  have hz3 := HB3.out.size
  clear hb3
  go_wp2_with fail
  refine (HE'.out _).mono ?_
  rintro e w4 ⟨rfl, hb4⟩
  have HB4 := hide (below_step HB3.out hz3 hb4)
  have hz4 := HB4.out.size
  clear hb4
  go_wp2_with fail
  refine (HA.out _).mono ?_
  rintro e w5 ⟨rfl, hb5⟩
  go_wp2
  go_ret
  exact ⟨rfl, below_on HB4.out hz4 hb5⟩
set_option maxHeartbeats 4000000 in
set_option maxRecDepth 100000 in
theorem back_01 (ha : Awake12) (k f t i : Int) (b s o : ByteArray) (_c : Int) (k' f' t' i' : Int) (b' : ByteArray) (c' : Int)
    (hE : EncTo k f t i b o 0) (hD : DecTo o k f t i b 0) (hD' : DecTo s k' f' t' i' b' c') (hc' : c' ≠ 0) (w : World) (hs : s.size ≤ 10000) :
    Calls Try.prog 9 #[.agg #[.int .i64 k, .int .i64 f, .int .i64 t, .int .i64 i, .string b], .string s] w fun e w' => e = .returned (.bool true) ∧ Below w.heap.size w w' := by
  have hn3 : (c' == 0) = false := by simp [hc']
  have hn4 : (c' != 0) = true := by simp [hc']
  have HA := hide ha
  have HE := hide hE
  have HD := hide hD
  have HD' := hide hD'
  clear ha hE hD hD' hc'
  go_enter Try.func9, Try.ntmps9
  go_wp2_with fail
  refine (HE.out _).mono ?_
  rintro e w1 ⟨rfl, hb1⟩
  have hm := obj_below (obj_new w _) hb1
  have HM := hide hm
  have HB1 := hide (below_step (Below.refl _ _) (Nat.le_refl _) hb1)
  have hz1 := HB1.out.size
  clear hb1 hm
  go_wp2_with fail
  refine (HD.out _).mono ?_
  rintro e w2 ⟨rfl, hb2⟩
  have hm2 := obj_below HM.out hb2
  have HM2 := hide hm2
  have HB2 := hide (below_on HB1.out hz1 hb2)
  have hz2 := HB2.out.size
  have z0 := obj_cell hm2 0
  have z1 := obj_cell hm2 1
  have z2 := obj_cell hm2 2
  have z3 := obj_cell hm2 3
  have z4 := obj_cell hm2 4
  simp only [List.getElem?_toArray, List.getElem?_cons_zero, List.getElem?_cons_succ] at z0 z1 z2 z3 z4
  have l2 := obj_lt hm2
  clear hb2 hm2
  go_wp2_with fail
  refine (HD'.out _).mono ?_
  rintro e w3 ⟨rfl, hb3⟩
  have HB3 := hide (below_step HB2.out hz2 hb3)
  have hz3 := HB3.out.size
  clear hb3
  go_wp2_with fail
  refine (HA.out _).mono ?_
  rintro e w5 ⟨rfl, hb5⟩
  go_wp2
  go_ret
  exact ⟨rfl, below_step HB3.out hz3 hb5⟩
set_option maxHeartbeats 4000000 in
set_option maxRecDepth 100000 in
theorem back_10 (ha : Awake12) (k f t i : Int) (b s o : ByteArray) (c : Int) (k' f' t' i' : Int) (b' : ByteArray) (_c' : Int)
    (hE : EncTo k f t i b o c) (hc : c ≠ 0) (hD' : DecTo s k' f' t' i' b' 0) (hE' : EncTo k' f' t' i' b' s 0) (w : World) (hs : s.size ≤ 10000) :
    Calls Try.prog 9 #[.agg #[.int .i64 k, .int .i64 f, .int .i64 t, .int .i64 i, .string b], .string s] w fun e w' => e = .returned (.bool true) ∧ Below w.heap.size w w' := by
  have hn1 : (c == 0) = false := by simp [hc]
  have hn2 : (c != 0) = true := by simp [hc]
  have HA := hide ha
  have HE := hide hE
  have HD' := hide hD'
  have HE' := hide hE'
  clear ha hE hD' hE' hc
  go_enter Try.func9, Try.ntmps9
  go_wp2_with fail
  refine (HE.out _).mono ?_
  rintro e w1 ⟨rfl, hb1⟩
  have HB2 := hide (below_step (Below.refl _ _) (Nat.le_refl _) hb1)
  have hz2 := HB2.out.size
  clear hb1
  go_wp2_with fail
  refine (HD'.out _).mono ?_
  rintro e w3 ⟨rfl, hb3⟩
  have HB3 := hide (below_on HB2.out hz2 hb3)
  have hz3 := HB3.out.size
  clear hb3
  go_wp2_with fail
  refine (HE'.out _).mono ?_
  rintro e w4 ⟨rfl, hb4⟩
  have HB4 := hide (below_step HB3.out hz3 hb4)
  have hz4 := HB4.out.size
  clear hb4
  go_wp2_with fail
  refine (HA.out _).mono ?_
  rintro e w5 ⟨rfl, hb5⟩
  go_wp2
  go_ret
  exact ⟨rfl, below_on HB4.out hz4 hb5⟩
set_option maxHeartbeats 4000000 in
set_option maxRecDepth 100000 in
theorem back_11 (ha : Awake12) (k f t i : Int) (b s o : ByteArray) (c : Int) (k' f' t' i' : Int) (b' : ByteArray) (c' : Int)
    (hE : EncTo k f t i b o c) (hc : c ≠ 0) (hD' : DecTo s k' f' t' i' b' c') (hc' : c' ≠ 0) (w : World) (hs : s.size ≤ 10000) :
    Calls Try.prog 9 #[.agg #[.int .i64 k, .int .i64 f, .int .i64 t, .int .i64 i, .string b], .string s] w fun e w' => e = .returned (.bool true) ∧ Below w.heap.size w w' := by
  have hn1 : (c == 0) = false := by simp [hc]
  have hn2 : (c != 0) = true := by simp [hc]
  have hn3 : (c' == 0) = false := by simp [hc']
  have hn4 : (c' != 0) = true := by simp [hc']
  have HA := hide ha
  have HE := hide hE
  have HD' := hide hD'
  clear ha hE hD' hc hc'
  go_enter Try.func9, Try.ntmps9
  go_wp2_with fail
  refine (HE.out _).mono ?_
  rintro e w1 ⟨rfl, hb1⟩
  have HB2 := hide (below_step (Below.refl _ _) (Nat.le_refl _) hb1)
  have hz2 := HB2.out.size
  clear hb1
  go_wp2_with fail
  refine (HD'.out _).mono ?_
  rintro e w3 ⟨rfl, hb3⟩
  have HB3 := hide (below_on HB2.out hz2 hb3)
  have hz3 := HB3.out.size
  clear hb3
  go_wp2_with fail
  refine (HA.out _).mono ?_
  rintro e w5 ⟨rfl, hb5⟩
  go_wp2
  go_ret
  exact ⟨rfl, below_step HB3.out hz3 hb5⟩
set_option maxHeartbeats 4000000 in
set_option maxRecDepth 100000 in
theorem back_far (ha : Awake12) (k f t i : Int) (b s : ByteArray) (w : World) (hs : 10000 < s.size) :
    Calls Try.prog 9 #[.agg #[.int .i64 k, .int .i64 f, .int .i64 t, .int .i64 i, .string b], .string s] w fun e w' => e = .returned (.bool true) ∧ Below w.heap.size w w' := by
  have HA := hide ha
  clear ha
  go_enter Try.func9, Try.ntmps9
  go_wp2_with fail
  refine (HA.out _).mono ?_
  rintro e w5 ⟨rfl, hb5⟩
  go_wp2
  go_ret
  exact ⟨rfl, below_step (Below.refl _ _) (Nat.le_refl _) hb5⟩
end Go.Proofs.Ytljmaicobafgkaa
