/- The laws of layer 12: the walks. -/
import Derived.Test.YtljmaicobafgkaaRef12
import Derived.Test.YtljmaicobafgkaaPure
namespace Go.Proofs.Ytljmaicobafgkaa
open Go.RowKit

theorem decode_short (s : ByteArray) (w : World) (hs : s.size < 4) :
    Calls Try.prog 49 #[.string s] w fun e w' => e = .returned (.tuple #[.agg #[.int .i64 0, .int .i64 0, .int .i64 0, .int .i64 0, .string ⟨#[]⟩], .int .i64 2]) ∧ Below w.heap.size w w' := by
  go_enter Try.func49, Try.ntmps49
  go_wp2_with fail
  refine (open_short s _ hs).mono ?_
  rintro e w1 ⟨rfl, hb1⟩
  have hz := obj_below (obj_new w _) hb1
  have z0 := obj_cell hz 0
  have f0 := obj_frozen hz 0
  have z1 := obj_cell hz 1
  have f1 := obj_frozen hz 1
  have z2 := obj_cell hz 2
  have f2 := obj_frozen hz 2
  have z3 := obj_cell hz 3
  have f3 := obj_frozen hz 3
  have z4 := obj_cell hz 4
  have f4 := obj_frozen hz 4
  simp only [List.getElem?_toArray, List.getElem?_cons_zero, List.getElem?_cons_succ] at z0 z1 z2 z3 z4
  have HZ := hide (obj_below (obj_new w (.cells #[.int .i64 0, .int .i64 0, .int .i64 0, .int .i64 0, .string ⟨#[]⟩] 63)) hb1)
  have HB1 := hide hb1
  clear hb1 hz
  go_wp2
  refine bodyPost_ret (res_ct rfl _ _ w.heap.size 63 #[.int .i64 0, .int .i64 0, .int .i64 0, .int .i64 0, .string ⟨#[]⟩] _ _ rfl (five_set HZ.out _ _ _ _ _) Try.underlying63 rfl (by kernel_rfl)) rfl ⟨rfl, ?_⟩
  exact five_below (((Below.refl _ _).alloc (Nat.le_refl _) _).trans (HB1.out.mono (by simp))) (Nat.le_refl _)
theorem rDecode_short (s : ByteArray) (w : World) (hs : s.size < 4) :
    Calls Try.prog 50 #[.string s] w fun e w' => e = .returned (.tuple #[.agg #[.int .i64 0, .int .i64 0, .int .i64 0, .int .i64 0, .string ⟨#[]⟩], .int .i64 2]) ∧ Below w.heap.size w w' := by
  go_enter Try.func50, Try.ntmps50
  go_wp2_with fail
  refine (rOpen_short s _ hs).mono ?_
  rintro e w1 ⟨rfl, hb1⟩
  have hz := obj_below (obj_new w _) hb1
  have z0 := obj_cell hz 0
  have f0 := obj_frozen hz 0
  have z1 := obj_cell hz 1
  have f1 := obj_frozen hz 1
  have z2 := obj_cell hz 2
  have f2 := obj_frozen hz 2
  have z3 := obj_cell hz 3
  have f3 := obj_frozen hz 3
  have z4 := obj_cell hz 4
  have f4 := obj_frozen hz 4
  simp only [List.getElem?_toArray, List.getElem?_cons_zero, List.getElem?_cons_succ] at z0 z1 z2 z3 z4
  have HZ := hide (obj_below (obj_new w (.cells #[.int .i64 0, .int .i64 0, .int .i64 0, .int .i64 0, .string ⟨#[]⟩] 63)) hb1)
  have HB1 := hide hb1
  clear hb1 hz
  go_wp2
  refine bodyPost_ret (res_ct rfl _ _ w.heap.size 63 #[.int .i64 0, .int .i64 0, .int .i64 0, .int .i64 0, .string ⟨#[]⟩] _ _ rfl (five_set HZ.out _ _ _ _ _) Try.underlying63 rfl (by kernel_rfl)) rfl ⟨rfl, ?_⟩
  exact five_below (((Below.refl _ _).alloc (Nat.le_refl _) _).trans (HB1.out.mono (by simp))) (Nat.le_refl _)

theorem decV_shape (l : List UInt8) : ∃ k f t i b e, decV l = .tuple #[.agg #[.int .i64 k, .int .i64 f, .int .i64 t, .int .i64 i, .string b], .int .i64 e] := by
  unfold decV
  split
  · exact ⟨_, _, _, _, _, _, rfl⟩
  · unfold decR
    split
    · exact ⟨_, _, _, _, _, _, rfl⟩
    · exact ⟨_, _, _, _, _, _, rfl⟩

/-- The example, called. -/
def Awake12 : Prop := ∀ w : World, Calls Try.prog 48 #[] w fun e w' => e = .returned (.bool true) ∧ Below w.heap.size w w'
theorem dec2 {w w1 w2 : World} {o o2 : Obj} (h1 : Below w.heap.size w w1) (h2 : Below (w1.alloc o).heap.size (w1.alloc o) w2) : Below w.heap.size w (w2.alloc o2) :=
  ((h1.alloc h1.size o).trans (h2.mono (by simp; have := h1.size; omega))).alloc (by have := h1.size; have := h2.size; simp at this; omega) o2
theorem decodes_mid (ha : Awake12) (s : ByteArray) (w : World) (h4 : 4 ≤ s.size) (hs : s.size ≤ 10000) :
    Calls Try.prog 8 #[.string s] w fun e w' => e = .returned (.bool true) ∧ Below w.heap.size w w' := by
  have HA := hide ha
  clear ha
  obtain ⟨k, f, t, i, b, e, he⟩ := decV_shape s.data.toList
  have HE := hide he
  clear he
  go_enter Try.func8, Try.ntmps8
  go_wp2_with fail
  refine (decode_any s _ h4 (by omega)).mono ?_
  rintro e w1 ⟨rfl, hb1⟩
  rw [HE.out]
  have HB1 := hide hb1
  clear hb1
  go_wp2_with fail
  refine (rDecode_any s _ h4 (by omega)).mono ?_
  rintro e w2 ⟨rfl, hb2⟩
  rw [HE.out]
  have hm := obj_below (obj_new w1 _) hb2
  have z0 := obj_cell hm 0
  have z1 := obj_cell hm 1
  have z2 := obj_cell hm 2
  have z3 := obj_cell hm 3
  have z4 := obj_cell hm 4
  simp only [List.getElem?_toArray, List.getElem?_cons_zero, List.getElem?_cons_succ] at z0 z1 z2 z3 z4
  have hlt := obj_lt hm
  have HB2 := hide hb2
  clear hb2 hm
  go_wp2_with fail
  refine (HA.out _).mono ?_
  rintro e w3 ⟨rfl, hb3⟩
  go_wp2
  go_ret
  refine ⟨rfl, ?_⟩
  exact (dec2 HB1.out HB2.out).trans (hb3.mono (by simp; have := HB1.out.size; have := HB2.out.size; simp at this; omega))
theorem decodes_short (ha : Awake12) (s : ByteArray) (w : World) (h4 : s.size < 4) :
    Calls Try.prog 8 #[.string s] w fun e w' => e = .returned (.bool true) ∧ Below w.heap.size w w' := by
  have HA := hide ha
  clear ha
  go_enter Try.func8, Try.ntmps8
  go_wp2_with fail
  refine (decode_short s _ h4).mono ?_
  rintro e w1 ⟨rfl, hb1⟩
  have HB1 := hide hb1
  clear hb1
  go_wp2_with fail
  refine (rDecode_short s _ h4).mono ?_
  rintro e w2 ⟨rfl, hb2⟩
  have hm := obj_below (obj_new w1 _) hb2
  have z0 := obj_cell hm 0
  have z1 := obj_cell hm 1
  have z2 := obj_cell hm 2
  have z3 := obj_cell hm 3
  have z4 := obj_cell hm 4
  simp only [List.getElem?_toArray, List.getElem?_cons_zero, List.getElem?_cons_succ] at z0 z1 z2 z3 z4
  have hlt := obj_lt hm
  have HB2 := hide hb2
  clear hb2 hm
  go_wp2_with fail
  refine (HA.out _).mono ?_
  rintro e w3 ⟨rfl, hb3⟩
  go_wp2
  go_ret
  refine ⟨rfl, ?_⟩
  exact (dec2 HB1.out HB2.out).trans (hb3.mono (by simp; have := HB1.out.size; have := HB2.out.size; simp at this; omega))
theorem decodes_far (ha : Awake12) (s : ByteArray) (w : World) (h4 : 10000 < s.size) :
    Calls Try.prog 8 #[.string s] w fun e w' => e = .returned (.bool true) ∧ Below w.heap.size w w' := by
  have HA := hide ha
  clear ha
  go_enter Try.func8, Try.ntmps8
  go_wp2_with fail
  refine (HA.out _).mono ?_
  rintro e w3 ⟨rfl, hb3⟩
  go_wp2
  go_ret
  exact ⟨rfl, hb3⟩
theorem decodes_walk (ha : Awake12) (s : ByteArray) (w : World) :
    Calls Try.prog 8 #[.string s] w fun e w' => e = .returned (.bool true) ∧ Below w.heap.size w w' := by
  rcases Nat.lt_or_ge s.size 4 with h | h
  · exact decodes_short ha s w h
  · rcases Nat.lt_or_ge 10000 s.size with h2 | h2
    · exact decodes_far ha s w h2
    · exact decodes_mid ha s w h h2
end Go.Proofs.Ytljmaicobafgkaa
