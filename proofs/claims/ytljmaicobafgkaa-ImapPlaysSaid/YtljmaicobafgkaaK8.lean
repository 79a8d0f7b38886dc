/- A join of 2 texts of this claim: Ref12, Pure. Conditions: none of their own. -/
import Derived.Test.YtljmaicobafgkaaK5
import Derived.Test.YtljmaicobafgkaaK7
import Derived.Test.YtljmaicobafgkaaK2
section
/- The walks of the reference of layer 12. -/
namespace Go.Proofs.Ytljmaicobafgkaa
open Go.RowKit

set_option maxRecDepth 100000 in
theorem rCheck_any (k f t i : Int) (b : ByteArray) (w : World) (hb : b.size ≤ 9223372036854775807) :
    Calls Try.prog 47 #[.agg #[.int .i64 k, .int .i64 f, .int .i64 t, .int .i64 i, .string b]] w fun e w' => e = .returned (.int .i64 (chk k f t i b.size)) ∧ Below w.heap.size w w' := by
  by_cases h0 : k < 1
  · have hv : chk k f t i b.size = 1 := if_neg (by unfold msgOk; omega)
    rw [hv]
    clear hv
    go_enter Try.func47, Try.ntmps47
    go_wp2
    go_ret
    exact ⟨rfl, (Below.refl _ _).alloc (Nat.le_refl _) _⟩
  by_cases h1 : 99 < k
  · have hv : chk k f t i b.size = 1 := if_neg (by unfold msgOk; omega)
    rw [hv]
    clear hv
    go_enter Try.func47, Try.ntmps47
    go_wp2
    go_ret
    exact ⟨rfl, (Below.refl _ _).alloc (Nat.le_refl _) _⟩
  by_cases h2 : f < 0
  · have hv : chk k f t i b.size = 1 := if_neg (by unfold msgOk; omega)
    rw [hv]
    clear hv
    go_enter Try.func47, Try.ntmps47
    go_wp2
    go_ret
    exact ⟨rfl, (Below.refl _ _).alloc (Nat.le_refl _) _⟩
  by_cases h3 : 63 < f
  · have hv : chk k f t i b.size = 1 := if_neg (by unfold msgOk; omega)
    rw [hv]
    clear hv
    go_enter Try.func47, Try.ntmps47
    go_wp2
    go_ret
    exact ⟨rfl, (Below.refl _ _).alloc (Nat.le_refl _) _⟩
  by_cases h4 : t < 0
  · have hv : chk k f t i b.size = 1 := if_neg (by unfold msgOk; omega)
    rw [hv]
    clear hv
    go_enter Try.func47, Try.ntmps47
    go_wp2
    go_ret
    exact ⟨rfl, (Below.refl _ _).alloc (Nat.le_refl _) _⟩
  by_cases h5 : 63 < t
  · have hv : chk k f t i b.size = 1 := if_neg (by unfold msgOk; omega)
    rw [hv]
    clear hv
    go_enter Try.func47, Try.ntmps47
    go_wp2
    go_ret
    exact ⟨rfl, (Below.refl _ _).alloc (Nat.le_refl _) _⟩
  by_cases h6 : i < 0
  · have hv : chk k f t i b.size = 1 := if_neg (by unfold msgOk; omega)
    rw [hv]
    clear hv
    go_enter Try.func47, Try.ntmps47
    go_wp2
    go_ret
    exact ⟨rfl, (Below.refl _ _).alloc (Nat.le_refl _) _⟩
  by_cases h7 : 2147483648 ≤ i
  · have hv : chk k f t i b.size = 1 := if_neg (by unfold msgOk; omega)
    rw [hv]
    clear hv
    go_enter Try.func47, Try.ntmps47
    go_wp2
    go_ret
    exact ⟨rfl, (Below.refl _ _).alloc (Nat.le_refl _) _⟩
  by_cases h8 : 4096 < b.size
  · have hv : chk k f t i b.size = 2 := by unfold chk; rw [if_pos (by unfold msgOk; omega), if_pos h8]
    rw [hv]
    clear hv
    go_enter Try.func47, Try.ntmps47
    go_wp2
    go_ret
    exact ⟨rfl, (Below.refl _ _).alloc (Nat.le_refl _) _⟩
  · have hv : chk k f t i b.size = 0 := by unfold chk; rw [if_pos (by unfold msgOk; omega), if_neg h8]
    rw [hv]
    clear hv
    go_enter Try.func47, Try.ntmps47
    go_wp2
    go_ret
    exact ⟨rfl, (Below.refl _ _).alloc (Nat.le_refl _) _⟩


theorem rEncode_bad (kd fr tt id : Int) (b : ByteArray) (w : World) (hb : b.size ≤ 9223372036854775807) (hm : chk kd fr tt id b.size ≠ 0) :
    Calls Try.prog 45 #[.agg #[.int .i64 kd, .int .i64 fr, .int .i64 tt, .int .i64 id, .string b]] w fun e w' => e = .returned (.tuple #[.string ⟨#[]⟩, .int .i64 (chk kd fr tt id b.size)]) ∧ Below w.heap.size w w' := by
  obtain ⟨c, hc⟩ : ∃ c, c = chk kd fr tt id b.size := ⟨_, rfl⟩
  rw [← hc] at hm ⊢
  have HC := hide hc
  have hne : (c == 0) = false := by simp [hm]
  have hne2 : (c != 0) = true := by simp [hm]
  clear hc hm
  go_enter Try.func45, Try.ntmps45
  go_wp2_with fail
  refine (rCheck_any kd fr tt id b _ hb).mono ?_
  rintro e w1 ⟨rfl, hb1⟩
  rw [← HC.out]
  have HB1 := hide hb1
  clear hb1
  go_wp2
  go_ret2
  exact ⟨rfl, ((Below.refl _ _).alloc (Nat.le_refl _) _).trans (HB1.out.mono (by simp))⟩
theorem rdr_shape (σ : Option (List UInt8)) : ∃ (s : ByteArray) (b : Bool), rdrCells σ = #[.string s, .bool b] := by cases σ <;> exact ⟨_, _, rfl⟩
set_option maxHeartbeats 4000000 in
set_option maxRecDepth 100000 in
theorem rDecode_any (s : ByteArray) (w : World) (h4 : 4 ≤ s.size) (hs : s.size ≤ 1073741824) :
    Calls Try.prog 50 #[.string s] w fun e w' => e = .returned (decV s.data.toList) ∧ Below w.heap.size w w' := by
  rcases ho : openL s.data.toList with _ | t
  · have hv : openV s.data.toList = .tuple #[.string ⟨#[]⟩, .int .i64 4] := by unfold openV; rw [ho]
    have hd : decV s.data.toList = .tuple #[.agg #[.int .i64 0, .int .i64 0, .int .i64 0, .int .i64 0, .string ⟨#[]⟩], .int .i64 4] := by unfold decV; rw [ho]; rfl
    have HV := hide hv
    rw [hd]
    clear ho hd hv
    go_enter Try.func50, Try.ntmps50
    go_wp2_with fail
    refine (rOpen_long s _ h4 (by omega)).mono ?_
    rintro e w1 ⟨rfl, hb1⟩
    rw [HV.out]
    have hz := obj_below (obj_new w _) hb1
    have z0 := obj_cell hz 0
    have f0 := obj_frozen hz 0
    have z1 := obj_cell hz 1
    have f1 := obj_frozen hz 1
    have z2 := obj_cell hz 2
    have f2 := obj_frozen hz 2
    have z3 := obj_cell hz 3
    have f3 := obj_frozen hz 3
    have z4 := obj_cell hz 4
    have f4 := obj_frozen hz 4
    simp only [List.getElem?_toArray, List.getElem?_cons_zero, List.getElem?_cons_succ] at z0 z1 z2 z3 z4
    have HZ := hide (obj_below (obj_new w (.cells #[.int .i64 0, .int .i64 0, .int .i64 0, .int .i64 0, .string ⟨#[]⟩] 63)) hb1)
    have HB1 := hide hb1
    clear hb1 hz
    go_wp2
    refine bodyPost_ret (res_ct rfl _ _ w.heap.size 63 #[.int .i64 0, .int .i64 0, .int .i64 0, .int .i64 0, .string ⟨#[]⟩] _ _ rfl (five_set HZ.out _ _ _ _ _) Try.underlying63 rfl (by kernel_rfl)) rfl ⟨rfl, ?_⟩
    exact five_below (((Below.refl _ _).alloc (Nat.le_refl _) _).trans (HB1.out.mono (by simp))) (Nat.le_refl _)
  · have hv : openV s.data.toList = .tuple #[.string ⟨t.toArray⟩, .int .i64 0] := by unfold openV; rw [ho]
    have hd : decV s.data.toList = decR t := by unfold decV; rw [ho]
    have htl : t.length ≤ 1073741824 := by
      unfold openL at ho
      split at ho
      · simp only [Option.some.injEq] at ho
        rw [← ho, List.length_take]
        have := size_list s
        omega
      · cases ho
    have HV := hide hv
    have hlen := dσ_len t _ htl
    have HLen := hide hlen
    rw [hd]
    clear ho hd hv hlen
    obtain ⟨s1, b1, hs1⟩ := rdr_shape (rByte (some t)).2
    have HS1 := hide hs1
    clear hs1
    obtain ⟨s2, b2, hs2⟩ := rdr_shape (rByte (d1 t)).2
    have HS2 := hide hs2
    clear hs2
    obtain ⟨s3, b3, hs3⟩ := rdr_shape (rByte (d2 t)).2
    have HS3 := hide hs3
    clear hs3
    obtain ⟨s4, b4, hs4⟩ := rdr_shape (rInt (d3 t)).2
    have HS4 := hide hs4
    clear hs4
    obtain ⟨s5, b5, hs5⟩ := rdr_shape (rText (d4 t)).2
    have HS5 := hide hs5
    clear hs5
    go_enter Try.func50, Try.ntmps50
    go_wp2_with fail
    refine (rOpen_long s _ h4 (by omega)).mono ?_
    rintro e w1 ⟨rfl, hb1⟩
    rw [HV.out]
    have HZ0 := hide (obj_below (obj_new w (.cells #[.int .i64 0, .int .i64 0, .int .i64 0, .int .i64 0, .string ⟨#[]⟩] 63)) hb1)
    have HB0 := hide (((Below.refl w.heap.size w).alloc (Nat.le_refl _) (.cells #[.int .i64 0, .int .i64 0, .int .i64 0, .int .i64 0, .string ⟨#[]⟩] 63)).trans (hb1.mono (by simp)))
    have hsz := hb1.size
    simp only [World.size_alloc] at hsz
    have hbx := obj_new w1 (.cells #[.string ⟨t.toArray⟩, .bool false] 184)
    have HX0 := hide hbx
    have HZA := hide (obj_alloc HZ0.out (.cells #[.string ⟨t.toArray⟩, .bool false] 184))
    have HBA := hide (HB0.out.alloc (by omega) (.cells #[.string ⟨t.toArray⟩, .bool false] 184))
    have hne : w.heap.size ≠ w1.heap.size := by omega
    have hge : w.heap.size ≤ w1.heap.size := by omega
    clear hb1 hbx
    go_wp2_with fail
    refine (r3TakeByte_any (some t) _).mono ?_
    rintro e v1 ⟨rfl, hb1⟩
    have hx1 := obj_below HX0.out hb1
    have x01 := obj_cell hx1 0
    have x11 := obj_cell hx1 1
    have g01 := obj_frozen hx1 0
    have g11 := obj_frozen hx1 1
    simp only [List.getElem?_toArray, List.getElem?_cons_zero, List.getElem?_cons_succ] at x01 x11
    have HXv1 := hide hx1
    have hl1 : w1.heap.size < v1.heap.size := obj_lt hx1
    have HZv1 := hide (obj_below HZA.out hb1)
    have HBv1 := hide (HBA.out.trans (hb1.mono HBA.out.size))
    have HXs1 := hide (set_two _ _ _ _ (.string s1) (.bool b1) HXv1.out)
    have HZs1 := hide (obj_far (obj_far HZv1.out (p := ⟨w1.heap.size, 0, none⟩) hne (.string s1)) (p := ⟨w1.heap.size, 1, none⟩) hne (.bool b1))
    have HBs1 := hide ((HBv1.out.setCell (p := ⟨w1.heap.size, 0, none⟩) hge (.string s1)).setCell (p := ⟨w1.heap.size, 1, none⟩) hge (.bool b1))
    clear hx1 hb1
    rw [HS1.out]
    go_wp2_with fail
    rw [← HS1.out]
    refine (r3TakeByte_any (d1 t) _).mono ?_
    rintro e v2 ⟨rfl, hb2⟩
    rw [HS1.out]
    have hx2 := obj_below HXs1.out hb2
    have x02 := obj_cell hx2 0
    have x12 := obj_cell hx2 1
    have g02 := obj_frozen hx2 0
    have g12 := obj_frozen hx2 1
    simp only [List.getElem?_toArray, List.getElem?_cons_zero, List.getElem?_cons_succ] at x02 x12
    have HXv2 := hide hx2
    have hl2 : w1.heap.size < v2.heap.size := obj_lt hx2
    have HZv2 := hide (obj_below HZs1.out hb2)
    have HBv2 := hide (HBs1.out.trans (hb2.mono HBs1.out.size))
    have HXs2 := hide (set_two _ _ _ _ (.string s2) (.bool b2) HXv2.out)
    have HZs2 := hide (obj_far (obj_far HZv2.out (p := ⟨w1.heap.size, 0, none⟩) hne (.string s2)) (p := ⟨w1.heap.size, 1, none⟩) hne (.bool b2))
    have HBs2 := hide ((HBv2.out.setCell (p := ⟨w1.heap.size, 0, none⟩) hge (.string s2)).setCell (p := ⟨w1.heap.size, 1, none⟩) hge (.bool b2))
    clear hx2 hb2
    rw [HS2.out]
    go_wp2_with fail
    rw [← HS2.out]
    refine (r3TakeByte_any (d2 t) _).mono ?_
    rintro e v3 ⟨rfl, hb3⟩
    rw [HS2.out]
    have hx3 := obj_below HXs2.out hb3
    have x03 := obj_cell hx3 0
    have x13 := obj_cell hx3 1
    have g03 := obj_frozen hx3 0
    have g13 := obj_frozen hx3 1
    simp only [List.getElem?_toArray, List.getElem?_cons_zero, List.getElem?_cons_succ] at x03 x13
    have HXv3 := hide hx3
    have hl3 : w1.heap.size < v3.heap.size := obj_lt hx3
    have HZv3 := hide (obj_below HZs2.out hb3)
    have HBv3 := hide (HBs2.out.trans (hb3.mono HBs2.out.size))
    have HXs3 := hide (set_two _ _ _ _ (.string s3) (.bool b3) HXv3.out)
    have HZs3 := hide (obj_far (obj_far HZv3.out (p := ⟨w1.heap.size, 0, none⟩) hne (.string s3)) (p := ⟨w1.heap.size, 1, none⟩) hne (.bool b3))
    have HBs3 := hide ((HBv3.out.setCell (p := ⟨w1.heap.size, 0, none⟩) hge (.string s3)).setCell (p := ⟨w1.heap.size, 1, none⟩) hge (.bool b3))
    clear hx3 hb3
    rw [HS3.out]
    go_wp2_with fail
    rw [← HS3.out]
    refine (r3TakeInt_any (d3 t) _ (HLen.out 3 (by omega))).mono ?_
    rintro e v4 ⟨rfl, hb4⟩
    rw [HS3.out]
    have hx4 := obj_below HXs3.out hb4
    have x04 := obj_cell hx4 0
    have x14 := obj_cell hx4 1
    have g04 := obj_frozen hx4 0
    have g14 := obj_frozen hx4 1
    simp only [List.getElem?_toArray, List.getElem?_cons_zero, List.getElem?_cons_succ] at x04 x14
    have HXv4 := hide hx4
    have hl4 : w1.heap.size < v4.heap.size := obj_lt hx4
    have HZv4 := hide (obj_below HZs3.out hb4)
    have HBv4 := hide (HBs3.out.trans (hb4.mono HBs3.out.size))
    have HXs4 := hide (set_two _ _ _ _ (.string s4) (.bool b4) HXv4.out)
    have HZs4 := hide (obj_far (obj_far HZv4.out (p := ⟨w1.heap.size, 0, none⟩) hne (.string s4)) (p := ⟨w1.heap.size, 1, none⟩) hne (.bool b4))
    have HBs4 := hide ((HBv4.out.setCell (p := ⟨w1.heap.size, 0, none⟩) hge (.string s4)).setCell (p := ⟨w1.heap.size, 1, none⟩) hge (.bool b4))
    clear hx4 hb4
    rw [HS4.out]
    go_wp2_with fail
    rw [← HS4.out]
    refine (r3TakeText_any (d4 t) _ (HLen.out 4 (by omega))).mono ?_
    rintro e v5 ⟨rfl, hb5⟩
    rw [HS4.out]
    have hx5 := obj_below HXs4.out hb5
    have x05 := obj_cell hx5 0
    have x15 := obj_cell hx5 1
    have g05 := obj_frozen hx5 0
    have g15 := obj_frozen hx5 1
    simp only [List.getElem?_toArray, List.getElem?_cons_zero, List.getElem?_cons_succ] at x05 x15
    have HXv5 := hide hx5
    have hl5 : w1.heap.size < v5.heap.size := obj_lt hx5
    have HZv5 := hide (obj_below HZs4.out hb5)
    have HBv5 := hide (HBs4.out.trans (hb5.mono HBs4.out.size))
    have HXs5 := hide (set_two _ _ _ _ (.string s5) (.bool b5) HXv5.out)
    have HZs5 := hide (obj_far (obj_far HZv5.out (p := ⟨w1.heap.size, 0, none⟩) hne (.string s5)) (p := ⟨w1.heap.size, 1, none⟩) hne (.bool b5))
    have HBs5 := hide ((HBv5.out.setCell (p := ⟨w1.heap.size, 0, none⟩) hge (.string s5)).setCell (p := ⟨w1.heap.size, 1, none⟩) hge (.bool b5))
    clear hx5 hb5
    rw [HS5.out]
    have HM6 := hide (obj_new ((v5.setCell ⟨w1.heap.size, 0, none⟩ (.string s5)).setCell ⟨w1.heap.size, 1, none⟩ (.bool b5)) (.cells #[.int .i64 (rByte (some t)).1, .int .i64 (rByte (d1 t)).1, .int .i64 (rByte (d2 t)).1, .int .i64 (rInt (d3 t)).1, .string ⟨(rText (d4 t)).1.toArray⟩] 63))
    have HZ6 := hide (obj_alloc HZs5.out (.cells #[.int .i64 (rByte (some t)).1, .int .i64 (rByte (d1 t)).1, .int .i64 (rByte (d2 t)).1, .int .i64 (rInt (d3 t)).1, .string ⟨(rText (d4 t)).1.toArray⟩] 63))
    have HB6 := hide (HBs5.out.alloc HBs5.out.size (.cells #[.int .i64 (rByte (some t)).1, .int .i64 (rByte (d1 t)).1, .int .i64 (rByte (d2 t)).1, .int .i64 (rInt (d3 t)).1, .string ⟨(rText (d4 t)).1.toArray⟩] 63))
    clear x01 x02 x03 x04 x11 x12 x13 x14 g01 g02 g03 g04 g11 g12 g13 g14
    go_wp2_with fail
    rw [← HS5.out]
    refine (end_any (d5 t) _).mono ?_
    rintro e u1 ⟨rfl, hb6⟩
    rw [HS5.out]
    have hmsz : ((v5.setCell ⟨w1.heap.size, 0, none⟩ (.string s5)).setCell ⟨w1.heap.size, 1, none⟩ (.bool b5)).heap.size = v5.heap.size := by simp [World.setCell]
    have hm := obj_below HM6.out hb6
    rw [hmsz] at hm
    have HM7 := hide hm
    have HZ7 := hide (obj_below HZ6.out hb6)
    have HB7 := hide (HB6.out.trans (hb6.mono HB6.out.size))
    clear hb6 hmsz hm
    by_cases hdone : d5 t = some []
    · rw [show rDone (d5 t) = 0 from by rw [hdone]; rfl]
      · have hm := HM7.out
        have m0 := obj_cell hm 0
        have m1 := obj_cell hm 1
        have m2 := obj_cell hm 2
        have m3 := obj_cell hm 3
        have m4 := obj_cell hm 4
        simp only [List.getElem?_toArray, List.getElem?_cons_zero, List.getElem?_cons_succ] at m0 m1 m2 m3 m4
        have HD := hide hdone
        clear hm hdone
        go_wp2_with fail
        refine (rCheck_any (dK t) (dF t) (dT t) (dI t) ⟨(dB t).toArray⟩ _ (by rw [str_size]; have := rText_len t (HLen.out 4 (by omega)); unfold dB; omega)).mono ?_
        rintro e w5 ⟨rfl, hb5⟩
        have HM5 := hide (obj_below HM7.out hb5)
        have HB5 := hide (HB7.out.trans (hb5.mono HB7.out.size))
        have HZ5 := hide (obj_below HZ7.out hb5)
        clear hb5 m0 m1 m2 m3 m4
        have hm := HM5.out
        have hz := HZ5.out
        have m0 := obj_cell hm 0
        have m1 := obj_cell hm 1
        have m2 := obj_cell hm 2
        have m3 := obj_cell hm 3
        have m4 := obj_cell hm 4
        have z0 := obj_cell hz 0
        have f0 := obj_frozen hz 0
        have z1 := obj_cell hz 1
        have f1 := obj_frozen hz 1
        have z2 := obj_cell hz 2
        have f2 := obj_frozen hz 2
        have z3 := obj_cell hz 3
        have f3 := obj_frozen hz 3
        have z4 := obj_cell hz 4
        have f4 := obj_frozen hz 4
        simp only [List.getElem?_toArray, List.getElem?_cons_zero, List.getElem?_cons_succ] at m0 m1 m2 m3 m4 z0 z1 z2 z3 z4
        clear hm hz
        by_cases hch : chk (dK t) (dF t) (dT t) (dI t) (dB t).length = 0
        · have HOK := hide (show dOk t from ⟨HD.out, hch⟩)
          rw [show chk (dK t) (dF t) (dT t) (dI t) (⟨(dB t).toArray⟩ : ByteArray).size = 0 from hch]
          clear hch
          go_wp2
          rw [decR_ok HOK.out]
          refine bodyPost_ret (res_ct rfl _ _ w.heap.size 63 (dCells t 5) _ _ rfl (five_set (a := .int .i64 0) (b := .int .i64 0) (c := .int .i64 0) (d := .int .i64 0) (e := .string ⟨#[]⟩) HZ5.out _ _ _ _ _) Try.underlying63 rfl (by kernel_rfl)) rfl ⟨rfl, ?_⟩
          exact five_below HB5.out (Nat.le_refl _)
        · have HOK := hide (show ¬ dOk t from fun h => hch h.2)
          obtain ⟨c, hc⟩ : ∃ c, c = chk (dK t) (dF t) (dT t) (dI t) (dB t).length := ⟨_, rfl⟩
          rw [show chk (dK t) (dF t) (dT t) (dI t) (⟨(dB t).toArray⟩ : ByteArray).size = c from hc.symm]
          rw [← hc] at hch
          have hch1 : (c != 0) = true := by simp [hch]
          clear hch hc
          go_wp2
          rw [decR_no HOK.out]
          refine bodyPost_ret (res_ct rfl _ _ w.heap.size 63 (dCells [] 0) _ _ rfl (five_set (a := .int .i64 0) (b := .int .i64 0) (c := .int .i64 0) (d := .int .i64 0) (e := .string ⟨#[]⟩) HZ5.out _ _ _ _ _) Try.underlying63 rfl (by kernel_rfl)) rfl ⟨rfl, ?_⟩
          exact five_below HB5.out (Nat.le_refl _)
    · rw [show rDone (d5 t) = 3 from by unfold rDone; rw [if_neg hdone]]
      have HOK := hide (show ¬ dOk t from fun h => hdone h.1)
      have hz := HZ7.out
      have z0 := obj_cell hz 0
      have f0 := obj_frozen hz 0
      have z1 := obj_cell hz 1
      have f1 := obj_frozen hz 1
      have z2 := obj_cell hz 2
      have f2 := obj_frozen hz 2
      have z3 := obj_cell hz 3
      have f3 := obj_frozen hz 3
      have z4 := obj_cell hz 4
      have f4 := obj_frozen hz 4
      simp only [List.getElem?_toArray, List.getElem?_cons_zero, List.getElem?_cons_succ] at z0 z1 z2 z3 z4
      clear hz hdone
      go_wp2
      rw [decR_no HOK.out]
      refine bodyPost_ret (res_ct rfl _ _ w.heap.size 63 (dCells [] 0) _ _ rfl (five_set (a := .int .i64 0) (b := .int .i64 0) (c := .int .i64 0) (d := .int .i64 0) (e := .string ⟨#[]⟩) HZ7.out _ _ _ _ _) Try.underlying63 rfl (by kernel_rfl)) rfl ⟨rfl, ?_⟩
      exact five_below HB7.out (Nat.le_refl _)
end Go.Proofs.Ytljmaicobafgkaa
end
section
/- Plain facts on numbers as bytes: there and back. -/
namespace Go.Proofs.Ytljmaicobafgkaa
open Go.RowKit

theorem gStep_add (u m k : Nat) (b : UInt8) (hm : b.toNat % 128 = m) (hu : u < 2 ^ (7 * k)) (hfit : u + m * 2 ^ (7 * k) < 18446744073709551616) : gStep (u : Int) b k = ((u + m * 2 ^ (7 * k) : Nat) : Int) := by
  unfold gStep
  rw [wr_byte]
  have h1 : bits .and .u64 (b.toNat : Int) 127 = (m : Int) := by
    show IntKind.u64.wrap ((BitVec.ofInt 64 (b.toNat : Int) &&& BitVec.ofInt 64 127).toNat : Int) = _
    have h : (BitVec.ofInt 64 (b.toNat : Int) &&& BitVec.ofInt 64 127).toNat = m := by
      rw [BitVec.toNat_and, BitVec.ofInt_natCast, BitVec.toNat_ofNat, show (BitVec.ofInt 64 127).toNat = 2 ^ 7 - 1 from by decide, Nat.and_two_pow_sub_one_eq_mod]
      have := b.toNat_lt
      omega
    rw [h]
    show (m : Int) % 18446744073709551616 = _
    omega
  rw [h1]
  have hp : ((m : Int) * 2 ^ (7 * k)) = ((m * 2 ^ (7 * k) : Nat) : Int) := by simp
  have hw : IntKind.u64.wrap ((m : Int) * 2 ^ (7 * k)) = ((m * 2 ^ (7 * k) : Nat) : Int) := by
    rw [hp]
    show ((m * 2 ^ (7 * k) : Nat) : Int) % 18446744073709551616 = _
    omega
  rw [hw]
  show IntKind.u64.wrap ((BitVec.ofInt 64 (u : Int) ||| BitVec.ofInt 64 ((m * 2 ^ (7 * k) : Nat) : Int)).toNat : Int) = _
  have h : (BitVec.ofInt 64 (u : Int) ||| BitVec.ofInt 64 ((m * 2 ^ (7 * k) : Nat) : Int)).toNat = u + m * 2 ^ (7 * k) := by
    rw [BitVec.toNat_or, BitVec.ofInt_natCast, BitVec.toNat_ofNat, BitVec.ofInt_natCast, BitVec.toNat_ofNat, Nat.mod_eq_of_lt (by omega), Nat.mod_eq_of_lt (by omega), Nat.mul_comm m, Nat.or_comm, ← Nat.two_pow_add_eq_or_of_lt hu, Nat.add_comm]
  rw [h]
  show ((u + m * 2 ^ (7 * k) : Nat) : Int) % 18446744073709551616 = _
  omega

/-- A number's bytes, with whatever behind them, are that number. -/
theorem grpR_num (r : List UInt8) : ∀ (n v k u : Nat), v < 128 ^ n → u < 2 ^ (7 * k) → u + v * 2 ^ (7 * k) < 18446744073709551616 → (0 < k → 0 < v) → k < 10 →
    grpR (numN v ++ r) k (u : Int) = some (((u + v * 2 ^ (7 * k) : Nat) : Int), k + (numN v).length)
  | 0, v, k, u, hv, hu, hf, hk, h10 => by
    obtain rfl : v = 0 := by simpa using hv
    have hk0 : k = 0 := by
      rcases Nat.eq_zero_or_pos k with h | h
      · exact h
      · exact absurd (hk h) (by omega)
    subst hk0
    have hu0 : u = 0 := by simpa using hu
    subst hu0
    rw [numN_small (by omega)]
    show grpR (UInt8.ofNat 0 :: r) 0 0 = _
    rw [grpR, if_neg (by omega), if_neg (by decide), if_neg (by decide)]
    have := gStep_add 0 0 0 (UInt8.ofNat 0) (by decide) (by decide) (by decide)
    simp only [Int.cast_ofNat_Int] at this
    rw [this]
    rfl
  | n + 1, v, k, u, hv, hu, hf, hk, h10 => by
    have hpos : 0 < 2 ^ (7 * k) := Nat.two_pow_pos _
    by_cases hsm : v < 128
    · rw [numN_small hsm]
      show grpR (UInt8.ofNat v :: r) k u = _
      have hb : (UInt8.ofNat v).toNat = v := by simp only [UInt8.toNat_ofNat']; omega
      have hbad : ¬ ((0 < k ∧ (UInt8.ofNat v).toNat = 0) ∨ (k = 9 ∧ 1 < (UInt8.ofNat v).toNat)) := by
        rw [hb]
        rintro (⟨a, c⟩ | ⟨rfl, c⟩)
        · have := hk a
          omega
        · have h2 : 2 * 2 ^ (7 * 9) ≤ v * 2 ^ (7 * 9) := Nat.mul_le_mul_right _ (by omega)
          have h3 : 2 * 2 ^ (7 * 9) = 18446744073709551616 := by decide
          omega
      rw [grpR, if_neg (by omega), if_neg (by rw [hb]; omega), if_neg hbad, gStep_add u v k _ (by rw [hb]; omega) hu hf]
      rfl
    · rw [numN_large hsm]
      show grpR (UInt8.ofNat (v % 128 + 128) :: (numN (v / 128) ++ r)) k u = _
      have hb : (UInt8.ofNat (v % 128 + 128)).toNat = v % 128 + 128 := by simp only [UInt8.toNat_ofNat']; omega
      have e1 : 2 ^ (7 * (k + 1)) = 128 * 2 ^ (7 * k) := by rw [show 7 * (k + 1) = 7 * k + 7 from by omega, Nat.pow_add]; omega
      have e2 : v * 2 ^ (7 * k) = v % 128 * 2 ^ (7 * k) + v / 128 * 2 ^ (7 * (k + 1)) := by
        rw [e1, ← Nat.mul_assoc, ← Nat.add_mul]
        congr 1
        omega
      have h9 : k < 9 := by
        rcases Nat.lt_or_ge k 9 with h | h
        · exact h
        · have hk9 : k = 9 := by omega
          subst hk9
          have h2 : 128 * 2 ^ (7 * 9) ≤ v * 2 ^ (7 * 9) := Nat.mul_le_mul_right _ (by omega)
          have h3 : 128 * 2 ^ (7 * 9) = 1180591620717411303424 := by decide
          omega
      have hle : u + v % 128 * 2 ^ (7 * k) < 2 ^ (7 * (k + 1)) := by
        rw [e1]
        have : v % 128 * 2 ^ (7 * k) ≤ 127 * 2 ^ (7 * k) := Nat.mul_le_mul_right _ (by omega)
        omega
      rw [grpR, if_neg (by omega), if_pos (by rw [hb]; omega), gStep_add u (v % 128) k _ (by rw [hb]; omega) hu (by omega)]
      rw [grpR_num r n (v / 128) (k + 1) (u + v % 128 * 2 ^ (7 * k)) (by rw [Nat.pow_succ] at hv; exact Nat.div_lt_of_lt_mul (by rw [Nat.mul_comm]; exact hv)) hle (by omega) (fun _ => by omega) (by omega)]
      rw [List.length_cons, e2]
      simp only [Option.some.injEq, Prod.mk.injEq]
      exact ⟨by omega, by omega⟩

theorem unz_zz (n : Int) : unz (zz n : Int) = n := by
  unfold unz zz
  split <;> split <;> omega
theorem rInt_num (n : Int) (r : List UInt8) (h0 : -9223372036854775808 ≤ n) (h1 : n ≤ 9223372036854775807) : rInt (some (num n ++ r)) = (n, some r) := by
  have hz := zz_lt n h0 h1
  have h := grpR_num r 10 (zz n) 0 0 (Nat.lt_of_lt_of_le hz (by decide)) (by decide) (by simpa using hz) (fun h => absurd h (by decide)) (by decide)
  have h' : grpR (num n ++ r) 0 0 = some ((zz n : Int), (num n).length) := by
    simpa [num] using h
  simp only [rInt, h', unz_zz]
  simp
theorem rText_text (l r : List UInt8) (h : l.length ≤ 1073741824) : rText (some (textB l ++ r)) = (l, some r) := by
  have hi : rInt (some (textB l ++ r)) = ((l.length : Int), some (l ++ r)) := by
    unfold textB
    rw [List.append_assoc]
    exact rInt_num _ _ (by omega) (by omega)
  unfold rText
  rw [hi]
  simp
  omega
end Go.Proofs.Ytljmaicobafgkaa
end
