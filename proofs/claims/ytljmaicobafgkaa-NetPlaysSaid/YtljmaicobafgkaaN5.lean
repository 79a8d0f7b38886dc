/- A join of 5 texts of this claim: Ref3b, Ref12, Pure, FrLaw, Nt6. Conditions: none of their own. -/
import Derived.Test.YtljmaicobafgkaaN2
import Derived.Test.YtljmaicobafgkaaN1
import Derived.Test.YtljmaicobafgkaaN4
section
/- The walks of the references' takers. -/
namespace Go.Proofs.Ytljmaicobafgkaa
open Go.RowKit

theorem takeInt_none (w : World) :
    Calls Try.prog 114 #[.agg #[.string ⟨#[]⟩, .bool true]] w fun e w' => e = .returned (.tuple #[.agg (rdrCells none), .int .i64 0]) ∧ Below w.heap.size w w' := by
  go_enter Try.func114, Try.ntmps114
  go_wp2
  go_loop [4, 5, 6, 7] (fun q i _ _ => ∃ k : Nat, i = .int .i64 k) (fun _ i _ _ => 10 - (intOf i).toNat)
  case atStart => exact ⟨0, rfl⟩
  case round =>
    obtain ⟨k, rfl⟩ := hrel
    go_wp2_with fail
    refine (bad_any _ _ _).mono ?_
    rintro e w2 ⟨rfl, hb2⟩
    have hbw : Below w.heap.size w ((w.alloc (.cells #[.string ⟨#[]⟩, .bool true] 184)).alloc (.cells #[.string ⟨#[]⟩, .bool false] 184)) := ((Below.refl _ _).alloc (Nat.le_refl _) _).alloc (by simp) _
    have hz := obj_below (obj_new2 w (.cells #[.string ⟨#[]⟩, .bool true] 184) (.cells #[.string ⟨#[]⟩, .bool false] 184)) hb2
    have z0 := obj_cell hz 0
    have z1 := obj_cell hz 1
    have f0 := obj_frozen hz 0
    have f1 := obj_frozen hz 1
    simp only [List.getElem?_toArray, List.getElem?_cons_zero, List.getElem?_cons_succ] at z0 z1
    have HZ := hide hz
    have HB2 := hide (hbw.trans (hb2.mono (by simp; omega)))
    clear hz hb2 hbw
    unfold rdrCells
    go_wp2
    refine bodyPost_ret (res_ct rfl _ _ (w.heap.size + 1) 184 (rdrCells none) _ _ rfl (set_two _ _ _ _ _ _ HZ.out) Try.underlying184 rfl (by kernel_rfl)) rfl ⟨rfl, ?_⟩
    exact (HB2.out.setCell (p := ⟨w.heap.size + 1, 0, none⟩) (by simp) _).setCell (p := ⟨w.heap.size + 1, 1, none⟩) (by simp) _
theorem r3TakeInt_any (σ : Option (List UInt8)) (w : World) (hl : ∀ l, σ = some l → l.length ≤ 1073741824) :
    Calls Try.prog 114 #[.agg (rdrCells σ)] w fun e w' => e = .returned (.tuple #[.agg (rdrCells (rInt σ).2), .int .i64 (rInt σ).1]) ∧ Below w.heap.size w w' := by
  rcases σ with _ | l
  · exact takeInt_none w
  · exact takeInt_any3 l w (hl l rfl)
set_option maxRecDepth 100000 in
theorem r3TakeByte_any (σ : Option (List UInt8)) (w : World) :
    Calls Try.prog 122 #[.agg (rdrCells σ)] w fun e w' => e = .returned (.tuple #[.agg (rdrCells (rByte σ).2), .int .i64 (rByte σ).1]) ∧ Below w.heap.size w w' := by
  rcases σ with _ | l
  · unfold rdrCells rByte
    go_enter Try.func122, Try.ntmps122
    go_wp2_with fail
    refine (bad_any _ _ _).mono ?_
    rintro e w2 ⟨rfl, hb2⟩
    have hbw : Below w.heap.size w ((w.alloc (.cells #[.string ⟨#[]⟩, .bool true] 184)).alloc (.cells #[.string ⟨#[]⟩, .bool false] 184)) := ((Below.refl _ _).alloc (Nat.le_refl _) _).alloc (by simp) _
    have hz := obj_below (obj_new2 w (.cells #[.string ⟨#[]⟩, .bool true] 184) (.cells #[.string ⟨#[]⟩, .bool false] 184)) hb2
    have z0 := obj_cell hz 0
    have z1 := obj_cell hz 1
    have f0 := obj_frozen hz 0
    have f1 := obj_frozen hz 1
    simp only [List.getElem?_toArray, List.getElem?_cons_zero, List.getElem?_cons_succ] at z0 z1
    have HZ := hide hz
    have HB2 := hide (hbw.trans (hb2.mono (by simp; omega)))
    clear hz hb2 hbw
    unfold rdrCells
    go_wp2
    refine bodyPost_ret (res_ct rfl _ _ (w.heap.size + 1) 184 (rdrCells none) _ _ rfl (set_two _ _ _ _ _ _ HZ.out) Try.underlying184 rfl (by kernel_rfl)) rfl ⟨rfl, ?_⟩
    exact (HB2.out.setCell (p := ⟨w.heap.size + 1, 0, none⟩) (by simp) _).setCell (p := ⟨w.heap.size + 1, 1, none⟩) (by simp) _
  · rcases l with _ | ⟨b, r⟩
    · unfold rdrCells rByte
      go_enter Try.func122, Try.ntmps122
      go_wp2_with fail
      refine (bad_any _ _ _).mono ?_
      rintro e w2 ⟨rfl, hb2⟩
      have hbw : Below w.heap.size w ((w.alloc (.cells #[.string ⟨#[]⟩, .bool false] 184)).alloc (.cells #[.string ⟨#[]⟩, .bool false] 184)) := ((Below.refl _ _).alloc (Nat.le_refl _) _).alloc (by simp) _
      have hz := obj_below (obj_new2 w (.cells #[.string ⟨#[]⟩, .bool false] 184) (.cells #[.string ⟨#[]⟩, .bool false] 184)) hb2
      have z0 := obj_cell hz 0
      have z1 := obj_cell hz 1
      have f0 := obj_frozen hz 0
      have f1 := obj_frozen hz 1
      simp only [List.getElem?_toArray, List.getElem?_cons_zero, List.getElem?_cons_succ] at z0 z1
      have HZ := hide hz
      have HB2 := hide (hbw.trans (hb2.mono (by simp; omega)))
      clear hz hb2 hbw
      unfold rdrCells
      go_wp2
      refine bodyPost_ret (res_ct rfl _ _ (w.heap.size + 1) 184 (rdrCells none) _ _ rfl (set_two _ _ _ _ _ _ HZ.out) Try.underlying184 rfl (by kernel_rfl)) rfl ⟨rfl, ?_⟩
      exact (HB2.out.setCell (p := ⟨w.heap.size + 1, 0, none⟩) (by simp) _).setCell (p := ⟨w.heap.size + 1, 1, none⟩) (by simp) _
    · obtain ⟨s, hs⟩ : ∃ s : ByteArray, s = ⟨(b :: r).toArray⟩ := ⟨_, rfl⟩
      have hz : 1 ≤ s.size := by rw [hs, str_size]; simp
      have hx : s.extract 1 s.size = ⟨r.toArray⟩ := by
        rw [hs]
        exact ext_drop (b :: r) 1
      have hi : ∀ h : 0 < s.size, s[0]'h = b := by subst hs; intro h; rfl
      have h0 : 0 < s.size := by omega
      have hz1 : (1 : Int) ≤ (s.size : Int) := by omega
      have hz2 : (0 : Int) < (s.size : Int) := by omega
      have hsl : ∀ w1 : World, (Instr.slice 9 (.string s) (some (.int .i64 1)) none none).run Try.prog w1 = .ok (.string ⟨r.toArray⟩) w1 := fun w1 => by
        rw [← hx]
        have e : ¬ ((s.size : Int) < 1) := by omega
        subst hs
        go_simp
        intro h
        omega
      have hne : s.toList.isEmpty = false := by rw [Lib.toList_data, hs]; rfl
      have hb := b.toNat_lt
      unfold rdrCells rByte
      simp only
      rw [← hs]
      clear hs
      go_enter Try.func122, Try.ntmps122
      go_wp2
      go_region
      go_wp2
      refine bodyPost_ret (res_ct rfl _ _ (w.heap.size + 1) 184 (rdrCells (some r)) _ _ rfl (obj_new2 _ _ _) Try.underlying184 rfl (by kernel_rfl)) rfl ⟨rfl, ?_⟩
      exact (((Below.refl _ _).alloc (Nat.le_refl _) _).alloc (by simp) _).drew

set_option maxHeartbeats 2000000 in
set_option maxRecDepth 100000 in
theorem r3TakeText_any (σ : Option (List UInt8)) (w : World) (hl : ∀ l, σ = some l → l.length ≤ 1073741824) :
    Calls Try.prog 123 #[.agg (rdrCells σ)] w fun e w' => e = .returned (.tuple #[.agg (rdrCells (rText σ).2), .string ⟨(rText σ).1.toArray⟩]) ∧ Below w.heap.size w w' := by
  have HL := hide hl
  clear hl
  obtain ⟨sv, bv, hσ⟩ : ∃ sv bv, rdrCells σ = #[sv, bv] := by cases σ <;> exact ⟨_, _, rfl⟩
  by_cases hok : ∃ r, (rInt σ).2 = some r ∧ 0 ≤ (rInt σ).1 ∧ (rInt σ).1 ≤ (r.length : Int)
  · obtain ⟨r, h2, h0, h1⟩ := hok
    have hrl : r.length ≤ 1073741824 := rInt_len h2 HL.out
    obtain ⟨n, hn⟩ : ∃ n : Nat, (rInt σ).1 = n := ⟨(rInt σ).1.toNat, by omega⟩
    have ht : rText σ = (r.take n, some (r.drop n)) := by
      unfold rText
      rw [h2]
      simp only [hn]
      rw [if_pos (by omega)]
      rfl
    have hcall := r3TakeInt_any σ
    rw [h2, hn] at hcall
    have HC := hide hcall
    rw [ht]
    rw [hn] at h1
    have h1' : n ≤ r.length := by omega
    have HS := hide hσ
    rw [hσ]
    clear ht hcall h2 hn h0 hσ
    have hz : (⟨r.toArray⟩ : ByteArray).size = r.length := rfl
    have hx := ext_take r n
    have hy := ext_drop r n
    go_enter Try.func123, Try.ntmps123
    go_wp2_with fail
    rw [← HS.out]
    refine (HC.out _ HL.out).mono ?_
    rintro e w1 ⟨rfl, hb1⟩
    rw [HS.out] at hb1
    have hbw : Below w.heap.size w ((w.alloc (.cells #[sv, bv] 184)).alloc (.cells #[.string ⟨#[]⟩, .bool false] 184)) := ((Below.refl _ _).alloc (Nat.le_refl _) _).alloc (by simp) _
    have hbz := obj_below (obj_new2 w (.cells #[sv, bv] 184) (.cells #[.string ⟨#[]⟩, .bool false] 184)) hb1
    have z0 := obj_cell hbz 0
    have z1 := obj_cell hbz 1
    have f0 := obj_frozen hbz 0
    have f1 := obj_frozen hbz 1
    simp only [List.getElem?_toArray, List.getElem?_cons_zero, List.getElem?_cons_succ] at z0 z1
    have HZ := hide hbz
    have HB1 := hide (hbw.trans (hb1.mono (by simp; omega)))
    have hs1 := hb1.size
    simp only [World.size_alloc] at hs1
    have hs2 : w.heap.size + 1 < w1.heap.size := by omega
    have hs3 : w.heap.size < w1.heap.size := by omega
    clear hbz hb1 hbw
    rw [HS.out, show rdrCells (some r) = #[.string ⟨r.toArray⟩, .bool false] from rfl]
    go_wp2
    go_region
    go_wp2
    refine bodyPost_ret (res_ct rfl _ _ (w.heap.size + 1) 184 (rdrCells (some (r.drop n))) _ _ rfl (obj_alloc (set_two _ _ _ _ _ _ HZ.out) _) Try.underlying184 rfl (by kernel_rfl)) rfl ⟨rfl, ?_⟩
    exact (((HB1.out.setCell (p := ⟨w.heap.size + 1, 0, none⟩) (by simp) _).setCell (p := ⟨w.heap.size + 1, 1, none⟩) (by simp) _).alloc (by simp [World.setCell]; omega) _).drew
  · have ht : rText σ = ([], none) := by
      unfold rText
      split
      · rfl
      · rename_i r h2
        rw [if_neg (fun hh => hok ⟨r, h2, hh.1, hh.2⟩)]
    have hcall := r3TakeInt_any σ
    obtain ⟨s2, b2, hs2⟩ : ∃ s2 b2, rdrCells (rInt σ).2 = #[.string s2, .bool b2] := by cases (rInt σ).2 <;> exact ⟨_, _, rfl⟩
    have hneg : b2 = true ∨ (b2 = false ∧ (rInt σ).1 < 0) ∨ (b2 = false ∧ ¬ (rInt σ).1 < 0 ∧ (s2.size : Int) < (rInt σ).1) := by
      rcases h2 : (rInt σ).2 with _ | r
      · rw [h2] at hs2
        simp only [rdrCells, Array.mk.injEq, List.cons.injEq, Value.bool.injEq, Value.string.injEq, and_true] at hs2
        exact .inl hs2.2.symm
      · rw [h2] at hs2
        simp only [rdrCells, Array.mk.injEq, List.cons.injEq, Value.bool.injEq, Value.string.injEq, and_true] at hs2
        obtain ⟨rfl, rfl⟩ := hs2
        rcases Int.lt_or_le (rInt σ).1 0 with h | h
        · exact .inr (.inl ⟨rfl, h⟩)
        · exact .inr (.inr ⟨rfl, by omega, Int.not_le.1 (fun h' => hok ⟨r, h2, h, by rw [str_size] at h'; exact h'⟩)⟩)
    obtain ⟨n, hn⟩ : ∃ n, n = (rInt σ).1 := ⟨_, rfl⟩
    rw [← hn] at hneg
    rw [hs2, ← hn] at hcall
    have HC := hide hcall
    rw [ht]
    have HS := hide hσ
    rw [hσ]
    clear ht hcall hn hσ hs2 hok
    rcases hneg with rfl | ⟨rfl, hn⟩ | ⟨rfl, hn0, hn⟩
    all_goals
      go_enter Try.func123, Try.ntmps123
      go_wp2_with fail
      rw [← HS.out]
      refine (HC.out _ HL.out).mono ?_
      rintro e w1 ⟨rfl, hb1⟩
      rw [HS.out] at hb1
      have hbw : Below w.heap.size w ((w.alloc (.cells #[sv, bv] 184)).alloc (.cells #[.string ⟨#[]⟩, .bool false] 184)) := ((Below.refl _ _).alloc (Nat.le_refl _) _).alloc (by simp) _
      have hbx := obj_below (obj_alloc (obj_new w (.cells #[sv, bv] 184)) (.cells #[.string ⟨#[]⟩, .bool false] 184)) hb1
      have y0 := obj_cell hbx 0
      have y1 := obj_cell hbx 1
      have hbz := obj_below (obj_new2 w (.cells #[sv, bv] 184) (.cells #[.string ⟨#[]⟩, .bool false] 184)) hb1
      simp only [List.getElem?_toArray, List.getElem?_cons_zero, List.getElem?_cons_succ] at y0 y1
      have HZ := hide hbz
      have HB1 := hide (hbw.trans (hb1.mono (by simp; omega)))
      have hs1 := hb1.size
      simp only [World.size_alloc] at hs1
      have hs2 : w.heap.size + 1 < w1.heap.size := by omega
      have hs3 : w.heap.size < w1.heap.size := by omega
      clear hbz hb1 hbw hbx
      rw [HS.out]
      go_wp2_with fail
      refine (bad_any _ _ _).mono ?_
      rintro e w2 ⟨rfl, hb2⟩
      have hbz := obj_below (obj_alloc HZ.out _) hb2
      have z0 := obj_cell hbz 0
      have z1 := obj_cell hbz 1
      have f0 := obj_frozen hbz 0
      have f1 := obj_frozen hbz 1
      simp only [List.getElem?_toArray, List.getElem?_cons_zero, List.getElem?_cons_succ] at z0 z1
      have HZ2 := hide hbz
      have HB2 := hide ((HB1.out.alloc (by omega) _).trans (hb2.mono (by simp; omega)))
      clear hbz hb2
      rw [show rdrCells none = #[.string ⟨#[]⟩, .bool true] from rfl]
      go_wp2
      refine bodyPost_ret (res_ct rfl _ _ (w.heap.size + 1) 184 (rdrCells none) _ _ rfl (set_two _ _ _ _ _ _ HZ2.out) Try.underlying184 rfl (by kernel_rfl)) rfl ⟨rfl, ?_⟩
      exact ((HB2.out).setCell (p := ⟨w.heap.size + 1, 0, none⟩) (by simp) _).setCell (p := ⟨w.heap.size + 1, 1, none⟩) (by simp) _
end Go.Proofs.Ytljmaicobafgkaa
end
section
/- The walks of the reference of layer 12. -/
namespace Go.Proofs.Ytljmaicobafgkaa
open Go.RowKit

set_option maxRecDepth 100000 in
theorem rCheck_any (k f t i : Int) (b : ByteArray) (w : World) (hb : b.size ≤ 9223372036854775807) :
    Calls Try.prog 47 #[.agg #[.int .i64 k, .int .i64 f, .int .i64 t, .int .i64 i, .string b]] w fun e w' => e = .returned (.int .i64 (chk k f t i b.size)) ∧ Below w.heap.size w w' := by
  by_cases h0 : k < 1
  · have hv : chk k f t i b.size = 1 := if_neg (by unfold msgOk; omega)
    rw [hv]
    clear hv
    go_enter Try.func47, Try.ntmps47
    go_wp2
    go_ret
    exact ⟨rfl, (Below.refl _ _).alloc (Nat.le_refl _) _⟩
  by_cases h1 : 99 < k
  · have hv : chk k f t i b.size = 1 := if_neg (by unfold msgOk; omega)
    rw [hv]
    clear hv
    go_enter Try.func47, Try.ntmps47
    go_wp2
    go_ret
    exact ⟨rfl, (Below.refl _ _).alloc (Nat.le_refl _) _⟩
  by_cases h2 : f < 0
  · have hv : chk k f t i b.size = 1 := if_neg (by unfold msgOk; omega)
    rw [hv]
    clear hv
    go_enter Try.func47, Try.ntmps47
    go_wp2
    go_ret
    exact ⟨rfl, (Below.refl _ _).alloc (Nat.le_refl _) _⟩
  by_cases h3 : 63 < f
  · have hv : chk k f t i b.size = 1 := if_neg (by unfold msgOk; omega)
    rw [hv]
    clear hv
    go_enter Try.func47, Try.ntmps47
    go_wp2
    go_ret
    exact ⟨rfl, (Below.refl _ _).alloc (Nat.le_refl _) _⟩
  by_cases h4 : t < 0
  · have hv : chk k f t i b.size = 1 := if_neg (by unfold msgOk; omega)
    rw [hv]
    clear hv
    go_enter Try.func47, Try.ntmps47
    go_wp2
    go_ret
    exact ⟨rfl, (Below.refl _ _).alloc (Nat.le_refl _) _⟩
  by_cases h5 : 63 < t
  · have hv : chk k f t i b.size = 1 := if_neg (by unfold msgOk; omega)
    rw [hv]
    clear hv
    go_enter Try.func47, Try.ntmps47
    go_wp2
    go_ret
    exact ⟨rfl, (Below.refl _ _).alloc (Nat.le_refl _) _⟩
  by_cases h6 : i < 0
  · have hv : chk k f t i b.size = 1 := if_neg (by unfold msgOk; omega)
    rw [hv]
    clear hv
    go_enter Try.func47, Try.ntmps47
    go_wp2
    go_ret
    exact ⟨rfl, (Below.refl _ _).alloc (Nat.le_refl _) _⟩
  by_cases h7 : 2147483648 ≤ i
  · have hv : chk k f t i b.size = 1 := if_neg (by unfold msgOk; omega)
    rw [hv]
    clear hv
    go_enter Try.func47, Try.ntmps47
    go_wp2
    go_ret
    exact ⟨rfl, (Below.refl _ _).alloc (Nat.le_refl _) _⟩
  by_cases h8 : 4096 < b.size
  · have hv : chk k f t i b.size = 2 := by unfold chk; rw [if_pos (by unfold msgOk; omega), if_pos h8]
    rw [hv]
    clear hv
    go_enter Try.func47, Try.ntmps47
    go_wp2
    go_ret
    exact ⟨rfl, (Below.refl _ _).alloc (Nat.le_refl _) _⟩
  · have hv : chk k f t i b.size = 0 := by unfold chk; rw [if_pos (by unfold msgOk; omega), if_neg h8]
    rw [hv]
    clear hv
    go_enter Try.func47, Try.ntmps47
    go_wp2
    go_ret
    exact ⟨rfl, (Below.refl _ _).alloc (Nat.le_refl _) _⟩


theorem rEncode_bad (kd fr tt id : Int) (b : ByteArray) (w : World) (hb : b.size ≤ 9223372036854775807) (hm : chk kd fr tt id b.size ≠ 0) :
    Calls Try.prog 45 #[.agg #[.int .i64 kd, .int .i64 fr, .int .i64 tt, .int .i64 id, .string b]] w fun e w' => e = .returned (.tuple #[.string ⟨#[]⟩, .int .i64 (chk kd fr tt id b.size)]) ∧ Below w.heap.size w w' := by
  obtain ⟨c, hc⟩ : ∃ c, c = chk kd fr tt id b.size := ⟨_, rfl⟩
  rw [← hc] at hm ⊢
  have HC := hide hc
  have hne : (c == 0) = false := by simp [hm]
  have hne2 : (c != 0) = true := by simp [hm]
  clear hc hm
  go_enter Try.func45, Try.ntmps45
  go_wp2_with fail
  refine (rCheck_any kd fr tt id b _ hb).mono ?_
  rintro e w1 ⟨rfl, hb1⟩
  rw [← HC.out]
  have HB1 := hide hb1
  clear hb1
  go_wp2
  go_ret2
  exact ⟨rfl, ((Below.refl _ _).alloc (Nat.le_refl _) _).trans (HB1.out.mono (by simp))⟩
theorem rdr_shape (σ : Option (List UInt8)) : ∃ (s : ByteArray) (b : Bool), rdrCells σ = #[.string s, .bool b] := by cases σ <;> exact ⟨_, _, rfl⟩
set_option maxHeartbeats 4000000 in
set_option maxRecDepth 100000 in
theorem rDecode_any (s : ByteArray) (w : World) (h4 : 4 ≤ s.size) (hs : s.size ≤ 1073741824) :
    Calls Try.prog 50 #[.string s] w fun e w' => e = .returned (decV s.data.toList) ∧ Below w.heap.size w w' := by
  rcases ho : openL s.data.toList with _ | t
  · have hv : openV s.data.toList = .tuple #[.string ⟨#[]⟩, .int .i64 4] := by unfold openV; rw [ho]
    have hd : decV s.data.toList = .tuple #[.agg #[.int .i64 0, .int .i64 0, .int .i64 0, .int .i64 0, .string ⟨#[]⟩], .int .i64 4] := by unfold decV; rw [ho]; rfl
    have HV := hide hv
    rw [hd]
    clear ho hd hv
    go_enter Try.func50, Try.ntmps50
    go_wp2_with fail
    refine (rOpen_long s _ h4 (by omega)).mono ?_
    rintro e w1 ⟨rfl, hb1⟩
    rw [HV.out]
    have hz := obj_below (obj_new w _) hb1
    have z0 := obj_cell hz 0
    have f0 := obj_frozen hz 0
    have z1 := obj_cell hz 1
    have f1 := obj_frozen hz 1
    have z2 := obj_cell hz 2
    have f2 := obj_frozen hz 2
    have z3 := obj_cell hz 3
    have f3 := obj_frozen hz 3
    have z4 := obj_cell hz 4
    have f4 := obj_frozen hz 4
    simp only [List.getElem?_toArray, List.getElem?_cons_zero, List.getElem?_cons_succ] at z0 z1 z2 z3 z4
    have HZ := hide (obj_below (obj_new w (.cells #[.int .i64 0, .int .i64 0, .int .i64 0, .int .i64 0, .string ⟨#[]⟩] 63)) hb1)
    have HB1 := hide hb1
    clear hb1 hz
    go_wp2
    refine bodyPost_ret (res_ct rfl _ _ w.heap.size 63 #[.int .i64 0, .int .i64 0, .int .i64 0, .int .i64 0, .string ⟨#[]⟩] _ _ rfl (five_set HZ.out _ _ _ _ _) Try.underlying63 rfl (by kernel_rfl)) rfl ⟨rfl, ?_⟩
    exact five_below (((Below.refl _ _).alloc (Nat.le_refl _) _).trans (HB1.out.mono (by simp))) (Nat.le_refl _)
  · have hv : openV s.data.toList = .tuple #[.string ⟨t.toArray⟩, .int .i64 0] := by unfold openV; rw [ho]
    have hd : decV s.data.toList = decR t := by unfold decV; rw [ho]
    have htl : t.length ≤ 1073741824 := by
      unfold openL at ho
      split at ho
      · simp only [Option.some.injEq] at ho
        rw [← ho, List.length_take]
        have := size_list s
        omega
      · cases ho
    have HV := hide hv
    have hlen := dσ_len t _ htl
    have HLen := hide hlen
    rw [hd]
    clear ho hd hv hlen
    obtain ⟨s1, b1, hs1⟩ := rdr_shape (rByte (some t)).2
    have HS1 := hide hs1
    clear hs1
    obtain ⟨s2, b2, hs2⟩ := rdr_shape (rByte (d1 t)).2
    have HS2 := hide hs2
    clear hs2
    obtain ⟨s3, b3, hs3⟩ := rdr_shape (rByte (d2 t)).2
    have HS3 := hide hs3
    clear hs3
    obtain ⟨s4, b4, hs4⟩ := rdr_shape (rInt (d3 t)).2
    have HS4 := hide hs4
    clear hs4
    obtain ⟨s5, b5, hs5⟩ := rdr_shape (rText (d4 t)).2
    have HS5 := hide hs5
    clear hs5
    go_enter Try.func50, Try.ntmps50
    go_wp2_with fail
    refine (rOpen_long s _ h4 (by omega)).mono ?_
    rintro e w1 ⟨rfl, hb1⟩
    rw [HV.out]
    have HZ0 := hide (obj_below (obj_new w (.cells #[.int .i64 0, .int .i64 0, .int .i64 0, .int .i64 0, .string ⟨#[]⟩] 63)) hb1)
    have HB0 := hide (((Below.refl w.heap.size w).alloc (Nat.le_refl _) (.cells #[.int .i64 0, .int .i64 0, .int .i64 0, .int .i64 0, .string ⟨#[]⟩] 63)).trans (hb1.mono (by simp)))
    have hsz := hb1.size
    simp only [World.size_alloc] at hsz
    have hbx := obj_new w1 (.cells #[.string ⟨t.toArray⟩, .bool false] 184)
    have HX0 := hide hbx
    have HZA := hide (obj_alloc HZ0.out (.cells #[.string ⟨t.toArray⟩, .bool false] 184))
    have HBA := hide (HB0.out.alloc (by omega) (.cells #[.string ⟨t.toArray⟩, .bool false] 184))
    have hne : w.heap.size ≠ w1.heap.size := by omega
    have hge : w.heap.size ≤ w1.heap.size := by omega
    clear hb1 hbx
    go_wp2_with fail
    refine (r3TakeByte_any (some t) _).mono ?_
    rintro e v1 ⟨rfl, hb1⟩
    have hx1 := obj_below HX0.out hb1
    have x01 := obj_cell hx1 0
    have x11 := obj_cell hx1 1
    have g01 := obj_frozen hx1 0
    have g11 := obj_frozen hx1 1
    simp only [List.getElem?_toArray, List.getElem?_cons_zero, List.getElem?_cons_succ] at x01 x11
    have HXv1 := hide hx1
    have hl1 : w1.heap.size < v1.heap.size := obj_lt hx1
    have HZv1 := hide (obj_below HZA.out hb1)
    have HBv1 := hide (HBA.out.trans (hb1.mono HBA.out.size))
    have HXs1 := hide (set_two _ _ _ _ (.string s1) (.bool b1) HXv1.out)
    have HZs1 := hide (obj_far (obj_far HZv1.out (p := ⟨w1.heap.size, 0, none⟩) hne (.string s1)) (p := ⟨w1.heap.size, 1, none⟩) hne (.bool b1))
    have HBs1 := hide ((HBv1.out.setCell (p := ⟨w1.heap.size, 0, none⟩) hge (.string s1)).setCell (p := ⟨w1.heap.size, 1, none⟩) hge (.bool b1))
    clear hx1 hb1
    rw [HS1.out]
    go_wp2_with fail
    rw [← HS1.out]
    refine (r3TakeByte_any (d1 t) _).mono ?_
    rintro e v2 ⟨rfl, hb2⟩
    rw [HS1.out]
    have hx2 := obj_below HXs1.out hb2
    have x02 := obj_cell hx2 0
    have x12 := obj_cell hx2 1
    have g02 := obj_frozen hx2 0
    have g12 := obj_frozen hx2 1
    simp only [List.getElem?_toArray, List.getElem?_cons_zero, List.getElem?_cons_succ] at x02 x12
    have HXv2 := hide hx2
    have hl2 : w1.heap.size < v2.heap.size := obj_lt hx2
    have HZv2 := hide (obj_below HZs1.out hb2)
    have HBv2 := hide (HBs1.out.trans (hb2.mono HBs1.out.size))
    have HXs2 := hide (set_two _ _ _ _ (.string s2) (.bool b2) HXv2.out)
    have HZs2 := hide (obj_far (obj_far HZv2.out (p := ⟨w1.heap.size, 0, none⟩) hne (.string s2)) (p := ⟨w1.heap.size, 1, none⟩) hne (.bool b2))
    have HBs2 := hide ((HBv2.out.setCell (p := ⟨w1.heap.size, 0, none⟩) hge (.string s2)).setCell (p := ⟨w1.heap.size, 1, none⟩) hge (.bool b2))
    clear hx2 hb2
    rw [HS2.out]
    go_wp2_with fail
    rw [← HS2.out]
    refine (r3TakeByte_any (d2 t) _).mono ?_
    rintro e v3 ⟨rfl, hb3⟩
    rw [HS2.out]
    have hx3 := obj_below HXs2.out hb3
    have x03 := obj_cell hx3 0
    have x13 := obj_cell hx3 1
    have g03 := obj_frozen hx3 0
    have g13 := obj_frozen hx3 1
    simp only [List.getElem?_toArray, List.getElem?_cons_zero, List.getElem?_cons_succ] at x03 x13
    have HXv3 := hide hx3
    have hl3 : w1.heap.size < v3.heap.size := obj_lt hx3
    have HZv3 := hide (obj_below HZs2.out hb3)
    have HBv3 := hide (HBs2.out.trans (hb3.mono HBs2.out.size))
    have HXs3 := hide (set_two _ _ _ _ (.string s3) (.bool b3) HXv3.out)
    have HZs3 := hide (obj_far (obj_far HZv3.out (p := ⟨w1.heap.size, 0, none⟩) hne (.string s3)) (p := ⟨w1.heap.size, 1, none⟩) hne (.bool b3))
    have HBs3 := hide ((HBv3.out.setCell (p := ⟨w1.heap.size, 0, none⟩) hge (.string s3)).setCell (p := ⟨w1.heap.size, 1, none⟩) hge (.bool b3))
    clear hx3 hb3
    rw [HS3.out]
    go_wp2_with fail
    rw [← HS3.out]
    refine (r3TakeInt_any (d3 t) _ (HLen.out 3 (by omega))).mono ?_
    rintro e v4 ⟨rfl, hb4⟩
    rw [HS3.out]
    have hx4 := obj_below HXs3.out hb4
    have x04 := obj_cell hx4 0
    have x14 := obj_cell hx4 1
    have g04 := obj_frozen hx4 0
    have g14 := obj_frozen hx4 1
    simp only [List.getElem?_toArray, List.getElem?_cons_zero, List.getElem?_cons_succ] at x04 x14
    have HXv4 := hide hx4
    have hl4 : w1.heap.size < v4.heap.size := obj_lt hx4
    have HZv4 := hide (obj_below HZs3.out hb4)
    have HBv4 := hide (HBs3.out.trans (hb4.mono HBs3.out.size))
    have HXs4 := hide (set_two _ _ _ _ (.string s4) (.bool b4) HXv4.out)
    have HZs4 := hide (obj_far (obj_far HZv4.out (p := ⟨w1.heap.size, 0, none⟩) hne (.string s4)) (p := ⟨w1.heap.size, 1, none⟩) hne (.bool b4))
    have HBs4 := hide ((HBv4.out.setCell (p := ⟨w1.heap.size, 0, none⟩) hge (.string s4)).setCell (p := ⟨w1.heap.size, 1, none⟩) hge (.bool b4))
    clear hx4 hb4
    rw [HS4.out]
    go_wp2_with fail
    rw [← HS4.out]
    refine (r3TakeText_any (d4 t) _ (HLen.out 4 (by omega))).mono ?_
    rintro e v5 ⟨rfl, hb5⟩
    rw [HS4.out]
    have hx5 := obj_below HXs4.out hb5
    have x05 := obj_cell hx5 0
    have x15 := obj_cell hx5 1
    have g05 := obj_frozen hx5 0
    have g15 := obj_frozen hx5 1
    simp only [List.getElem?_toArray, List.getElem?_cons_zero, List.getElem?_cons_succ] at x05 x15
    have HXv5 := hide hx5
    have hl5 : w1.heap.size < v5.heap.size := obj_lt hx5
    have HZv5 := hide (obj_below HZs4.out hb5)
    have HBv5 := hide (HBs4.out.trans (hb5.mono HBs4.out.size))
    have HXs5 := hide (set_two _ _ _ _ (.string s5) (.bool b5) HXv5.out)
    have HZs5 := hide (obj_far (obj_far HZv5.out (p := ⟨w1.heap.size, 0, none⟩) hne (.string s5)) (p := ⟨w1.heap.size, 1, none⟩) hne (.bool b5))
    have HBs5 := hide ((HBv5.out.setCell (p := ⟨w1.heap.size, 0, none⟩) hge (.string s5)).setCell (p := ⟨w1.heap.size, 1, none⟩) hge (.bool b5))
    clear hx5 hb5
    rw [HS5.out]
    have HM6 := hide (obj_new ((v5.setCell ⟨w1.heap.size, 0, none⟩ (.string s5)).setCell ⟨w1.heap.size, 1, none⟩ (.bool b5)) (.cells #[.int .i64 (rByte (some t)).1, .int .i64 (rByte (d1 t)).1, .int .i64 (rByte (d2 t)).1, .int .i64 (rInt (d3 t)).1, .string ⟨(rText (d4 t)).1.toArray⟩] 63))
    have HZ6 := hide (obj_alloc HZs5.out (.cells #[.int .i64 (rByte (some t)).1, .int .i64 (rByte (d1 t)).1, .int .i64 (rByte (d2 t)).1, .int .i64 (rInt (d3 t)).1, .string ⟨(rText (d4 t)).1.toArray⟩] 63))
    have HB6 := hide (HBs5.out.alloc HBs5.out.size (.cells #[.int .i64 (rByte (some t)).1, .int .i64 (rByte (d1 t)).1, .int .i64 (rByte (d2 t)).1, .int .i64 (rInt (d3 t)).1, .string ⟨(rText (d4 t)).1.toArray⟩] 63))
    clear x01 x02 x03 x04 x11 x12 x13 x14 g01 g02 g03 g04 g11 g12 g13 g14
    go_wp2_with fail
    rw [← HS5.out]
    refine (end_any (d5 t) _).mono ?_
    rintro e u1 ⟨rfl, hb6⟩
    rw [HS5.out]
    have hmsz : ((v5.setCell ⟨w1.heap.size, 0, none⟩ (.string s5)).setCell ⟨w1.heap.size, 1, none⟩ (.bool b5)).heap.size = v5.heap.size := by simp [World.setCell]
    have hm := obj_below HM6.out hb6
    rw [hmsz] at hm
    have HM7 := hide hm
    have HZ7 := hide (obj_below HZ6.out hb6)
    have HB7 := hide (HB6.out.trans (hb6.mono HB6.out.size))
    clear hb6 hmsz hm
    by_cases hdone : d5 t = some []
    · rw [show rDone (d5 t) = 0 from by rw [hdone]; rfl]
      · have hm := HM7.out
        have m0 := obj_cell hm 0
        have m1 := obj_cell hm 1
        have m2 := obj_cell hm 2
        have m3 := obj_cell hm 3
        have m4 := obj_cell hm 4
        simp only [List.getElem?_toArray, List.getElem?_cons_zero, List.getElem?_cons_succ] at m0 m1 m2 m3 m4
        have HD := hide hdone
        clear hm hdone
        go_wp2_with fail
        refine (rCheck_any (dK t) (dF t) (dT t) (dI t) ⟨(dB t).toArray⟩ _ (by rw [str_size]; have := rText_len t (HLen.out 4 (by omega)); unfold dB; omega)).mono ?_
        rintro e w5 ⟨rfl, hb5⟩
        have HM5 := hide (obj_below HM7.out hb5)
        have HB5 := hide (HB7.out.trans (hb5.mono HB7.out.size))
        have HZ5 := hide (obj_below HZ7.out hb5)
        clear hb5 m0 m1 m2 m3 m4
        have hm := HM5.out
        have hz := HZ5.out
        have m0 := obj_cell hm 0
        have m1 := obj_cell hm 1
        have m2 := obj_cell hm 2
        have m3 := obj_cell hm 3
        have m4 := obj_cell hm 4
        have z0 := obj_cell hz 0
        have f0 := obj_frozen hz 0
        have z1 := obj_cell hz 1
        have f1 := obj_frozen hz 1
        have z2 := obj_cell hz 2
        have f2 := obj_frozen hz 2
        have z3 := obj_cell hz 3
        have f3 := obj_frozen hz 3
        have z4 := obj_cell hz 4
        have f4 := obj_frozen hz 4
        simp only [List.getElem?_toArray, List.getElem?_cons_zero, List.getElem?_cons_succ] at m0 m1 m2 m3 m4 z0 z1 z2 z3 z4
        clear hm hz
        by_cases hch : chk (dK t) (dF t) (dT t) (dI t) (dB t).length = 0
        · have HOK := hide (show dOk t from ⟨HD.out, hch⟩)
          rw [show chk (dK t) (dF t) (dT t) (dI t) (⟨(dB t).toArray⟩ : ByteArray).size = 0 from hch]
          clear hch
          go_wp2
          rw [decR_ok HOK.out]
          refine bodyPost_ret (res_ct rfl _ _ w.heap.size 63 (dCells t 5) _ _ rfl (five_set (a := .int .i64 0) (b := .int .i64 0) (c := .int .i64 0) (d := .int .i64 0) (e := .string ⟨#[]⟩) HZ5.out _ _ _ _ _) Try.underlying63 rfl (by kernel_rfl)) rfl ⟨rfl, ?_⟩
          exact five_below HB5.out (Nat.le_refl _)
        · have HOK := hide (show ¬ dOk t from fun h => hch h.2)
          obtain ⟨c, hc⟩ : ∃ c, c = chk (dK t) (dF t) (dT t) (dI t) (dB t).length := ⟨_, rfl⟩
          rw [show chk (dK t) (dF t) (dT t) (dI t) (⟨(dB t).toArray⟩ : ByteArray).size = c from hc.symm]
          rw [← hc] at hch
          have hch1 : (c != 0) = true := by simp [hch]
          clear hch hc
          go_wp2
          rw [decR_no HOK.out]
          refine bodyPost_ret (res_ct rfl _ _ w.heap.size 63 (dCells [] 0) _ _ rfl (five_set (a := .int .i64 0) (b := .int .i64 0) (c := .int .i64 0) (d := .int .i64 0) (e := .string ⟨#[]⟩) HZ5.out _ _ _ _ _) Try.underlying63 rfl (by kernel_rfl)) rfl ⟨rfl, ?_⟩
          exact five_below HB5.out (Nat.le_refl _)
    · rw [show rDone (d5 t) = 3 from by unfold rDone; rw [if_neg hdone]]
      have HOK := hide (show ¬ dOk t from fun h => hdone h.1)
      have hz := HZ7.out
      have z0 := obj_cell hz 0
      have f0 := obj_frozen hz 0
      have z1 := obj_cell hz 1
      have f1 := obj_frozen hz 1
      have z2 := obj_cell hz 2
      have f2 := obj_frozen hz 2
      have z3 := obj_cell hz 3
      have f3 := obj_frozen hz 3
      have z4 := obj_cell hz 4
      have f4 := obj_frozen hz 4
      simp only [List.getElem?_toArray, List.getElem?_cons_zero, List.getElem?_cons_succ] at z0 z1 z2 z3 z4
      clear hz hdone
      go_wp2
      rw [decR_no HOK.out]
      refine bodyPost_ret (res_ct rfl _ _ w.heap.size 63 (dCells [] 0) _ _ rfl (five_set (a := .int .i64 0) (b := .int .i64 0) (c := .int .i64 0) (d := .int .i64 0) (e := .string ⟨#[]⟩) HZ7.out _ _ _ _ _) Try.underlying63 rfl (by kernel_rfl)) rfl ⟨rfl, ?_⟩
      exact five_below HB7.out (Nat.le_refl _)
end Go.Proofs.Ytljmaicobafgkaa
end
section
/- Plain facts on numbers as bytes: there and back. -/
namespace Go.Proofs.Ytljmaicobafgkaa
open Go.RowKit

theorem gStep_add (u m k : Nat) (b : UInt8) (hm : b.toNat % 128 = m) (hu : u < 2 ^ (7 * k)) (hfit : u + m * 2 ^ (7 * k) < 18446744073709551616) : gStep (u : Int) b k = ((u + m * 2 ^ (7 * k) : Nat) : Int) := by
  unfold gStep
  rw [wr_byte]
  have h1 : bits .and .u64 (b.toNat : Int) 127 = (m : Int) := by
    show IntKind.u64.wrap ((BitVec.ofInt 64 (b.toNat : Int) &&& BitVec.ofInt 64 127).toNat : Int) = _
    have h : (BitVec.ofInt 64 (b.toNat : Int) &&& BitVec.ofInt 64 127).toNat = m := by
      rw [BitVec.toNat_and, BitVec.ofInt_natCast, BitVec.toNat_ofNat, show (BitVec.ofInt 64 127).toNat = 2 ^ 7 - 1 from by decide, Nat.and_two_pow_sub_one_eq_mod]
      have := b.toNat_lt
      omega
    rw [h]
    show (m : Int) % 18446744073709551616 = _
    omega
  rw [h1]
  have hp : ((m : Int) * 2 ^ (7 * k)) = ((m * 2 ^ (7 * k) : Nat) : Int) := by simp
  have hw : IntKind.u64.wrap ((m : Int) * 2 ^ (7 * k)) = ((m * 2 ^ (7 * k) : Nat) : Int) := by
    rw [hp]
    show ((m * 2 ^ (7 * k) : Nat) : Int) % 18446744073709551616 = _
    omega
  rw [hw]
  show IntKind.u64.wrap ((BitVec.ofInt 64 (u : Int) ||| BitVec.ofInt 64 ((m * 2 ^ (7 * k) : Nat) : Int)).toNat : Int) = _
  have h : (BitVec.ofInt 64 (u : Int) ||| BitVec.ofInt 64 ((m * 2 ^ (7 * k) : Nat) : Int)).toNat = u + m * 2 ^ (7 * k) := by
    rw [BitVec.toNat_or, BitVec.ofInt_natCast, BitVec.toNat_ofNat, BitVec.ofInt_natCast, BitVec.toNat_ofNat, Nat.mod_eq_of_lt (by omega), Nat.mod_eq_of_lt (by omega), Nat.mul_comm m, Nat.or_comm, ← Nat.two_pow_add_eq_or_of_lt hu, Nat.add_comm]
  rw [h]
  show ((u + m * 2 ^ (7 * k) : Nat) : Int) % 18446744073709551616 = _
  omega

/-- A number's bytes, with whatever behind them, are that number. -/
theorem grpR_num (r : List UInt8) : ∀ (n v k u : Nat), v < 128 ^ n → u < 2 ^ (7 * k) → u + v * 2 ^ (7 * k) < 18446744073709551616 → (0 < k → 0 < v) → k < 10 →
    grpR (numN v ++ r) k (u : Int) = some (((u + v * 2 ^ (7 * k) : Nat) : Int), k + (numN v).length)
  | 0, v, k, u, hv, hu, hf, hk, h10 => by
    obtain rfl : v = 0 := by simpa using hv
    have hk0 : k = 0 := by
      rcases Nat.eq_zero_or_pos k with h | h
      · exact h
      · exact absurd (hk h) (by omega)
    subst hk0
    have hu0 : u = 0 := by simpa using hu
    subst hu0
    rw [numN_small (by omega)]
    show grpR (UInt8.ofNat 0 :: r) 0 0 = _
    rw [grpR, if_neg (by omega), if_neg (by decide), if_neg (by decide)]
    have := gStep_add 0 0 0 (UInt8.ofNat 0) (by decide) (by decide) (by decide)
    simp only [Int.cast_ofNat_Int] at this
    rw [this]
    rfl
  | n + 1, v, k, u, hv, hu, hf, hk, h10 => by
    have hpos : 0 < 2 ^ (7 * k) := Nat.two_pow_pos _
    by_cases hsm : v < 128
    · rw [numN_small hsm]
      show grpR (UInt8.ofNat v :: r) k u = _
      have hb : (UInt8.ofNat v).toNat = v := by simp only [UInt8.toNat_ofNat']; omega
      have hbad : ¬ ((0 < k ∧ (UInt8.ofNat v).toNat = 0) ∨ (k = 9 ∧ 1 < (UInt8.ofNat v).toNat)) := by
        rw [hb]
        rintro (⟨a, c⟩ | ⟨rfl, c⟩)
        · have := hk a
          omega
        · have h2 : 2 * 2 ^ (7 * 9) ≤ v * 2 ^ (7 * 9) := Nat.mul_le_mul_right _ (by omega)
          have h3 : 2 * 2 ^ (7 * 9) = 18446744073709551616 := by decide
          omega
      rw [grpR, if_neg (by omega), if_neg (by rw [hb]; omega), if_neg hbad, gStep_add u v k _ (by rw [hb]; omega) hu hf]
      rfl
    · rw [numN_large hsm]
      show grpR (UInt8.ofNat (v % 128 + 128) :: (numN (v / 128) ++ r)) k u = _
      have hb : (UInt8.ofNat (v % 128 + 128)).toNat = v % 128 + 128 := by simp only [UInt8.toNat_ofNat']; omega
      have e1 : 2 ^ (7 * (k + 1)) = 128 * 2 ^ (7 * k) := by rw [show 7 * (k + 1) = 7 * k + 7 from by omega, Nat.pow_add]; omega
      have e2 : v * 2 ^ (7 * k) = v % 128 * 2 ^ (7 * k) + v / 128 * 2 ^ (7 * (k + 1)) := by
        rw [e1, ← Nat.mul_assoc, ← Nat.add_mul]
        congr 1
        omega
      have h9 : k < 9 := by
        rcases Nat.lt_or_ge k 9 with h | h
        · exact h
        · have hk9 : k = 9 := by omega
          subst hk9
          have h2 : 128 * 2 ^ (7 * 9) ≤ v * 2 ^ (7 * 9) := Nat.mul_le_mul_right _ (by omega)
          have h3 : 128 * 2 ^ (7 * 9) = 1180591620717411303424 := by decide
          omega
      have hle : u + v % 128 * 2 ^ (7 * k) < 2 ^ (7 * (k + 1)) := by
        rw [e1]
        have : v % 128 * 2 ^ (7 * k) ≤ 127 * 2 ^ (7 * k) := Nat.mul_le_mul_right _ (by omega)
        omega
      rw [grpR, if_neg (by omega), if_pos (by rw [hb]; omega), gStep_add u (v % 128) k _ (by rw [hb]; omega) hu (by omega)]
      rw [grpR_num r n (v / 128) (k + 1) (u + v % 128 * 2 ^ (7 * k)) (by rw [Nat.pow_succ] at hv; exact Nat.div_lt_of_lt_mul (by rw [Nat.mul_comm]; exact hv)) hle (by omega) (fun _ => by omega) (by omega)]
      rw [List.length_cons, e2]
      simp only [Option.some.injEq, Prod.mk.injEq]
      exact ⟨by omega, by omega⟩

theorem unz_zz (n : Int) : unz (zz n : Int) = n := by
  unfold unz zz
  split <;> split <;> omega
theorem rInt_num (n : Int) (r : List UInt8) (h0 : -9223372036854775808 ≤ n) (h1 : n ≤ 9223372036854775807) : rInt (some (num n ++ r)) = (n, some r) := by
  have hz := zz_lt n h0 h1
  have h := grpR_num r 10 (zz n) 0 0 (Nat.lt_of_lt_of_le hz (by decide)) (by decide) (by simpa using hz) (fun h => absurd h (by decide)) (by decide)
  have h' : grpR (num n ++ r) 0 0 = some ((zz n : Int), (num n).length) := by
    simpa [num] using h
  simp only [rInt, h', unz_zz]
  simp
theorem rText_text (l r : List UInt8) (h : l.length ≤ 1073741824) : rText (some (textB l ++ r)) = (l, some r) := by
  have hi : rInt (some (textB l ++ r)) = ((l.length : Int), some (l ++ r)) := by
    unfold textB
    rw [List.append_assoc]
    exact rInt_num _ _ (by omega) (by omega)
  unfold rText
  rw [hi]
  simp
  omega
end Go.Proofs.Ytljmaicobafgkaa
end
section
/- The laws of layer 12: the walks. -/
namespace Go.Proofs.Ytljmaicobafgkaa
open Go.RowKit

theorem decode_short (s : ByteArray) (w : World) (hs : s.size < 4) :
    Calls Try.prog 49 #[.string s] w fun e w' => e = .returned (.tuple #[.agg #[.int .i64 0, .int .i64 0, .int .i64 0, .int .i64 0, .string ⟨#[]⟩], .int .i64 2]) ∧ Below w.heap.size w w' := by
  go_enter Try.func49, Try.ntmps49
  go_wp2_with fail
  refine (open_short s _ hs).mono ?_
  rintro e w1 ⟨rfl, hb1⟩
  have hz := obj_below (obj_new w _) hb1
  have z0 := obj_cell hz 0
  have f0 := obj_frozen hz 0
  have z1 := obj_cell hz 1
  have f1 := obj_frozen hz 1
  have z2 := obj_cell hz 2
  have f2 := obj_frozen hz 2
  have z3 := obj_cell hz 3
  have f3 := obj_frozen hz 3
  have z4 := obj_cell hz 4
  have f4 := obj_frozen hz 4
  simp only [List.getElem?_toArray, List.getElem?_cons_zero, List.getElem?_cons_succ] at z0 z1 z2 z3 z4
  have HZ := hide (obj_below (obj_new w (.cells #[.int .i64 0, .int .i64 0, .int .i64 0, .int .i64 0, .string ⟨#[]⟩] 63)) hb1)
  have HB1 := hide hb1
  clear hb1 hz
  go_wp2
  refine bodyPost_ret (res_ct rfl _ _ w.heap.size 63 #[.int .i64 0, .int .i64 0, .int .i64 0, .int .i64 0, .string ⟨#[]⟩] _ _ rfl (five_set HZ.out _ _ _ _ _) Try.underlying63 rfl (by kernel_rfl)) rfl ⟨rfl, ?_⟩
  exact five_below (((Below.refl _ _).alloc (Nat.le_refl _) _).trans (HB1.out.mono (by simp))) (Nat.le_refl _)
theorem rDecode_short (s : ByteArray) (w : World) (hs : s.size < 4) :
    Calls Try.prog 50 #[.string s] w fun e w' => e = .returned (.tuple #[.agg #[.int .i64 0, .int .i64 0, .int .i64 0, .int .i64 0, .string ⟨#[]⟩], .int .i64 2]) ∧ Below w.heap.size w w' := by
  go_enter Try.func50, Try.ntmps50
  go_wp2_with fail
  refine (rOpen_short s _ hs).mono ?_
  rintro e w1 ⟨rfl, hb1⟩
  have hz := obj_below (obj_new w _) hb1
  have z0 := obj_cell hz 0
  have f0 := obj_frozen hz 0
  have z1 := obj_cell hz 1
  have f1 := obj_frozen hz 1
  have z2 := obj_cell hz 2
  have f2 := obj_frozen hz 2
  have z3 := obj_cell hz 3
  have f3 := obj_frozen hz 3
  have z4 := obj_cell hz 4
  have f4 := obj_frozen hz 4
  simp only [List.getElem?_toArray, List.getElem?_cons_zero, List.getElem?_cons_succ] at z0 z1 z2 z3 z4
  have HZ := hide (obj_below (obj_new w (.cells #[.int .i64 0, .int .i64 0, .int .i64 0, .int .i64 0, .string ⟨#[]⟩] 63)) hb1)
  have HB1 := hide hb1
  clear hb1 hz
  go_wp2
  refine bodyPost_ret (res_ct rfl _ _ w.heap.size 63 #[.int .i64 0, .int .i64 0, .int .i64 0, .int .i64 0, .string ⟨#[]⟩] _ _ rfl (five_set HZ.out _ _ _ _ _) Try.underlying63 rfl (by kernel_rfl)) rfl ⟨rfl, ?_⟩
  exact five_below (((Below.refl _ _).alloc (Nat.le_refl _) _).trans (HB1.out.mono (by simp))) (Nat.le_refl _)

theorem decV_shape (l : List UInt8) : ∃ k f t i b e, decV l = .tuple #[.agg #[.int .i64 k, .int .i64 f, .int .i64 t, .int .i64 i, .string b], .int .i64 e] := by
  unfold decV
  split
  · exact ⟨_, _, _, _, _, _, rfl⟩
  · unfold decR
    split
    · exact ⟨_, _, _, _, _, _, rfl⟩
    · exact ⟨_, _, _, _, _, _, rfl⟩

/-- The example, called. -/
def Awake12 : Prop := ∀ w : World, Calls Try.prog 48 #[] w fun e w' => e = .returned (.bool true) ∧ Below w.heap.size w w'
theorem dec2 {w w1 w2 : World} {o o2 : Obj} (h1 : Below w.heap.size w w1) (h2 : Below (w1.alloc o).heap.size (w1.alloc o) w2) : Below w.heap.size w (w2.alloc o2) :=
  ((h1.alloc h1.size o).trans (h2.mono (by simp; have := h1.size; omega))).alloc (by have := h1.size; have := h2.size; simp at this; omega) o2
theorem decodes_mid (ha : Awake12) (s : ByteArray) (w : World) (h4 : 4 ≤ s.size) (hs : s.size ≤ 10000) :
    Calls Try.prog 8 #[.string s] w fun e w' => e = .returned (.bool true) ∧ Below w.heap.size w w' := by
  have HA := hide ha
  clear ha
  obtain ⟨k, f, t, i, b, e, he⟩ := decV_shape s.data.toList
  have HE := hide he
  clear he
  go_enter Try.func8, Try.ntmps8
  go_wp2_with fail
  refine (decode_any s _ h4 (by omega)).mono ?_
  rintro e w1 ⟨rfl, hb1⟩
  rw [HE.out]
  have HB1 := hide hb1
  clear hb1
  go_wp2_with fail
  refine (rDecode_any s _ h4 (by omega)).mono ?_
  rintro e w2 ⟨rfl, hb2⟩
  rw [HE.out]
  have hm := obj_below (obj_new w1 _) hb2
  have z0 := obj_cell hm 0
  have z1 := obj_cell hm 1
  have z2 := obj_cell hm 2
  have z3 := obj_cell hm 3
  have z4 := obj_cell hm 4
  simp only [List.getElem?_toArray, List.getElem?_cons_zero, List.getElem?_cons_succ] at z0 z1 z2 z3 z4
  have hlt := obj_lt hm
  have HB2 := hide hb2
  clear hb2 hm
  go_wp2_with fail
  refine (HA.out _).mono ?_
  rintro e w3 ⟨rfl, hb3⟩
  go_wp2
  go_ret
  refine ⟨rfl, ?_⟩
  exact (dec2 HB1.out HB2.out).trans (hb3.mono (by simp; have := HB1.out.size; have := HB2.out.size; simp at this; omega))
theorem decodes_short (ha : Awake12) (s : ByteArray) (w : World) (h4 : s.size < 4) :
    Calls Try.prog 8 #[.string s] w fun e w' => e = .returned (.bool true) ∧ Below w.heap.size w w' := by
  have HA := hide ha
  clear ha
  go_enter Try.func8, Try.ntmps8
  go_wp2_with fail
  refine (decode_short s _ h4).mono ?_
  rintro e w1 ⟨rfl, hb1⟩
  have HB1 := hide hb1
  clear hb1
  go_wp2_with fail
  refine (rDecode_short s _ h4).mono ?_
  rintro e w2 ⟨rfl, hb2⟩
  have hm := obj_below (obj_new w1 _) hb2
  have z0 := obj_cell hm 0
  have z1 := obj_cell hm 1
  have z2 := obj_cell hm 2
  have z3 := obj_cell hm 3
  have z4 := obj_cell hm 4
  simp only [List.getElem?_toArray, List.getElem?_cons_zero, List.getElem?_cons_succ] at z0 z1 z2 z3 z4
  have hlt := obj_lt hm
  have HB2 := hide hb2
  clear hb2 hm
  go_wp2_with fail
  refine (HA.out _).mono ?_
  rintro e w3 ⟨rfl, hb3⟩
  go_wp2
  go_ret
  refine ⟨rfl, ?_⟩
  exact (dec2 HB1.out HB2.out).trans (hb3.mono (by simp; have := HB1.out.size; have := HB2.out.size; simp at this; omega))
theorem decodes_far (ha : Awake12) (s : ByteArray) (w : World) (h4 : 10000 < s.size) :
    Calls Try.prog 8 #[.string s] w fun e w' => e = .returned (.bool true) ∧ Below w.heap.size w w' := by
  have HA := hide ha
  clear ha
  go_enter Try.func8, Try.ntmps8
  go_wp2_with fail
  refine (HA.out _).mono ?_
  rintro e w3 ⟨rfl, hb3⟩
  go_wp2
  go_ret
  exact ⟨rfl, hb3⟩
theorem decodes_walk (ha : Awake12) (s : ByteArray) (w : World) :
    Calls Try.prog 8 #[.string s] w fun e w' => e = .returned (.bool true) ∧ Below w.heap.size w w' := by
  rcases Nat.lt_or_ge s.size 4 with h | h
  · exact decodes_short ha s w h
  · rcases Nat.lt_or_ge 10000 s.size with h2 | h2
    · exact decodes_far ha s w h2
    · exact decodes_mid ha s w h h2
end Go.Proofs.Ytljmaicobafgkaa
end
section
/- Chapter 13, net: Drop, Deliver. -/
namespace Go.Proofs.Ytljmaicobafgkaa
open Go.RowKit

set_option maxHeartbeats 4000000 in
set_option maxRecDepth 100000 in
theorem drop13_nil (i : Int) (w : World) : Calls Try.prog 70 #[.pointer none, .int .i64 i] w fun e w' => e = .returned (.bool false) ∧ Below w.heap.size w w' := by
  go_enter Try.func70, Try.ntmps70
  go_wp2_with fail
  refine (out_nil i _).mono ?_
  rintro e w1 ⟨rfl, hb1⟩
  unfold z214a
  go_wp2
  go_ret
  exact ⟨rfl, hb1.alloc hb1.size _⟩
set_option maxHeartbeats 4000000 in
set_option maxRecDepth 100000 in
theorem drop13_off {w : World} {g c : Nat} {v : Value} {N : NetS} (hN : NT w g v c N) (h0 : N.way.length = 0) (i : Int) : Calls Try.prog 70 #[.pointer (some ⟨g, 0, none⟩), .int .i64 i] w fun e w' => e = .returned (.bool false) ∧ Below w.heap.size w w' := by
  have HO := hide (out_off hN h0 i)
  clear hN
  go_enter Try.func70, Try.ntmps70
  go_wp2_with fail
  refine HO.out.mono ?_
  rintro e w1 ⟨rfl, hb1⟩
  unfold z214a
  go_wp2
  go_ret
  exact ⟨rfl, hb1.alloc hb1.size _⟩
set_option maxHeartbeats 4000000 in
set_option maxRecDepth 100000 in
theorem drop13_any {w : World} {g c r cap : Nat} {N : NetS} (hN : NT w g (.slice (some ⟨r, 0, none⟩) N.way.length cap) c N) (h0 : 0 < N.way.length) (hl : N.way.length ≤ 1048576) (i : Int) : Calls Try.prog 70 #[.pointer (some ⟨g, 0, none⟩), .int .i64 i] w fun e w' =>
    e = .returned (.bool true) ∧ NT w' g (.slice (some ⟨r, 0, none⟩) (N.way.length - 1) cap) c (outN N (atI i N.way.length)) ∧ Fr (fun j => j = g ∨ j = r) w w' := by
  have HO := hide (out_any hN h0 hl i)
  clear hN
  generalize N.way[atI i N.way.length]'(atI_lt i h0) = p at HO
  go_enter Try.func70, Try.ntmps70
  go_wp2_with fail
  refine HO.out.mono ?_
  rintro e w1 ⟨rfl, hN1, hf1⟩
  have HR := hide (show NT _ g _ c _ ∧ Fr _ w _ from ⟨hN1.below ((Below.refl _ _).alloc (Nat.le_refl _) (.cells p.cells.toArray 214)), hf1.alloc (.cells p.cells.toArray 214)⟩)
  clear hN1 hf1 HO
  unfold Pcl.cells
  go_wp2
  go_ret
  exact ⟨rfl, HR.out⟩
/-- A message, as Deliver hands it out. -/
structure Msg where
  k : Int
  f : Int
  t : Int
  i : Int
  b : ByteArray
def Msg.cells (m : Msg) : Array Value := #[.int .i64 m.k, .int .i64 m.f, .int .i64 m.t, .int .i64 m.i, .string m.b]
def msg0 : Msg := ⟨0, 0, 0, 0, ⟨#[]⟩⟩
theorem info63 : (Try.prog.info? 63).map (·.size) = some 5 := by kernel_rfl
theorem decM (l : List UInt8) : ∃ (m : Msg) (e : Int), decV l = .tuple #[.agg m.cells, .int .i64 e] := by
  obtain ⟨k, f, t, i, b, e, h⟩ := decV_shape l
  exact ⟨⟨k, f, t, i, b⟩, e, h⟩
def delRes (cut : Bool) (m : Msg) (ec : Int) : Value := if cut = true then .tuple #[.agg msg0.cells, .bool false] else .tuple #[.agg m.cells, .bool (ec == 0)]
set_option maxHeartbeats 4000000 in
set_option maxRecDepth 100000 in
theorem deliver_nil (i : Int) (w : World) : Calls Try.prog 69 #[.pointer none, .int .i64 i] w fun e w' => e = .returned (.tuple #[.agg msg0.cells, .bool false]) ∧ Below w.heap.size w w' := by
  have hb0 : Below w.heap.size w (w.alloc (.cells msg0.cells 63)) := (Below.refl _ _).alloc (Nat.le_refl _) _
  have HO := hide (out_nil i (w.alloc (.cells msg0.cells 63)))
  have HR := hide (obj_new w (.cells msg0.cells 63))
  have HB := hide hb0
  clear hb0
  simp only [Msg.cells, msg0] at HO HR HB
  go_enter Try.func69, Try.ntmps69
  go_wp2_with fail
  refine HO.out.mono ?_
  rintro e w1 ⟨rfl, hb1⟩
  have HR1 := hide (obj_alloc (obj_below HR.out hb1) (.cells z214a 214))
  have HB1 := hide ((HB.out.trans (hb1.mono HB.out.size)).alloc (HB.out.trans (hb1.mono HB.out.size)).size (.cells z214a 214))
  clear hb1
  unfold z214a at HR1 HB1 ⊢
  go_wp2_with fail
  go_quiet (fail)
  generalize hnq : (w1.alloc (.cells #[.int .i64 0, .int .i64 0, .string ⟨#[]⟩] 214)).drewN nq = w2
  have HR2 : Hid (w2.heap[w.heap.size]? = some (.cells #[.int .i64 0, .int .i64 0, .int .i64 0, .int .i64 0, .string ⟨#[]⟩] 63 (0, 0))) := hide (hnq ▸ HR1.out)
  have HB2 : Hid (Below w.heap.size w w2) := hide (hnq ▸ below_drewN HB1.out _)
  have hst := store_whole (P := Try.prog) (ty := 63) HR2.out (cells := #[.int .i64 0, .int .i64 0, .int .i64 0, .int .i64 0, .string ⟨#[]⟩]) info63 rfl (by simp [Value.oneCell'])
  have HST := hide hst
  clear hst hnq
  go_wp2_with (refine wpList_storev' rfl 63 (.tmp 4) (.tmp 27) rfl rfl rfl HST.out ?_)
  refine bodyPost_ret (res_ct rfl _ _ w.heap.size 63 _ (0, 0) _ rfl (setRow_at' HR2.out) Try.underlying63 rfl info63) rfl ?_
  exact ⟨rfl, HB2.out.trans ((setRow_fr' _ _ _).below _ HB2.out.size (fun q hq e => by omega))⟩
set_option maxHeartbeats 4000000 in
set_option maxRecDepth 100000 in
theorem deliver_off {w : World} {g c : Nat} {v : Value} {N : NetS} (hN : NT w g v c N) (h0 : N.way.length = 0) (i : Int) : Calls Try.prog 69 #[.pointer (some ⟨g, 0, none⟩), .int .i64 i] w fun e w' => e = .returned (.tuple #[.agg msg0.cells, .bool false]) ∧ Below w.heap.size w w' := by
  have hb0 : Below w.heap.size w (w.alloc (.cells msg0.cells 63)) := (Below.refl _ _).alloc (Nat.le_refl _) _
  have HO := hide (out_off (hN.below hb0) h0 i)
  have HR := hide (obj_new w (.cells msg0.cells 63))
  have HB := hide hb0
  clear hb0 hN
  simp only [Msg.cells, msg0] at HO HR HB
  go_enter Try.func69, Try.ntmps69
  go_wp2_with fail
  refine HO.out.mono ?_
  rintro e w1 ⟨rfl, hb1⟩
  have HR1 := hide (obj_alloc (obj_below HR.out hb1) (.cells z214a 214))
  have HB1 := hide ((HB.out.trans (hb1.mono HB.out.size)).alloc (HB.out.trans (hb1.mono HB.out.size)).size (.cells z214a 214))
  clear hb1
  unfold z214a at HR1 HB1 ⊢
  go_wp2_with fail
  go_quiet (fail)
  generalize hnq : (w1.alloc (.cells #[.int .i64 0, .int .i64 0, .string ⟨#[]⟩] 214)).drewN nq = w2
  have HR2 : Hid (w2.heap[w.heap.size]? = some (.cells #[.int .i64 0, .int .i64 0, .int .i64 0, .int .i64 0, .string ⟨#[]⟩] 63 (0, 0))) := hide (hnq ▸ HR1.out)
  have HB2 : Hid (Below w.heap.size w w2) := hide (hnq ▸ below_drewN HB1.out _)
  have hst := store_whole (P := Try.prog) (ty := 63) HR2.out (cells := #[.int .i64 0, .int .i64 0, .int .i64 0, .int .i64 0, .string ⟨#[]⟩]) info63 rfl (by simp [Value.oneCell'])
  have HST := hide hst
  clear hst hnq
  go_wp2_with (refine wpList_storev' rfl 63 (.tmp 4) (.tmp 27) rfl rfl rfl HST.out ?_)
  refine bodyPost_ret (res_ct rfl _ _ w.heap.size 63 _ (0, 0) _ rfl (setRow_at' HR2.out) Try.underlying63 rfl info63) rfl ?_
  exact ⟨rfl, HB2.out.trans ((setRow_fr' _ _ _).below _ HB2.out.size (fun q hq e => by omega))⟩
set_option maxHeartbeats 4000000 in
set_option maxRecDepth 100000 in
theorem deliver_any {w : World} {g c r cap : Nat} {N : NetS} (hN : NT w g (.slice (some ⟨r, 0, none⟩) N.way.length cap) c N) (h0 : 0 < N.way.length) (hl : N.way.length ≤ 1048576) (i : Int) {m : Msg} {ec : Int} (p : Pcl) (hp : p = N.way[atI i N.way.length]'(atI_lt i h0))
    (hd : decV p.s = .tuple #[.agg m.cells, .int .i64 ec]) (h4 : 4 ≤ p.s.length) (hs : p.s.length ≤ 1073741824) : Calls Try.prog 69 #[.pointer (some ⟨g, 0, none⟩), .int .i64 i] w fun e w' =>
    e = .returned (delRes (N.cuts (p.a, p.b)) m ec) ∧ NT w' g (.slice (some ⟨r, 0, none⟩) (N.way.length - 1) cap) c (outN N (atI i N.way.length)) ∧ Fr (fun j => j = g ∨ j = r) w w' := by
  have hb0 : Below w.heap.size w (w.alloc (.cells msg0.cells 63)) := (Below.refl _ _).alloc (Nat.le_refl _) _
  have hg := obj_lt hN.1
  have hrl := row_lt hN.2.1 (k := r) rfl
  have hcl := hN.2.2.lt
  have ho := out_any (hN.below hb0) h0 hl i
  rw [← hp] at ho
  have HO := hide ho
  have HR := hide (obj_new w (.cells msg0.cells 63))
  have HB := hide hb0
  have hsz0 : (w.alloc (.cells msg0.cells 63)).heap.size = w.heap.size + 1 := by simp
  clear hb0 ho hN hp
  simp only [Msg.cells, msg0] at HO HR HB hsz0
  go_enter Try.func69, Try.ntmps69
  go_wp2_with fail
  refine HO.out.mono ?_
  rintro e w1 ⟨rfl, hN1, hf1⟩
  have hbx := (Below.refl w1.heap.size w1).alloc (Nat.le_refl _) (.cells p.cells.toArray 214)
  have HN1 := hide (hN1.below hbx)
  have HR1 := hide (obj_alloc (hf1.obj HR.out (by omega)) (.cells p.cells.toArray 214))
  have HF1 := hide (((Fr.of_below (F := fun j => j = g ∨ j = r) HB.out).trans hf1 (fun q _ e => e)).alloc (.cells p.cells.toArray 214))
  have HP1 := hide (obj_new w1 (.cells p.cells.toArray 214))
  have h1s := hf1.size
  clear hN1 hf1 hbx HO
  obtain ⟨pa, pb, ps⟩ := p
  simp only [Pcl.cells] at HN1 HR1 HF1 HP1 hd h4 hs ⊢
  go_wp2_with fail
  obtain ⟨W, hW⟩ : ∃ W, W = w1.alloc (.cells #[.int .i64 pa, .int .i64 pb, .string ⟨ps.toArray⟩] 214) := ⟨_, rfl⟩
  rw [← hW] at HN1 HR1 HF1 HP1 ⊢
  have z2 := obj_cell HN1.out.1 2
  have p0 := obj_cell HP1.out 0
  have p1 := obj_cell HP1.out 1
  have p2 := obj_cell HP1.out 2
  simp only [List.getElem?_toArray, List.getElem?_cons_zero, List.getElem?_cons_succ] at z2 p0 p1 p2
  have hlk : ∀ n, (Instr.lookup 206 (.map (some c)) (.agg #[.int .i64 pa, .int .i64 pb]) false).run Try.prog (W.drewN n) = .ok (.bool (N.cuts (pa, pb))) (W.drewN n) := fun n => lookup_any (HN1.out.below (below_drewN (Below.refl _ _) n)).2.2 (pa, pb)
  have HWE := hide hW
  clear hW
  obtain ⟨cut, hcut⟩ : ∃ b, b = N.cuts (pa, pb) := ⟨_, rfl⟩
  rw [← hcut] at hlk
  have HCUT := hide hcut
  clear hcut
  go_quiet (fail)
  have HN2 := hide (HN1.out.below (below_drewN (Below.refl _ _) nq))
  have HF2 := hide (HF1.out.drewN nq)
  have HR2 : Hid ((W.drewN nq).heap[w.heap.size]? = _) := hide HR1.out
  have HP2 : Hid ((W.drewN nq).heap[w1.heap.size]? = _) := hide HP1.out
  generalize W.drewN nq = w2 at HN2 HF2 HR2 HP2 ⊢
  clear hlk z2 p0 p1 p2 HWE HN1 HF1 HR1 HP1
  rcases cut with _ | _
  · have p2 := obj_cell HP2.out 2
    simp only [List.getElem?_toArray, List.getElem?_cons_zero, List.getElem?_cons_succ] at p2
    have hgl := obj_lt HN2.out.1
    go_wp2_with fail
    refine (decode_any ⟨ps.toArray⟩ _ (by rw [str_size]; exact h4) (by rw [str_size]; exact hs)).mono ?_
    rintro e w3 ⟨he, hb3⟩
    rw [str_list, hd] at he
    subst he
    have hbx := hb3.alloc hb3.size (.cells #[.int .i64 m.k, .int .i64 m.f, .int .i64 m.t, .int .i64 m.i, .string m.b] 63)
    have HN3 := hide (HN2.out.below hbx)
    have HF3 := hide (HF2.out.then_below hbx)
    have HR3 := hide (obj_below HR2.out hbx)
    clear hb3 hbx p2
    have hst := store_whole (P := Try.prog) (ty := 63) HR3.out (cells := #[.int .i64 m.k, .int .i64 m.f, .int .i64 m.t, .int .i64 m.i, .string m.b]) info63 rfl (by simp [Value.oneCell'])
    have HST := hide hst
    have HNF := hide (HN3.out.fr (setRow_fr' _ w.heap.size #[.int .i64 m.k, .int .i64 m.f, .int .i64 m.t, .int .i64 m.i, .string m.b]) (by omega) (by omega) (fun j e => by cases e; show ¬ r = w.heap.size; omega))
    have HFF := hide (HF3.out.trans (setRow_fr' _ w.heap.size #[.int .i64 m.k, .int .i64 m.f, .int .i64 m.t, .int .i64 m.i, .string m.b]) (fun q hq e => by omega))
    clear hst
    unfold Msg.cells
    go_wp2_with (refine wpList_storev' rfl 63 (.tmp 4) (.tmp 34) rfl rfl rfl HST.out ?_)
    refine bodyPost_ret (res_ct rfl _ _ w.heap.size 63 _ (0, 0) _ rfl (setRow_at' (C' := #[.int .i64 m.k, .int .i64 m.f, .int .i64 m.t, .int .i64 m.i, .string m.b]) HR3.out) Try.underlying63 rfl info63) rfl ?_
    rw [← HCUT.out]
    exact ⟨rfl, HNF.out, HFF.out⟩
  · have hst := store_whole (P := Try.prog) (ty := 63) HR2.out (cells := #[.int .i64 0, .int .i64 0, .int .i64 0, .int .i64 0, .string ⟨#[]⟩]) info63 rfl (by simp [Value.oneCell'])
    have HST := hide hst
    have HNF := hide (HN2.out.fr (setRow_fr' _ w.heap.size #[.int .i64 0, .int .i64 0, .int .i64 0, .int .i64 0, .string ⟨#[]⟩]) (by omega) (by omega) (fun j e => by cases e; show ¬ r = w.heap.size; omega))
    have HFF := hide (HF2.out.trans (setRow_fr' _ w.heap.size #[.int .i64 0, .int .i64 0, .int .i64 0, .int .i64 0, .string ⟨#[]⟩]) (fun q hq e => by omega))
    clear hst
    go_wp2_with (refine wpList_storev' rfl 63 (.tmp 4) (.tmp 27) rfl rfl rfl HST.out ?_)
    refine bodyPost_ret (res_ct rfl _ _ w.heap.size 63 _ (0, 0) _ rfl (setRow_at' HR2.out) Try.underlying63 rfl info63) rfl ?_
    rw [← HCUT.out]
    exact ⟨rfl, HNF.out, HFF.out⟩
end Go.Proofs.Ytljmaicobafgkaa
end
