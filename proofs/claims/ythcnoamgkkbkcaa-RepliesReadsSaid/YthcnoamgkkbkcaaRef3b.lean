/- The walks of the references' takers. -/
import Derived.Test.YthcnoamgkkbkcaaRef3
namespace Go.Proofs.Ythcnoamgkkbkcaa
open Go.RowKit

theorem takeInt_none (w : World) :
    Calls Try.prog 74 #[.agg #[.string ⟨#[]⟩, .bool true]] w fun e w' => e = .returned (.tuple #[.agg (rdrCells none), .int .i64 0]) ∧ Below w.heap.size w w' := by
  go_enter Try.func74, Try.ntmps74
  go_wp2
  go_loop [4, 5, 6, 7] (fun q i _ _ => ∃ k : Nat, i = .int .i64 k) (fun _ i _ _ => 10 - (intOf i).toNat)
  case atStart => exact ⟨0, rfl⟩
  case round =>
    obtain ⟨k, rfl⟩ := hrel
    go_wp2_with fail
    refine (bad_any _ _ _).mono ?_
    rintro e w2 ⟨rfl, hb2⟩
    have hbw : Below w.heap.size w ((w.alloc (.cells #[.string ⟨#[]⟩, .bool true] 135)).alloc (.cells #[.string ⟨#[]⟩, .bool false] 135)) := ((Below.refl _ _).alloc (Nat.le_refl _) _).alloc (by simp) _
    have hz := obj_below (obj_new2 w (.cells #[.string ⟨#[]⟩, .bool true] 135) (.cells #[.string ⟨#[]⟩, .bool false] 135)) hb2
    have z0 := obj_cell hz 0
    have z1 := obj_cell hz 1
    have f0 := obj_frozen hz 0
    have f1 := obj_frozen hz 1
    simp only [List.getElem?_toArray, List.getElem?_cons_zero, List.getElem?_cons_succ] at z0 z1
    have HZ := hide hz
    have HB2 := hide (hbw.trans (hb2.mono (by simp; omega)))
    clear hz hb2 hbw
    unfold rdrCells
    go_wp2
    refine bodyPost_ret (res_ct rfl _ _ (w.heap.size + 1) 135 (rdrCells none) _ _ rfl (set_two _ _ _ _ _ _ HZ.out) Try.underlying135 rfl (by kernel_rfl)) rfl ⟨rfl, ?_⟩
    exact (HB2.out.setCell (p := ⟨w.heap.size + 1, 0, none⟩) (by simp) _).setCell (p := ⟨w.heap.size + 1, 1, none⟩) (by simp) _
theorem r3TakeInt_any (σ : Option (List UInt8)) (w : World) (hl : ∀ l, σ = some l → l.length ≤ 1073741824) :
    Calls Try.prog 74 #[.agg (rdrCells σ)] w fun e w' => e = .returned (.tuple #[.agg (rdrCells (rInt σ).2), .int .i64 (rInt σ).1]) ∧ Below w.heap.size w w' := by
  rcases σ with _ | l
  · exact takeInt_none w
  · exact takeInt_any3 l w (hl l rfl)
set_option maxRecDepth 100000 in
theorem r3TakeByte_any (σ : Option (List UInt8)) (w : World) :
    Calls Try.prog 73 #[.agg (rdrCells σ)] w fun e w' => e = .returned (.tuple #[.agg (rdrCells (rByte σ).2), .int .i64 (rByte σ).1]) ∧ Below w.heap.size w w' := by
  rcases σ with _ | l
  · unfold rdrCells rByte
    go_enter Try.func73, Try.ntmps73
    go_wp2_with fail
    refine (bad_any _ _ _).mono ?_
    rintro e w2 ⟨rfl, hb2⟩
    have hbw : Below w.heap.size w ((w.alloc (.cells #[.string ⟨#[]⟩, .bool true] 135)).alloc (.cells #[.string ⟨#[]⟩, .bool false] 135)) := ((Below.refl _ _).alloc (Nat.le_refl _) _).alloc (by simp) _
    have hz := obj_below (obj_new2 w (.cells #[.string ⟨#[]⟩, .bool true] 135) (.cells #[.string ⟨#[]⟩, .bool false] 135)) hb2
    have z0 := obj_cell hz 0
    have z1 := obj_cell hz 1
    have f0 := obj_frozen hz 0
    have f1 := obj_frozen hz 1
    simp only [List.getElem?_toArray, List.getElem?_cons_zero, List.getElem?_cons_succ] at z0 z1
    have HZ := hide hz
    have HB2 := hide (hbw.trans (hb2.mono (by simp; omega)))
    clear hz hb2 hbw
    unfold rdrCells
    go_wp2
    refine bodyPost_ret (res_ct rfl _ _ (w.heap.size + 1) 135 (rdrCells none) _ _ rfl (set_two _ _ _ _ _ _ HZ.out) Try.underlying135 rfl (by kernel_rfl)) rfl ⟨rfl, ?_⟩
    exact (HB2.out.setCell (p := ⟨w.heap.size + 1, 0, none⟩) (by simp) _).setCell (p := ⟨w.heap.size + 1, 1, none⟩) (by simp) _
  · rcases l with _ | ⟨b, r⟩
    · unfold rdrCells rByte
      go_enter Try.func73, Try.ntmps73
      go_wp2_with fail
      refine (bad_any _ _ _).mono ?_
      rintro e w2 ⟨rfl, hb2⟩
      have hbw : Below w.heap.size w ((w.alloc (.cells #[.string ⟨#[]⟩, .bool false] 135)).alloc (.cells #[.string ⟨#[]⟩, .bool false] 135)) := ((Below.refl _ _).alloc (Nat.le_refl _) _).alloc (by simp) _
      have hz := obj_below (obj_new2 w (.cells #[.string ⟨#[]⟩, .bool false] 135) (.cells #[.string ⟨#[]⟩, .bool false] 135)) hb2
      have z0 := obj_cell hz 0
      have z1 := obj_cell hz 1
      have f0 := obj_frozen hz 0
      have f1 := obj_frozen hz 1
      simp only [List.getElem?_toArray, List.getElem?_cons_zero, List.getElem?_cons_succ] at z0 z1
      have HZ := hide hz
      have HB2 := hide (hbw.trans (hb2.mono (by simp; omega)))
      clear hz hb2 hbw
      unfold rdrCells
      go_wp2
      refine bodyPost_ret (res_ct rfl _ _ (w.heap.size + 1) 135 (rdrCells none) _ _ rfl (set_two _ _ _ _ _ _ HZ.out) Try.underlying135 rfl (by kernel_rfl)) rfl ⟨rfl, ?_⟩
      exact (HB2.out.setCell (p := ⟨w.heap.size + 1, 0, none⟩) (by simp) _).setCell (p := ⟨w.heap.size + 1, 1, none⟩) (by simp) _
    · obtain ⟨s, hs⟩ : ∃ s : ByteArray, s = ⟨(b :: r).toArray⟩ := ⟨_, rfl⟩
      have hz : 1 ≤ s.size := by rw [hs, str_size]; simp
      have hx : s.extract 1 s.size = ⟨r.toArray⟩ := by
        rw [hs]
        exact ext_drop (b :: r) 1
      have hi : ∀ h : 0 < s.size, s[0]'h = b := by subst hs; intro h; rfl
      have h0 : 0 < s.size := by omega
      have hz1 : (1 : Int) ≤ (s.size : Int) := by omega
      have hz2 : (0 : Int) < (s.size : Int) := by omega
      have hsl : ∀ w1 : World, (Instr.slice 9 (.string s) (some (.int .i64 1)) none none).run Try.prog w1 = .ok (.string ⟨r.toArray⟩) w1 := fun w1 => by
        rw [← hx]
        have e : ¬ ((s.size : Int) < 1) := by omega
        subst hs
        go_simp
        intro h
        omega
      have hne : s.toList.isEmpty = false := by rw [Lib.toList_data, hs]; rfl
      have hb := b.toNat_lt
      unfold rdrCells rByte
      simp only
      rw [← hs]
      clear hs
      go_enter Try.func73, Try.ntmps73
      go_wp2
      go_region
      go_wp2
      refine bodyPost_ret (res_ct rfl _ _ (w.heap.size + 1) 135 (rdrCells (some r)) _ _ rfl (obj_new2 _ _ _) Try.underlying135 rfl (by kernel_rfl)) rfl ⟨rfl, ?_⟩
      exact (((Below.refl _ _).alloc (Nat.le_refl _) _).alloc (by simp) _).drew

set_option maxHeartbeats 2000000 in
set_option maxRecDepth 100000 in
theorem r3TakeText_any (σ : Option (List UInt8)) (w : World) (hl : ∀ l, σ = some l → l.length ≤ 1073741824) :
    Calls Try.prog 98 #[.agg (rdrCells σ)] w fun e w' => e = .returned (.tuple #[.agg (rdrCells (rText σ).2), .string ⟨(rText σ).1.toArray⟩]) ∧ Below w.heap.size w w' := by
  have HL := hide hl
  clear hl
  obtain ⟨sv, bv, hσ⟩ : ∃ sv bv, rdrCells σ = #[sv, bv] := by cases σ <;> exact ⟨_, _, rfl⟩
  by_cases hok : ∃ r, (rInt σ).2 = some r ∧ 0 ≤ (rInt σ).1 ∧ (rInt σ).1 ≤ (r.length : Int)
  · obtain ⟨r, h2, h0, h1⟩ := hok
    have hrl : r.length ≤ 1073741824 := rInt_len h2 HL.out
    obtain ⟨n, hn⟩ : ∃ n : Nat, (rInt σ).1 = n := ⟨(rInt σ).1.toNat, by omega⟩
    have ht : rText σ = (r.take n, some (r.drop n)) := by
      unfold rText
      rw [h2]
      simp only [hn]
      rw [if_pos (by omega)]
      rfl
    have hcall := r3TakeInt_any σ
    rw [h2, hn] at hcall
    have HC := hide hcall
    rw [ht]
    rw [hn] at h1
    have h1' : n ≤ r.length := by omega
    have HS := hide hσ
    rw [hσ]
    clear ht hcall h2 hn h0 hσ
    have hz : (⟨r.toArray⟩ : ByteArray).size = r.length := rfl
    have hx := ext_take r n
    have hy := ext_drop r n
    go_enter Try.func98, Try.ntmps98
    go_wp2_with fail
    rw [← HS.out]
    refine (HC.out _ HL.out).mono ?_
    rintro e w1 ⟨rfl, hb1⟩
    rw [HS.out] at hb1
    have hbw : Below w.heap.size w ((w.alloc (.cells #[sv, bv] 135)).alloc (.cells #[.string ⟨#[]⟩, .bool false] 135)) := ((Below.refl _ _).alloc (Nat.le_refl _) _).alloc (by simp) _
    have hbz := obj_below (obj_new2 w (.cells #[sv, bv] 135) (.cells #[.string ⟨#[]⟩, .bool false] 135)) hb1
    have z0 := obj_cell hbz 0
    have z1 := obj_cell hbz 1
    have f0 := obj_frozen hbz 0
    have f1 := obj_frozen hbz 1
    simp only [List.getElem?_toArray, List.getElem?_cons_zero, List.getElem?_cons_succ] at z0 z1
    have HZ := hide hbz
    have HB1 := hide (hbw.trans (hb1.mono (by simp; omega)))
    have hs1 := hb1.size
    simp only [World.size_alloc] at hs1
    have hs2 : w.heap.size + 1 < w1.heap.size := by omega
    have hs3 : w.heap.size < w1.heap.size := by omega
    clear hbz hb1 hbw
    rw [HS.out, show rdrCells (some r) = #[.string ⟨r.toArray⟩, .bool false] from rfl]
    go_wp2
    go_region
    go_wp2
    refine bodyPost_ret (res_ct rfl _ _ (w.heap.size + 1) 135 (rdrCells (some (r.drop n))) _ _ rfl (obj_alloc (set_two _ _ _ _ _ _ HZ.out) _) Try.underlying135 rfl (by kernel_rfl)) rfl ⟨rfl, ?_⟩
    exact (((HB1.out.setCell (p := ⟨w.heap.size + 1, 0, none⟩) (by simp) _).setCell (p := ⟨w.heap.size + 1, 1, none⟩) (by simp) _).alloc (by simp [World.setCell]; omega) _).drew
  · have ht : rText σ = ([], none) := by
      unfold rText
      split
      · rfl
      · rename_i r h2
        rw [if_neg (fun hh => hok ⟨r, h2, hh.1, hh.2⟩)]
    have hcall := r3TakeInt_any σ
    obtain ⟨s2, b2, hs2⟩ : ∃ s2 b2, rdrCells (rInt σ).2 = #[.string s2, .bool b2] := by cases (rInt σ).2 <;> exact ⟨_, _, rfl⟩
    have hneg : b2 = true ∨ (b2 = false ∧ (rInt σ).1 < 0) ∨ (b2 = false ∧ ¬ (rInt σ).1 < 0 ∧ (s2.size : Int) < (rInt σ).1) := by
      rcases h2 : (rInt σ).2 with _ | r
      · rw [h2] at hs2
        simp only [rdrCells, Array.mk.injEq, List.cons.injEq, Value.bool.injEq, Value.string.injEq, and_true] at hs2
        exact .inl hs2.2.symm
      · rw [h2] at hs2
        simp only [rdrCells, Array.mk.injEq, List.cons.injEq, Value.bool.injEq, Value.string.injEq, and_true] at hs2
        obtain ⟨rfl, rfl⟩ := hs2
        rcases Int.lt_or_le (rInt σ).1 0 with h | h
        · exact .inr (.inl ⟨rfl, h⟩)
        · exact .inr (.inr ⟨rfl, by omega, Int.not_le.1 (fun h' => hok ⟨r, h2, h, by rw [str_size] at h'; exact h'⟩)⟩)
    obtain ⟨n, hn⟩ : ∃ n, n = (rInt σ).1 := ⟨_, rfl⟩
    rw [← hn] at hneg
    rw [hs2, ← hn] at hcall
    have HC := hide hcall
    rw [ht]
    have HS := hide hσ
    rw [hσ]
    clear ht hcall hn hσ hs2 hok
    rcases hneg with rfl | ⟨rfl, hn⟩ | ⟨rfl, hn0, hn⟩
    all_goals
      go_enter Try.func98, Try.ntmps98
      go_wp2_with fail
      rw [← HS.out]
      refine (HC.out _ HL.out).mono ?_
      rintro e w1 ⟨rfl, hb1⟩
      rw [HS.out] at hb1
      have hbw : Below w.heap.size w ((w.alloc (.cells #[sv, bv] 135)).alloc (.cells #[.string ⟨#[]⟩, .bool false] 135)) := ((Below.refl _ _).alloc (Nat.le_refl _) _).alloc (by simp) _
      have hbx := obj_below (obj_alloc (obj_new w (.cells #[sv, bv] 135)) (.cells #[.string ⟨#[]⟩, .bool false] 135)) hb1
      have y0 := obj_cell hbx 0
      have y1 := obj_cell hbx 1
      have hbz := obj_below (obj_new2 w (.cells #[sv, bv] 135) (.cells #[.string ⟨#[]⟩, .bool false] 135)) hb1
      simp only [List.getElem?_toArray, List.getElem?_cons_zero, List.getElem?_cons_succ] at y0 y1
      have HZ := hide hbz
      have HB1 := hide (hbw.trans (hb1.mono (by simp; omega)))
      have hs1 := hb1.size
      simp only [World.size_alloc] at hs1
      have hs2 : w.heap.size + 1 < w1.heap.size := by omega
      have hs3 : w.heap.size < w1.heap.size := by omega
      clear hbz hb1 hbw hbx
      rw [HS.out]
      go_wp2_with fail
      refine (bad_any _ _ _).mono ?_
      rintro e w2 ⟨rfl, hb2⟩
      have hbz := obj_below (obj_alloc HZ.out _) hb2
      have z0 := obj_cell hbz 0
      have z1 := obj_cell hbz 1
      have f0 := obj_frozen hbz 0
      have f1 := obj_frozen hbz 1
      simp only [List.getElem?_toArray, List.getElem?_cons_zero, List.getElem?_cons_succ] at z0 z1
      have HZ2 := hide hbz
      have HB2 := hide ((HB1.out.alloc (by omega) _).trans (hb2.mono (by simp; omega)))
      clear hbz hb2
      rw [show rdrCells none = #[.string ⟨#[]⟩, .bool true] from rfl]
      go_wp2
      refine bodyPost_ret (res_ct rfl _ _ (w.heap.size + 1) 135 (rdrCells none) _ _ rfl (set_two _ _ _ _ _ _ HZ2.out) Try.underlying135 rfl (by kernel_rfl)) rfl ⟨rfl, ?_⟩
      exact ((HB2.out).setCell (p := ⟨w.heap.size + 1, 0, none⟩) (by simp) _).setCell (p := ⟨w.heap.size + 1, 1, none⟩) (by simp) _
end Go.Proofs.Ythcnoamgkkbkcaa
