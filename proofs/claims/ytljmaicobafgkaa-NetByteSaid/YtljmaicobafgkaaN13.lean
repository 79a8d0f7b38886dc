/- A join of 1 texts of this claim: NtW2. Conditions: none of their own. -/
import Derived.Test.YtljmaicobafgkaaN10
section
/- Chapter 13, net: the walk of NetByte. -/
namespace Go.Proofs.Ytljmaicobafgkaa
open Go.RowKit

def oneN (p : Pcl) : NetS := ⟨64, [p], noCuts⟩
theorem send_one (f t : Int) (s : List UInt8) : sendN (net0 64) f t s = oneN ⟨(lnk f t).1, (lnk f t).2, s⟩ := rfl
theorem spo_one (p : Pcl) (a y : Int) : spN (oneN p) (atI 0 (oneN p).way.length) (atI_lt 0 (Nat.succ_pos _)) a y = oneN (spP p a y) := rfl
theorem out_one (p : Pcl) : outN (oneN p) (atI 0 (oneN p).way.length) = ⟨64, [], noCuts⟩ := rfl
theorem spoil_one {w : World} {g c r cap : Nat} {p : Pcl} (hN : NT w g (.slice (some ⟨r, 0, none⟩) 1 cap) c (oneN p)) (a y : Int) (h4 : 4 ≤ p.s.length) (hs : p.s.length ≤ 10000) :
    Calls Try.prog 80 #[.pointer (some ⟨g, 0, none⟩), .int .i64 0, .int .i64 a, .int .i64 y] w fun e w' => e = .returned (.bool true) ∧ NT w' g (.slice (some ⟨r, 0, none⟩) 1 cap) c (oneN (spP p a y)) ∧ Fr (fun j => j = r) w w' :=
  spoil_any hN (Nat.succ_pos _) (by show 1 ≤ 1048576; decide) 0 a y (show 0 < p.s.length by omega) (show p.s.length ≤ 1073741824 by omega)
theorem deliver_one {w : World} {g c r cap : Nat} {p : Pcl} (hN : NT w g (.slice (some ⟨r, 0, none⟩) 1 cap) c (oneN p)) (k f t i : Int) (b : ByteArray) (ec : Int) (hd : decV p.s = mV k f t i b ec) (h4 : 4 ≤ p.s.length) (hs : p.s.length ≤ 10000) :
    Calls Try.prog 69 #[.pointer (some ⟨g, 0, none⟩), .int .i64 0] w fun e w' => e = .returned (.tuple #[.agg #[.int .i64 k, .int .i64 f, .int .i64 t, .int .i64 i, .string b], .bool (ec == 0)]) ∧ Fr (fun j => j = g ∨ j = r) w w' :=
  (deliver_any hN (Nat.succ_pos _) (by show 1 ≤ 1048576; decide) 0 (m := ⟨k, f, t, i, b⟩) (ec := ec) p rfl hd h4 (by omega)).mono fun e w' ⟨h1, h2, h3⟩ => ⟨h1, h3⟩
set_option maxHeartbeats 8000000 in
set_option maxRecDepth 1000000 in
theorem byte_fail (mk mf mt mi : Int) (mb : ByteArray) (a y : Int) (w : World) (o : ByteArray) (ec : Int) (hE : EncTo mk mf mt mi mb o ec) (h : ¬ (canS (net0 64) mf mt ∧ ec = 0)) :
    Calls Try.prog 17 #[.agg #[.int .i64 mk, .int .i64 mf, .int .i64 mt, .int .i64 mi, .string mb], .int .i64 a, .int .u8 y] w fun e w' => e = .returned (.bool true) ∧ Below w.heap.size w w' := by
  have hbx := (Below.refl w.heap.size w).alloc (Nat.le_refl _) (.cells #[.int .i64 mk, .int .i64 mf, .int .i64 mt, .int .i64 mi, .string mb] 63)
  have HX := hide (obj_new w (.cells #[.int .i64 mk, .int .i64 mf, .int .i64 mt, .int .i64 mi, .string mb] 63))
  have HB := hide hbx
  have HE := hide hE
  have HH := hide h
  clear hbx h hE
  go_enter Try.func17, Try.ntmps17
  go_wp2_with fail
  refine (new13_any 64 _).mono ?_
  rintro e w1 ⟨rfl, hn1, hb1⟩
  have HN1 := hide (show NT _ _ _ _ (net0 64) from hn1)
  have HX1 := hide (obj_below HX.out hb1)
  have HB1 := hide (HB.out.trans (hb1.mono HB.out.size))
  clear hn1 hb1
  go_wp2_with fail
  refine (new13_any 64 _).mono ?_
  rintro e w2 ⟨rfl, hn2, hb2⟩
  have HN2 := hide (HN1.out.below hb2)
  have HX2 := hide (obj_below HX1.out hb2)
  have HB2 := hide (HB1.out.trans (hb2.mono HB1.out.size))
  clear hn2 hb2
  have m0 := obj_cell HX2.out 0
  have m1 := obj_cell HX2.out 1
  have m2 := obj_cell HX2.out 2
  have m3 := obj_cell HX2.out 3
  have m4 := obj_cell HX2.out 4
  simp only [List.getElem?_toArray, List.getElem?_cons_zero, List.getElem?_cons_succ] at m0 m1 m2 m3 m4
  have HS : Hid (Calls Try.prog 68 #[.pointer (some ⟨(w.alloc (.cells #[.int .i64 mk, .int .i64 mf, .int .i64 mt, .int .i64 mi, .string mb] 63)).heap.size + 1, 0, none⟩), .agg #[.int .i64 mk, .int .i64 mf, .int .i64 mt, .int .i64 mi, .string mb]] w2 fun e w' => e = .returned (.bool false) ∧ Below w2.heap.size w2 w') := by
    by_cases hc : canS (net0 64) mf mt
    · exact hide (send_err HN2.out mk mf mt mi mb o ec hc.1 hc.2.1 hc.2.2 HE.out (fun h0 => HH.out ⟨hc, h0⟩))
    · exact hide (send_no HN2.out (Nat.zero_le _) mk mf mt mi mb hc)
  simp only [World.size_alloc] at HS
  go_wp2_with fail
  refine HS.out.mono ?_
  rintro e w3 ⟨rfl, hb3⟩
  have HB3 := hide (HB2.out.trans (hb3.mono HB2.out.size))
  clear hb3
  go_wp2_with fail
  refine (awake13 _).mono ?_
  rintro e w4 ⟨rfl, hb4⟩
  go_wp2
  go_ret
  exact ⟨rfl, HB3.out.trans (hb4.mono HB3.out.size)⟩
set_option maxHeartbeats 8000000 in
set_option maxRecDepth 1000000 in
theorem byte_yes (mk mf mt mi : Int) (mb : ByteArray) (a y : Int) (w : World) (o : ByteArray) (hE : EncTo mk mf mt mi mb o 0) (hc : canS (net0 64) mf mt) (p : Pcl) (hp : p = ⟨(lnk mf mt).1, (lnk mf mt).2, o.data.toList⟩)
    (h4 : 4 ≤ p.s.length) (hs : p.s.length ≤ 10000) (hy0 : 0 ≤ y) (hy1 : y ≤ 255) (hy : (y == 0) = true) (hA : decV (spL p.s a y) = mV mk mf mt mi mb 0) (hB : spL (spL p.s a y) a y = p.s) (hd : decV p.s = mV mk mf mt mi mb 0) :
    Calls Try.prog 17 #[.agg #[.int .i64 mk, .int .i64 mf, .int .i64 mt, .int .i64 mi, .string mb], .int .i64 a, .int .u8 y] w fun e w' => e = .returned (.bool true) ∧ Below w.heap.size w w' := by
  have hbx := (Below.refl w.heap.size w).alloc (Nat.le_refl _) (.cells #[.int .i64 mk, .int .i64 mf, .int .i64 mt, .int .i64 mi, .string mb] 63)
  have HX := hide (obj_new w (.cells #[.int .i64 mk, .int .i64 mf, .int .i64 mt, .int .i64 mi, .string mb] 63))
  have HB := hide hbx
  have HE := hide hE
  have HC := hide hc
  have HP := hide hp
  have HAA := hide hA
  have HBB := hide hB
  have HDD := hide hd
  clear hbx hc hp hE hA hB hd
  go_enter Try.func17, Try.ntmps17
  go_wp2_with fail
  refine (new13_any 64 _).mono ?_
  rintro e w1 ⟨rfl, hn1, hb1⟩
  have HN1 := hide (show NT _ _ _ _ (net0 64) from hn1)
  have HX1 := hide (obj_below HX.out hb1)
  have HB1 := hide (HB.out.trans (hb1.mono HB.out.size))
  have l1 := obj_lt hn1.1
  simp only [World.size_alloc] at l1 HN1
  clear hn1 hb1
  go_wp2_with fail
  refine (new13_any 64 _).mono ?_
  rintro e w2 ⟨rfl, hn2, hb2⟩
  have HA2 := hide (HN1.out.below hb2)
  have HN2 := hide (show NT _ _ _ _ (net0 64) from hn2)
  have HX2 := hide (obj_below HX1.out hb2)
  have HB2 := hide (HB1.out.trans (hb2.mono HB1.out.size))
  have l2 := obj_lt hn2.1
  clear hn2 hb2 HX HX1 HN1 HB1 HB
  have m0 := obj_cell HX2.out 0
  have m1 := obj_cell HX2.out 1
  have m2 := obj_cell HX2.out 2
  have m3 := obj_cell HX2.out 3
  have m4 := obj_cell HX2.out 4
  simp only [List.getElem?_toArray, List.getElem?_cons_zero, List.getElem?_cons_succ] at m0 m1 m2 m3 m4
  go_wp2_with fail
  refine (send_ok HA2.out mk mf mt mi mb o HC.out.1 HC.out.2.1 HC.out.2.2 HE.out).mono ?_
  rintro e w3 ⟨rfl, ⟨va, hn3, hv3⟩, hf3⟩
  rw [send_one, ← HP.out] at hn3
  obtain ⟨ra, capa, rfl⟩ := hn3.some (Nat.succ_pos _)
  have lr : w2.heap.size ≤ ra := (hv3 ra rfl).elim (fun e => by cases e) id
  have l3 := row_lt hn3.2.1 (k := ra) rfl
  have HA3 := hide hn3
  have HN3 := hide (NT.fr HN2.out hf3 (by rintro (h | h); omega; cases h) (by rintro (h | h); omega; cases h) (fun k h => by cases h))
  have HX3 := hide (hf3.obj HX2.out (by rintro (h | h); omega; cases h))
  have HB3 := hide (HB2.out.trans (hf3.below _ HB2.out.size (fun k hk => by rintro (h | h); omega; cases h)))
  clear hn3 hv3 hf3 HA2 HN2 HX2 HB2 m0 m1 m2 m3 m4
  have m0 := obj_cell HX3.out 0
  have m1 := obj_cell HX3.out 1
  have m2 := obj_cell HX3.out 2
  have m3 := obj_cell HX3.out 3
  have m4 := obj_cell HX3.out 4
  simp only [List.getElem?_toArray, List.getElem?_cons_zero, List.getElem?_cons_succ] at m0 m1 m2 m3 m4
  go_wp2_with fail
  refine (send_ok HN3.out mk mf mt mi mb o HC.out.1 HC.out.2.1 HC.out.2.2 HE.out).mono ?_
  rintro e w4 ⟨rfl, ⟨vb, hn4, hv4⟩, hf4⟩
  rw [send_one, ← HP.out] at hn4
  obtain ⟨rb, capb, rfl⟩ := hn4.some (Nat.succ_pos _)
  have lr4 : w3.heap.size ≤ rb := (hv4 rb rfl).elim (fun e => by cases e) id
  have l4 := row_lt hn4.2.1 (k := rb) rfl
  have HN4 := hide hn4
  have HA4 := hide (NT.fr HA3.out hf4 (by rintro (h | h); omega; cases h) (by rintro (h | h); omega; cases h) (fun k h => by cases h; rintro (h | h); have h : ra = w1.heap.size + 1 := h; omega; cases h))
  have HX4 := hide (hf4.obj HX3.out (by rintro (h | h); omega; cases h))
  have HB4 := hide (HB3.out.trans (hf4.below _ HB3.out.size (fun k hk => by rintro (h | h); omega; cases h)))
  clear hn4 hv4 hf4 HA3 HN3 HX3 HB3 m0 m1 m2 m3 m4 HC HE HP
  go_wp2_with fail
  refine (spoil_one HA4.out a y h4 hs).mono ?_
  rintro e w5 ⟨rfl, hn5, hf5⟩
  have HA5 := hide hn5
  have HN5 := hide (NT.fr HN4.out hf5 (by omega) (by omega) (fun k h => by cases h; show ¬ rb = ra; omega))
  have HX5 := hide (hf5.obj HX4.out (by omega))
  have HB5 := hide (HB4.out.trans (hf5.below _ HB4.out.size (fun k hk => by omega)))
  have sz5 := hf5.size
  clear hn5 hf5 HA4 HN4 HX4 HB4
  go_wp2_with fail
  refine (spoil_one HN5.out a y h4 hs).mono ?_
  rintro e w6 ⟨rfl, hn6, hf6⟩
  have HN6 := hide hn6
  have HA6 := hide (NT.fr HA5.out hf6 (by omega) (by omega) (fun k h => by cases h; show ¬ ra = rb; omega))
  have HX6 := hide (hf6.obj HX5.out (by omega))
  have HB6 := hide (HB5.out.trans (hf6.below _ HB5.out.size (fun k hk => by omega)))
  have sz6 := hf6.size
  clear hn6 hf6 HA5 HN5 HX5 HB5
  go_wp2_with fail
  refine (spoil_one HN6.out a y (by show 4 ≤ (spL p.s a y).length; rw [spL_len]; exact h4) (by show (spL p.s a y).length ≤ 10000; rw [spL_len]; exact hs)).mono ?_
  rintro e w7 ⟨rfl, hn7, hf7⟩
  have HN7 := hide hn7
  have HA7 := hide (NT.fr HA6.out hf7 (by omega) (by omega) (fun k h => by cases h; show ¬ ra = rb; omega))
  have HX7 := hide (hf7.obj HX6.out (by omega))
  have HB7 := hide (HB6.out.trans (hf7.below _ HB6.out.size (fun k hk => by omega)))
  have sz7 := hf7.size
  clear hn7 hf7 HA6 HN6 HX6 HB6
  go_wp2_with fail
  refine (deliver_one HA7.out mk mf mt mi mb 0 HAA.out (by show 4 ≤ (spL p.s a y).length; rw [spL_len]; exact h4) (by show (spL p.s a y).length ≤ 10000; rw [spL_len]; exact hs)).mono ?_
  rintro e w8 ⟨rfl, hf8⟩
  rw [show ((0 : Int) == 0) = true from rfl]
  have hbl := (Below.refl w8.heap.size w8).alloc (Nat.le_refl _) (.cells #[.int .i64 mk, .int .i64 mf, .int .i64 mt, .int .i64 mi, .string mb] 63)
  have HN8 := hide ((NT.fr HN7.out hf8 (by omega) (by omega) (fun k h => by cases h; show ¬ (rb = w.heap.size + 1 + 1 ∨ rb = ra); omega)).below hbl)
  have HX8 := hide (obj_below (hf8.obj HX7.out (by omega)) hbl)
  have HY8 := hide (obj_new w8 (.cells #[.int .i64 mk, .int .i64 mf, .int .i64 mt, .int .i64 mi, .string mb] 63))
  have hb8 := HB7.out.trans (hf8.below _ HB7.out.size (fun k hk => by omega))
  have HB8 := hide (hb8.trans (hbl.mono hb8.size))
  have sz8 := hf8.size
  clear hf8 hbl hb8 HA7 HN7 HX7 HB7
  go_wp2_with fail
  refine (deliver_one HN8.out mk mf mt mi mb 0 (by show decV (spL (spL p.s a y) a y) = _; rw [HBB.out]; exact HDD.out) (by show 4 ≤ (spL (spL p.s a y) a y).length; rw [spL_len, spL_len]; exact h4) (by show (spL (spL p.s a y) a y).length ≤ 10000; rw [spL_len, spL_len]; exact hs)).mono ?_
  rintro e w9 ⟨rfl, hf9⟩
  rw [show ((0 : Int) == 0) = true from rfl]
  have l8 := obj_lt HY8.out
  simp only [World.size_alloc] at l8
  have hbl := (Below.refl w9.heap.size w9).alloc (Nat.le_refl _) (.cells #[.int .i64 mk, .int .i64 mf, .int .i64 mt, .int .i64 mi, .string mb] 63)
  have l89 := hf9.size
  simp only [World.size_alloc] at l89
  have HX9 := hide (obj_below (hf9.obj HX8.out (by omega)) hbl)
  have HY9 := hide (obj_below (hf9.obj HY8.out (by omega)) hbl)
  have HQ9 := hide (obj_new w9 (.cells #[.int .i64 mk, .int .i64 mf, .int .i64 mt, .int .i64 mi, .string mb] 63))
  have hb9 := HB8.out.trans (hf9.below _ HB8.out.size (fun k hk => by omega))
  have HB9 := hide (hb9.trans (hbl.mono hb9.size))
  clear hf9 hbl hb9 HN8 HX8 HY8 HB8 HAA HBB HDD
  have m0 := obj_cell HX9.out 0
  have m1 := obj_cell HX9.out 1
  have m2 := obj_cell HX9.out 2
  have m3 := obj_cell HX9.out 3
  have m4 := obj_cell HX9.out 4
  simp only [List.getElem?_toArray, List.getElem?_cons_zero, List.getElem?_cons_succ] at m0 m1 m2 m3 m4
  have n0 := obj_cell HY9.out 0
  have n1 := obj_cell HY9.out 1
  have n2 := obj_cell HY9.out 2
  have n3 := obj_cell HY9.out 3
  have n4 := obj_cell HY9.out 4
  simp only [List.getElem?_toArray, List.getElem?_cons_zero, List.getElem?_cons_succ] at n0 n1 n2 n3 n4
  have q0 := obj_cell HQ9.out 0
  have q1 := obj_cell HQ9.out 1
  have q2 := obj_cell HQ9.out 2
  have q3 := obj_cell HQ9.out 3
  have q4 := obj_cell HQ9.out 4
  simp only [List.getElem?_toArray, List.getElem?_cons_zero, List.getElem?_cons_succ] at q0 q1 q2 q3 q4
  go_wp2_with fail
  refine (awake13 _).mono ?_
  rintro e w10 ⟨rfl, hb10⟩
  go_wp2
  go_ret
  exact ⟨rfl, HB9.out.trans (hb10.mono HB9.out.size)⟩
set_option maxHeartbeats 8000000 in
set_option maxRecDepth 1000000 in
theorem byte_not (mk mf mt mi : Int) (mb : ByteArray) (a y : Int) (w : World) (o : ByteArray) (hE : EncTo mk mf mt mi mb o 0) (hc : canS (net0 64) mf mt) (p : Pcl) (hp : p = ⟨(lnk mf mt).1, (lnk mf mt).2, o.data.toList⟩)
    (h4 : 4 ≤ p.s.length) (hs : p.s.length ≤ 10000) (hy0 : 0 ≤ y) (hy1 : y ≤ 255) (hy : (y == 0) = false) (hA : decV (spL p.s a y) = mV 0 0 0 0 ⟨#[]⟩ 4) (hB : spL (spL p.s a y) a y = p.s) (hd : decV p.s = mV mk mf mt mi mb 0) :
    Calls Try.prog 17 #[.agg #[.int .i64 mk, .int .i64 mf, .int .i64 mt, .int .i64 mi, .string mb], .int .i64 a, .int .u8 y] w fun e w' => e = .returned (.bool true) ∧ Below w.heap.size w w' := by
  have hbx := (Below.refl w.heap.size w).alloc (Nat.le_refl _) (.cells #[.int .i64 mk, .int .i64 mf, .int .i64 mt, .int .i64 mi, .string mb] 63)
  have HX := hide (obj_new w (.cells #[.int .i64 mk, .int .i64 mf, .int .i64 mt, .int .i64 mi, .string mb] 63))
  have HB := hide hbx
  have HE := hide hE
  have HC := hide hc
  have HP := hide hp
  have HAA := hide hA
  have HBB := hide hB
  have HDD := hide hd
  clear hbx hc hp hE hA hB hd
  go_enter Try.func17, Try.ntmps17
  go_wp2_with fail
  refine (new13_any 64 _).mono ?_
  rintro e w1 ⟨rfl, hn1, hb1⟩
  have HN1 := hide (show NT _ _ _ _ (net0 64) from hn1)
  have HX1 := hide (obj_below HX.out hb1)
  have HB1 := hide (HB.out.trans (hb1.mono HB.out.size))
  have l1 := obj_lt hn1.1
  simp only [World.size_alloc] at l1 HN1
  clear hn1 hb1
  go_wp2_with fail
  refine (new13_any 64 _).mono ?_
  rintro e w2 ⟨rfl, hn2, hb2⟩
  have HA2 := hide (HN1.out.below hb2)
  have HN2 := hide (show NT _ _ _ _ (net0 64) from hn2)
  have HX2 := hide (obj_below HX1.out hb2)
  have HB2 := hide (HB1.out.trans (hb2.mono HB1.out.size))
  have l2 := obj_lt hn2.1
  clear hn2 hb2 HX HX1 HN1 HB1 HB
  have m0 := obj_cell HX2.out 0
  have m1 := obj_cell HX2.out 1
  have m2 := obj_cell HX2.out 2
  have m3 := obj_cell HX2.out 3
  have m4 := obj_cell HX2.out 4
  simp only [List.getElem?_toArray, List.getElem?_cons_zero, List.getElem?_cons_succ] at m0 m1 m2 m3 m4
  go_wp2_with fail
  refine (send_ok HA2.out mk mf mt mi mb o HC.out.1 HC.out.2.1 HC.out.2.2 HE.out).mono ?_
  rintro e w3 ⟨rfl, ⟨va, hn3, hv3⟩, hf3⟩
  rw [send_one, ← HP.out] at hn3
  obtain ⟨ra, capa, rfl⟩ := hn3.some (Nat.succ_pos _)
  have lr : w2.heap.size ≤ ra := (hv3 ra rfl).elim (fun e => by cases e) id
  have l3 := row_lt hn3.2.1 (k := ra) rfl
  have HA3 := hide hn3
  have HN3 := hide (NT.fr HN2.out hf3 (by rintro (h | h); omega; cases h) (by rintro (h | h); omega; cases h) (fun k h => by cases h))
  have HX3 := hide (hf3.obj HX2.out (by rintro (h | h); omega; cases h))
  have HB3 := hide (HB2.out.trans (hf3.below _ HB2.out.size (fun k hk => by rintro (h | h); omega; cases h)))
  clear hn3 hv3 hf3 HA2 HN2 HX2 HB2 m0 m1 m2 m3 m4
  have m0 := obj_cell HX3.out 0
  have m1 := obj_cell HX3.out 1
  have m2 := obj_cell HX3.out 2
  have m3 := obj_cell HX3.out 3
  have m4 := obj_cell HX3.out 4
  simp only [List.getElem?_toArray, List.getElem?_cons_zero, List.getElem?_cons_succ] at m0 m1 m2 m3 m4
  go_wp2_with fail
  refine (send_ok HN3.out mk mf mt mi mb o HC.out.1 HC.out.2.1 HC.out.2.2 HE.out).mono ?_
  rintro e w4 ⟨rfl, ⟨vb, hn4, hv4⟩, hf4⟩
  rw [send_one, ← HP.out] at hn4
  obtain ⟨rb, capb, rfl⟩ := hn4.some (Nat.succ_pos _)
  have lr4 : w3.heap.size ≤ rb := (hv4 rb rfl).elim (fun e => by cases e) id
  have l4 := row_lt hn4.2.1 (k := rb) rfl
  have HN4 := hide hn4
  have HA4 := hide (NT.fr HA3.out hf4 (by rintro (h | h); omega; cases h) (by rintro (h | h); omega; cases h) (fun k h => by cases h; rintro (h | h); have h : ra = w1.heap.size + 1 := h; omega; cases h))
  have HX4 := hide (hf4.obj HX3.out (by rintro (h | h); omega; cases h))
  have HB4 := hide (HB3.out.trans (hf4.below _ HB3.out.size (fun k hk => by rintro (h | h); omega; cases h)))
  clear hn4 hv4 hf4 HA3 HN3 HX3 HB3 m0 m1 m2 m3 m4 HC HE HP
  go_wp2_with fail
  refine (spoil_one HA4.out a y h4 hs).mono ?_
  rintro e w5 ⟨rfl, hn5, hf5⟩
  have HA5 := hide hn5
  have HN5 := hide (NT.fr HN4.out hf5 (by omega) (by omega) (fun k h => by cases h; show ¬ rb = ra; omega))
  have HX5 := hide (hf5.obj HX4.out (by omega))
  have HB5 := hide (HB4.out.trans (hf5.below _ HB4.out.size (fun k hk => by omega)))
  have sz5 := hf5.size
  clear hn5 hf5 HA4 HN4 HX4 HB4
  go_wp2_with fail
  refine (spoil_one HN5.out a y h4 hs).mono ?_
  rintro e w6 ⟨rfl, hn6, hf6⟩
  have HN6 := hide hn6
  have HA6 := hide (NT.fr HA5.out hf6 (by omega) (by omega) (fun k h => by cases h; show ¬ ra = rb; omega))
  have HX6 := hide (hf6.obj HX5.out (by omega))
  have HB6 := hide (HB5.out.trans (hf6.below _ HB5.out.size (fun k hk => by omega)))
  have sz6 := hf6.size
  clear hn6 hf6 HA5 HN5 HX5 HB5
  go_wp2_with fail
  refine (spoil_one HN6.out a y (by show 4 ≤ (spL p.s a y).length; rw [spL_len]; exact h4) (by show (spL p.s a y).length ≤ 10000; rw [spL_len]; exact hs)).mono ?_
  rintro e w7 ⟨rfl, hn7, hf7⟩
  have HN7 := hide hn7
  have HA7 := hide (NT.fr HA6.out hf7 (by omega) (by omega) (fun k h => by cases h; show ¬ ra = rb; omega))
  have HX7 := hide (hf7.obj HX6.out (by omega))
  have HB7 := hide (HB6.out.trans (hf7.below _ HB6.out.size (fun k hk => by omega)))
  have sz7 := hf7.size
  clear hn7 hf7 HA6 HN6 HX6 HB6
  go_wp2_with fail
  refine (deliver_one HA7.out 0 0 0 0 ⟨#[]⟩ 4 HAA.out (by show 4 ≤ (spL p.s a y).length; rw [spL_len]; exact h4) (by show (spL p.s a y).length ≤ 10000; rw [spL_len]; exact hs)).mono ?_
  rintro e w8 ⟨rfl, hf8⟩
  rw [show ((4 : Int) == 0) = false from rfl]
  have hbl := (Below.refl w8.heap.size w8).alloc (Nat.le_refl _) (.cells #[.int .i64 0, .int .i64 0, .int .i64 0, .int .i64 0, .string ⟨#[]⟩] 63)
  have HN8 := hide ((NT.fr HN7.out hf8 (by omega) (by omega) (fun k h => by cases h; show ¬ (rb = w.heap.size + 1 + 1 ∨ rb = ra); omega)).below hbl)
  have HX8 := hide (obj_below (hf8.obj HX7.out (by omega)) hbl)
  have HY8 := hide (obj_new w8 (.cells #[.int .i64 0, .int .i64 0, .int .i64 0, .int .i64 0, .string ⟨#[]⟩] 63))
  have hb8 := HB7.out.trans (hf8.below _ HB7.out.size (fun k hk => by omega))
  have HB8 := hide (hb8.trans (hbl.mono hb8.size))
  have sz8 := hf8.size
  clear hf8 hbl hb8 HA7 HN7 HX7 HB7
  go_wp2_with fail
  refine (deliver_one HN8.out mk mf mt mi mb 0 (by show decV (spL (spL p.s a y) a y) = _; rw [HBB.out]; exact HDD.out) (by show 4 ≤ (spL (spL p.s a y) a y).length; rw [spL_len, spL_len]; exact h4) (by show (spL (spL p.s a y) a y).length ≤ 10000; rw [spL_len, spL_len]; exact hs)).mono ?_
  rintro e w9 ⟨rfl, hf9⟩
  rw [show ((0 : Int) == 0) = true from rfl]
  have l8 := obj_lt HY8.out
  simp only [World.size_alloc] at l8
  have hbl := (Below.refl w9.heap.size w9).alloc (Nat.le_refl _) (.cells #[.int .i64 mk, .int .i64 mf, .int .i64 mt, .int .i64 mi, .string mb] 63)
  have l89 := hf9.size
  simp only [World.size_alloc] at l89
  have HX9 := hide (obj_below (hf9.obj HX8.out (by omega)) hbl)
  have HY9 := hide (obj_below (hf9.obj HY8.out (by omega)) hbl)
  have HQ9 := hide (obj_new w9 (.cells #[.int .i64 mk, .int .i64 mf, .int .i64 mt, .int .i64 mi, .string mb] 63))
  have hb9 := HB8.out.trans (hf9.below _ HB8.out.size (fun k hk => by omega))
  have HB9 := hide (hb9.trans (hbl.mono hb9.size))
  clear hf9 hbl hb9 HN8 HX8 HY8 HB8 HAA HBB HDD
  have m0 := obj_cell HX9.out 0
  have m1 := obj_cell HX9.out 1
  have m2 := obj_cell HX9.out 2
  have m3 := obj_cell HX9.out 3
  have m4 := obj_cell HX9.out 4
  simp only [List.getElem?_toArray, List.getElem?_cons_zero, List.getElem?_cons_succ] at m0 m1 m2 m3 m4
  have n0 := obj_cell HY9.out 0
  have n1 := obj_cell HY9.out 1
  have n2 := obj_cell HY9.out 2
  have n3 := obj_cell HY9.out 3
  have n4 := obj_cell HY9.out 4
  simp only [List.getElem?_toArray, List.getElem?_cons_zero, List.getElem?_cons_succ] at n0 n1 n2 n3 n4
  have q0 := obj_cell HQ9.out 0
  have q1 := obj_cell HQ9.out 1
  have q2 := obj_cell HQ9.out 2
  have q3 := obj_cell HQ9.out 3
  have q4 := obj_cell HQ9.out 4
  simp only [List.getElem?_toArray, List.getElem?_cons_zero, List.getElem?_cons_succ] at q0 q1 q2 q3 q4
  go_wp2_with fail
  refine (awake13 _).mono ?_
  rintro e w10 ⟨rfl, hb10⟩
  go_wp2
  go_ret
  exact ⟨rfl, HB9.out.trans (hb10.mono HB9.out.size)⟩
theorem walk_netByte (mk mf mt mi : Int) (mb : ByteArray) (a y : Int) (w : World) (_hk : (Lit.int .i64 mk).wf = true) (_hf : (Lit.int .i64 mf).wf = true) (_ht : (Lit.int .i64 mt).wf = true) (_hi : (Lit.int .i64 mi).wf = true) (hb : mb.size ≤ maxLen)
    (_hn : (Lit.int .i64 a).wf = true) (hy : (Lit.int .u8 y).wf = true) :
    Calls Try.prog 17 #[.agg #[.int .i64 mk, .int .i64 mf, .int .i64 mt, .int .i64 mi, .string mb], .int .i64 a, .int .u8 y] w fun e w' => e = .returned (.bool true) ∧ Below w.heap.size w w' := by
  have hb' : mb.size ≤ 9223372036854775807 := by simp only [maxLen] at hb; omega
  obtain ⟨h0, h1⟩ := wf_u8 hy
  obtain ⟨o, ec, hE, _, ho⟩ := enc13 mk mf mt mi mb hb'
  by_cases h : canS (net0 64) mf mt ∧ ec = 0
  · obtain ⟨hc, rfl⟩ := h
    obtain ⟨hz, hd, l, hl, rfl⟩ := ho rfl
    have hz2 : 4 ≤ (sealS ⟨l.toArray⟩).data.toList.length ∧ (sealS ⟨l.toArray⟩).data.toList.length ≤ 10000 := by rw [← size_list]; exact hz
    by_cases h2 : y = 0
    · subst h2
      exact byte_yes mk mf mt mi mb a 0 w _ hE hc _ rfl hz2.1 hz2.2 (by decide) (by decide) rfl (by rw [spL_zero a (show 0 < (sealS ⟨l.toArray⟩).data.toList.length by omega)]; exact hd) (spL_twice a (by decide) (by decide) (show 0 < (sealS ⟨l.toArray⟩).data.toList.length by omega)) hd
    · exact byte_not mk mf mt mi mb a y w _ hE hc _ rfl hz2.1 hz2.2 h0 h1 (by simpa using h2) (spL_turned l a (by omega) h1) (spL_twice a h0 h1 (show 0 < (sealS ⟨l.toArray⟩).data.toList.length by omega)) hd
  · exact byte_fail mk mf mt mi mb a y w o ec hE h
end Go.Proofs.Ytljmaicobafgkaa
end
