/- A join of 2 texts of this claim: FrLaw, FrAwake. Conditions: none of their own. -/
import Derived.Test.YtljmaicobafgkaaK8
section
/- The laws of layer 12: the walks. -/
namespace Go.Proofs.Ytljmaicobafgkaa
open Go.RowKit

theorem decode_short (s : ByteArray) (w : World) (hs : s.size < 4) :
    Calls Try.prog 49 #[.string s] w fun e w' => e = .returned (.tuple #[.agg #[.int .i64 0, .int .i64 0, .int .i64 0, .int .i64 0, .string ⟨#[]⟩], .int .i64 2]) ∧ Below w.heap.size w w' := by
  go_enter Try.func49, Try.ntmps49
  go_wp2_with fail
  refine (open_short s _ hs).mono ?_
  rintro e w1 ⟨rfl, hb1⟩
  have hz := obj_below (obj_new w _) hb1
  have z0 := obj_cell hz 0
  have f0 := obj_frozen hz 0
  have z1 := obj_cell hz 1
  have f1 := obj_frozen hz 1
  have z2 := obj_cell hz 2
  have f2 := obj_frozen hz 2
  have z3 := obj_cell hz 3
  have f3 := obj_frozen hz 3
  have z4 := obj_cell hz 4
  have f4 := obj_frozen hz 4
  simp only [List.getElem?_toArray, List.getElem?_cons_zero, List.getElem?_cons_succ] at z0 z1 z2 z3 z4
  have HZ := hide (obj_below (obj_new w (.cells #[.int .i64 0, .int .i64 0, .int .i64 0, .int .i64 0, .string ⟨#[]⟩] 63)) hb1)
  have HB1 := hide hb1
  clear hb1 hz
  go_wp2
  refine bodyPost_ret (res_ct rfl _ _ w.heap.size 63 #[.int .i64 0, .int .i64 0, .int .i64 0, .int .i64 0, .string ⟨#[]⟩] _ _ rfl (five_set HZ.out _ _ _ _ _) Try.underlying63 rfl (by kernel_rfl)) rfl ⟨rfl, ?_⟩
  exact five_below (((Below.refl _ _).alloc (Nat.le_refl _) _).trans (HB1.out.mono (by simp))) (Nat.le_refl _)
theorem rDecode_short (s : ByteArray) (w : World) (hs : s.size < 4) :
    Calls Try.prog 50 #[.string s] w fun e w' => e = .returned (.tuple #[.agg #[.int .i64 0, .int .i64 0, .int .i64 0, .int .i64 0, .string ⟨#[]⟩], .int .i64 2]) ∧ Below w.heap.size w w' := by
  go_enter Try.func50, Try.ntmps50
  go_wp2_with fail
  refine (rOpen_short s _ hs).mono ?_
  rintro e w1 ⟨rfl, hb1⟩
  have hz := obj_below (obj_new w _) hb1
  have z0 := obj_cell hz 0
  have f0 := obj_frozen hz 0
  have z1 := obj_cell hz 1
  have f1 := obj_frozen hz 1
  have z2 := obj_cell hz 2
  have f2 := obj_frozen hz 2
  have z3 := obj_cell hz 3
  have f3 := obj_frozen hz 3
  have z4 := obj_cell hz 4
  have f4 := obj_frozen hz 4
  simp only [List.getElem?_toArray, List.getElem?_cons_zero, List.getElem?_cons_succ] at z0 z1 z2 z3 z4
  have HZ := hide (obj_below (obj_new w (.cells #[.int .i64 0, .int .i64 0, .int .i64 0, .int .i64 0, .string ⟨#[]⟩] 63)) hb1)
  have HB1 := hide hb1
  clear hb1 hz
  go_wp2
  refine bodyPost_ret (res_ct rfl _ _ w.heap.size 63 #[.int .i64 0, .int .i64 0, .int .i64 0, .int .i64 0, .string ⟨#[]⟩] _ _ rfl (five_set HZ.out _ _ _ _ _) Try.underlying63 rfl (by kernel_rfl)) rfl ⟨rfl, ?_⟩
  exact five_below (((Below.refl _ _).alloc (Nat.le_refl _) _).trans (HB1.out.mono (by simp))) (Nat.le_refl _)

theorem decV_shape (l : List UInt8) : ∃ k f t i b e, decV l = .tuple #[.agg #[.int .i64 k, .int .i64 f, .int .i64 t, .int .i64 i, .string b], .int .i64 e] := by
  unfold decV
  split
  · exact ⟨_, _, _, _, _, _, rfl⟩
  · unfold decR
    split
    · exact ⟨_, _, _, _, _, _, rfl⟩
    · exact ⟨_, _, _, _, _, _, rfl⟩

/-- The example, called. -/
def Awake12 : Prop := ∀ w : World, Calls Try.prog 48 #[] w fun e w' => e = .returned (.bool true) ∧ Below w.heap.size w w'
theorem dec2 {w w1 w2 : World} {o o2 : Obj} (h1 : Below w.heap.size w w1) (h2 : Below (w1.alloc o).heap.size (w1.alloc o) w2) : Below w.heap.size w (w2.alloc o2) :=
  ((h1.alloc h1.size o).trans (h2.mono (by simp; have := h1.size; omega))).alloc (by have := h1.size; have := h2.size; simp at this; omega) o2
theorem decodes_mid (ha : Awake12) (s : ByteArray) (w : World) (h4 : 4 ≤ s.size) (hs : s.size ≤ 10000) :
    Calls Try.prog 8 #[.string s] w fun e w' => e = .returned (.bool true) ∧ Below w.heap.size w w' := by
  have HA := hide ha
  clear ha
  obtain ⟨k, f, t, i, b, e, he⟩ := decV_shape s.data.toList
  have HE := hide he
  clear he
  go_enter Try.func8, Try.ntmps8
  go_wp2_with fail
  refine (decode_any s _ h4 (by omega)).mono ?_
  rintro e w1 ⟨rfl, hb1⟩
  rw [HE.out]
  have HB1 := hide hb1
  clear hb1
  go_wp2_with fail
  refine (rDecode_any s _ h4 (by omega)).mono ?_
  rintro e w2 ⟨rfl, hb2⟩
  rw [HE.out]
  have hm := obj_below (obj_new w1 _) hb2
  have z0 := obj_cell hm 0
  have z1 := obj_cell hm 1
  have z2 := obj_cell hm 2
  have z3 := obj_cell hm 3
  have z4 := obj_cell hm 4
  simp only [List.getElem?_toArray, List.getElem?_cons_zero, List.getElem?_cons_succ] at z0 z1 z2 z3 z4
  have hlt := obj_lt hm
  have HB2 := hide hb2
  clear hb2 hm
  go_wp2_with fail
  refine (HA.out _).mono ?_
  rintro e w3 ⟨rfl, hb3⟩
  go_wp2
  go_ret
  refine ⟨rfl, ?_⟩
  exact (dec2 HB1.out HB2.out).trans (hb3.mono (by simp; have := HB1.out.size; have := HB2.out.size; simp at this; omega))
theorem decodes_short (ha : Awake12) (s : ByteArray) (w : World) (h4 : s.size < 4) :
    Calls Try.prog 8 #[.string s] w fun e w' => e = .returned (.bool true) ∧ Below w.heap.size w w' := by
  have HA := hide ha
  clear ha
  go_enter Try.func8, Try.ntmps8
  go_wp2_with fail
  refine (decode_short s _ h4).mono ?_
  rintro e w1 ⟨rfl, hb1⟩
  have HB1 := hide hb1
  clear hb1
  go_wp2_with fail
  refine (rDecode_short s _ h4).mono ?_
  rintro e w2 ⟨rfl, hb2⟩
  have hm := obj_below (obj_new w1 _) hb2
  have z0 := obj_cell hm 0
  have z1 := obj_cell hm 1
  have z2 := obj_cell hm 2
  have z3 := obj_cell hm 3
  have z4 := obj_cell hm 4
  simp only [List.getElem?_toArray, List.getElem?_cons_zero, List.getElem?_cons_succ] at z0 z1 z2 z3 z4
  have hlt := obj_lt hm
  have HB2 := hide hb2
  clear hb2 hm
  go_wp2_with fail
  refine (HA.out _).mono ?_
  rintro e w3 ⟨rfl, hb3⟩
  go_wp2
  go_ret
  refine ⟨rfl, ?_⟩
  exact (dec2 HB1.out HB2.out).trans (hb3.mono (by simp; have := HB1.out.size; have := HB2.out.size; simp at this; omega))
theorem decodes_far (ha : Awake12) (s : ByteArray) (w : World) (h4 : 10000 < s.size) :
    Calls Try.prog 8 #[.string s] w fun e w' => e = .returned (.bool true) ∧ Below w.heap.size w w' := by
  have HA := hide ha
  clear ha
  go_enter Try.func8, Try.ntmps8
  go_wp2_with fail
  refine (HA.out _).mono ?_
  rintro e w3 ⟨rfl, hb3⟩
  go_wp2
  go_ret
  exact ⟨rfl, hb3⟩
theorem decodes_walk (ha : Awake12) (s : ByteArray) (w : World) :
    Calls Try.prog 8 #[.string s] w fun e w' => e = .returned (.bool true) ∧ Below w.heap.size w w' := by
  rcases Nat.lt_or_ge s.size 4 with h | h
  · exact decodes_short ha s w h
  · rcases Nat.lt_or_ge 10000 s.size with h2 | h2
    · exact decodes_far ha s w h2
    · exact decodes_mid ha s w h h2
end Go.Proofs.Ytljmaicobafgkaa
end
section
/- Layer 12: a message there and back, plain; the walk of the example. -/
namespace Go.Proofs.Ytljmaicobafgkaa
open Go.RowKit

theorem le4_length (n : Int) : (le4 n).length = 4 := rfl
theorem openL_seal (l : List UInt8) : openL (l ++ le4 (crc l)) = some l := by
  have e : (l ++ le4 (crc l)).length - 4 = l.length := by rw [List.length_append, le4_length]; omega
  unfold openL
  rw [e]
  simp
theorem sealS_list (s : ByteArray) : (sealS s).data.toList = s.data.toList ++ le4 (crc s.data.toList) := by
  unfold sealS
  simp
theorem frB_eq (kd fr tt id : Int) (b : List UInt8) : frB kd fr tt id b = ub kd :: ub fr :: ub tt :: (num id ++ textB b) := by
  simp [frB, frPre]
theorem dec_parts (kd fr tt id : Int) (b : List UInt8) (hm : msgOk kd fr tt id) (hb : b.length ≤ 4096) :
    d5 (frB kd fr tt id b) = some [] ∧ dK (frB kd fr tt id b) = kd ∧ dF (frB kd fr tt id b) = fr ∧ dT (frB kd fr tt id b) = tt ∧ dI (frB kd fr tt id b) = id ∧ dB (frB kd fr tt id b) = b := by
  obtain ⟨hk0, hk1, hf0, hf1, ht0, ht1, hi0, hi1⟩ := hm
  have e1 : d1 (frB kd fr tt id b) = some (ub fr :: ub tt :: (num id ++ textB b)) := by rw [frB_eq]; rfl
  have e2 : d2 (frB kd fr tt id b) = some (ub tt :: (num id ++ textB b)) := by unfold d2; rw [e1]; rfl
  have e3 : d3 (frB kd fr tt id b) = some (num id ++ textB b) := by unfold d3; rw [e2]; rfl
  have ri := rInt_num id (textB b) (by omega) (by omega)
  have e4 : d4 (frB kd fr tt id b) = some (textB b) := by unfold d4; rw [e3, ri]
  have rt : rText (some (textB b)) = (b, some []) := by
    have := rText_text b [] (by omega)
    simpa using this
  refine ⟨by unfold d5; rw [e4, rt], ?_, ?_, ?_, ?_, ?_⟩
  · unfold dK
    rw [frB_eq]
    exact ub_small (by omega) (by omega)
  · unfold dF
    rw [e1]
    exact ub_small hf0 (by omega)
  · unfold dT
    rw [e2]
    exact ub_small ht0 (by omega)
  · unfold dI
    rw [e3, ri]
  · unfold dB
    rw [e4, rt]
theorem dec_enc (kd fr tt id : Int) (b : List UInt8) (hm : msgOk kd fr tt id) (hb : b.length ≤ 4096) :
    decV (sealS ⟨(frB kd fr tt id b).toArray⟩).data.toList = .tuple #[.agg #[.int .i64 kd, .int .i64 fr, .int .i64 tt, .int .i64 id, .string ⟨b.toArray⟩], .int .i64 0] := by
  obtain ⟨h5, h1, h2, h3, h4, h6⟩ := dec_parts kd fr tt id b hm hb
  have ho : openL (sealS ⟨(frB kd fr tt id b).toArray⟩).data.toList = some (frB kd fr tt id b) := by
    rw [sealS_list]
    exact openL_seal _
  unfold decV
  rw [ho]
  show decR (frB kd fr tt id b) = _
  have hok : dOk (frB kd fr tt id b) := by
    refine ⟨h5, ?_⟩
    rw [h1, h2, h3, h4, h6]
    unfold chk
    rw [if_pos hm, if_neg (by omega)]
  rw [decR_ok hok]
  simp only [dCells, h1, h2, h3, h4, h6]
theorem sealS_size (s : ByteArray) : (sealS s).size = s.size + 4 := by
  rw [size_list, sealS_list, List.length_append, le4_length, size_list]
theorem frB_len (kd fr tt id : Int) (b : List UInt8) (hi : 0 ≤ id ∧ id < 9223372036854775807) (hb : b.length ≤ 4096) : (frB kd fr tt id b).length ≤ 4200 := by
  have h1 := num_ten id hi
  have h2 := num_ten (b.length : Int) (by omega)
  rw [frB_eq]
  simp [textB]
  omega
theorem num0 : num 0 = [0] := by
  unfold num zz
  rw [numN_small (by decide)]
  decide
theorem ex_one : sealS ⟨(frB 1 0 0 0 []).toArray⟩ = ⟨#[1, 0, 0, 0, 0] ++ (le4 (crc [1, 0, 0, 0, 0])).toArray⟩ := by
  have : frB 1 0 0 0 [] = [1, 0, 0, 0, 0] := by
    rw [frB_eq]
    simp only [textB, List.length_nil, Int.cast_ofNat_Int, num0]
    decide
  rw [this]
  rw [← str_eta (sealS _), sealS_list]
  simp
set_option maxHeartbeats 2000000 in
set_option maxRecDepth 100000 in
theorem awake12 : Awake12 := by
  intro w
  have hs1 : (sealS ⟨(frB 1 0 0 0 []).toArray⟩).size = 9 := by rw [ex_one]; rfl
  have hx1 : (sealS ⟨(frB 1 0 0 0 []).toArray⟩).extract 0 5 = ⟨#[1, 0, 0, 0, 0]⟩ := by
    rw [extract_str, ex_one]
    rfl
  obtain ⟨s1, hs⟩ : ∃ s1, s1 = sealS ⟨(frB 1 0 0 0 []).toArray⟩ := ⟨_, rfl⟩
  rw [← hs] at hs1 hx1
  obtain ⟨s2, hq⟩ : ∃ s2, s2 = sealS ⟨(frB 99 63 1 300 [97, 98]).toArray⟩ := ⟨_, rfl⟩
  have hd2 : decV s2.data.toList = .tuple #[.agg #[.int .i64 99, .int .i64 63, .int .i64 1, .int .i64 300, .string ⟨#[97, 98]⟩], .int .i64 0] := by
    rw [hq]
    exact dec_enc 99 63 1 300 [97, 98] (by decide) (by decide)
  have hz2 : 4 ≤ s2.size ∧ s2.size ≤ 10000 := by
    rw [hq, sealS_size, str_size]
    have := frB_len 99 63 1 300 [97, 98] (by decide) (by decide)
    omega
  have hd3 : decV [97, 98, 99, 100] = .tuple #[.agg #[.int .i64 0, .int .i64 0, .int .i64 0, .int .i64 0, .string ⟨#[]⟩], .int .i64 4] := by
    have : openL [97, 98, 99, 100] = none := by decide +kernel
    unfold decV
    rw [this]
    rfl
  have hS := hide hs
  have hQ := hide hq
  have HS1 := hide hs1
  have HD2 := hide hd2
  have HD3 := hide hd3
  clear hs hq hd2 hd3
  go_enter Try.func48, Try.ntmps48
  go_wp2_with fail
  refine (encode_ok 1 0 0 0 ⟨#[]⟩ _ (by decide) (by decide)).mono ?_
  rintro e w1 ⟨rfl, hb1⟩
  rw [show sealS ⟨(frB 1 0 0 0 (⟨#[]⟩ : ByteArray).data.toList).toArray⟩ = s1 from hS.out.symm]
  have HB1 := hide hb1
  clear hb1
  go_wp2_with fail
  refine (encode_ok 99 63 1 300 ⟨#[97, 98]⟩ _ (by decide) (by decide)).mono ?_
  rintro e w2 ⟨rfl, hb2⟩
  rw [show sealS ⟨(frB 99 63 1 300 (⟨#[97, 98]⟩ : ByteArray).data.toList).toArray⟩ = s2 from hQ.out.symm]
  have HM2 := hide (obj_below (obj_new w1 (.cells #[.int .i64 99, .int .i64 63, .int .i64 1, .int .i64 300, .string ⟨#[97, 98]⟩] 63)) hb2)
  have HB2 := hide ((HB1.out.alloc HB1.out.size (.cells #[.int .i64 99, .int .i64 63, .int .i64 1, .int .i64 300, .string ⟨#[97, 98]⟩] 63)).trans (hb2.mono (by simp; have := HB1.out.size; omega)))
  clear hb2
  go_wp2_with fail
  refine (decode_any s2 _ hz2.1 (by omega)).mono ?_
  rintro e w3 ⟨rfl, hb3⟩
  rw [HD2.out]
  have HM3 := hide (obj_below HM2.out hb3)
  have HB3 := hide (HB2.out.trans (hb3.mono HB2.out.size))
  clear hb3
  go_wp2_with fail
  refine (decode_any ⟨#[97, 98, 99, 100]⟩ _ (by decide) (by decide)).mono ?_
  rintro e w4 ⟨rfl, hb4⟩
  rw [show decV (⟨#[97, 98, 99, 100]⟩ : ByteArray).data.toList = .tuple #[.agg #[.int .i64 0, .int .i64 0, .int .i64 0, .int .i64 0, .string ⟨#[]⟩], .int .i64 4] from HD3.out]
  have hm4 := obj_below (obj_alloc HM3.out (.cells #[.int .i64 99, .int .i64 63, .int .i64 1, .int .i64 300, .string ⟨#[97, 98]⟩] 63)) hb4
  have hn4 := obj_below (obj_new w3 (.cells #[.int .i64 99, .int .i64 63, .int .i64 1, .int .i64 300, .string ⟨#[97, 98]⟩] 63)) hb4
  have m0 := obj_cell hm4 0
  have m1 := obj_cell hm4 1
  have m2 := obj_cell hm4 2
  have m3 := obj_cell hm4 3
  have m4 := obj_cell hm4 4
  have n0 := obj_cell hn4 0
  have n1 := obj_cell hn4 1
  have n2 := obj_cell hn4 2
  have n3 := obj_cell hn4 3
  have n4 := obj_cell hn4 4
  simp only [List.getElem?_toArray, List.getElem?_cons_zero, List.getElem?_cons_succ] at m0 m1 m2 m3 m4 n0 n1 n2 n3 n4
  have l1 := obj_lt hm4
  have l2 := obj_lt hn4
  have HB4 := hide ((HB3.out.alloc HB3.out.size (.cells #[.int .i64 99, .int .i64 63, .int .i64 1, .int .i64 300, .string ⟨#[97, 98]⟩] 63)).trans (hb4.mono (by simp; have := HB3.out.size; omega)))
  clear hb4 hm4 hn4
  go_wp2_with fail
  refine (check_any 0 0 0 0 ⟨#[]⟩ _ (by decide)).mono ?_
  rintro e w5 ⟨rfl, hb5⟩
  rw [show chk 0 0 0 0 (⟨#[]⟩ : ByteArray).size = 1 from by decide]
  go_wp2
  go_ret
  exact ⟨rfl, (HB4.out.alloc HB4.out.size _).trans (hb5.mono (by simp; have := HB4.out.size; omega))⟩
end Go.Proofs.Ytljmaicobafgkaa
end
