/- A join of 4 texts of this claim: Nt11, NtD, NtP, Nt12. Conditions: none of their own. -/
import Derived.Test.YtljmaicobafgkaaN9
import Derived.Lib.SmallJoins
import Derived.Deep.Slices
import Derived.Deep.Fields
import Derived.ChangeSame
section
/- Chapter 13, net: the example; a net that is none. -/
namespace Go.Proofs.Ytljmaicobafgkaa
open Go.RowKit

def noCuts : Int × Int → Bool := fun _ => false
def pc1 (s : List UInt8) : Pcl := ⟨0, 1, s⟩
def n2 (l : List Pcl) : NetS := ⟨2, l, noCuts⟩
theorem net0_2 : net0 2 = n2 [] := rfl
section
variable {s : List UInt8} {o : ByteArray}
theorem send_y0 : sendY (net0 2) 0 1 0 = true := by decide
theorem send_y0' : sendY (n2 []) 0 1 0 = true := by decide
theorem send_x0' (h : o.data.toList = s) : sendX (n2 []) 0 1 o 0 = n2 [pc1 s] := by
  unfold sendX
  rw [send_y0', if_pos rfl]
  subst h
  rfl
theorem send_x0 (h : o.data.toList = s) : sendX (net0 2) 0 1 o 0 = n2 [pc1 s] := send_x0' h
theorem doub_y1 : doubY (n2 [pc1 s]) = true := rfl
theorem at_one (i : Int) : atI i 1 = 0 := by
  have := atI_lt i (n := 1) (by decide)
  omega
theorem doub_x1 : doubX (n2 [pc1 s]) 0 = n2 [pc1 s, pc1 s] := rfl
theorem drop_2 : dropX (n2 [pc1 s, pc1 s]) 0 = n2 [pc1 s] := rfl
theorem drop_1 : dropX (n2 [pc1 s]) 0 = n2 [] := rfl
theorem drop_0 : dropX (n2 []) 0 = n2 [] := rfl
theorem dv_2 (h : decMsg s = ⟨1, 0, 1, 0, ⟨#[97]⟩⟩ ∧ decErr s = 0) : Value.tuple #[.agg (dvM (n2 [pc1 s, pc1 s]) 0).1.cells, .bool (dvM (n2 [pc1 s, pc1 s]) 0).2] = .tuple #[.agg #[.int .i64 1, .int .i64 0, .int .i64 1, .int .i64 0, .string ⟨#[97]⟩], .bool true] := by
  have e : dvM (n2 [pc1 s, pc1 s]) 0 = (⟨1, 0, 1, 0, ⟨#[97]⟩⟩, true) := by
    unfold dvM
    rw [dif_pos (show 0 < (n2 [pc1 s, pc1 s]).way.length from Nat.succ_pos _), if_neg (by exact Bool.false_ne_true)]
    show (decMsg s, decErr s == 0) = _
    rw [h.1, h.2]
    rfl
  rw [e]
  rfl
theorem dv_1 (h : decMsg s = ⟨1, 0, 1, 0, ⟨#[97]⟩⟩ ∧ decErr s = 0) : Value.tuple #[.agg (dvM (n2 [pc1 s]) 0).1.cells, .bool (dvM (n2 [pc1 s]) 0).2] = .tuple #[.agg #[.int .i64 1, .int .i64 0, .int .i64 1, .int .i64 0, .string ⟨#[97]⟩], .bool true] := by
  have e : dvM (n2 [pc1 s]) 0 = (⟨1, 0, 1, 0, ⟨#[97]⟩⟩, true) := by
    unfold dvM
    rw [dif_pos (show 0 < (n2 [pc1 s]).way.length from Nat.succ_pos _), if_neg (by exact Bool.false_ne_true)]
    show (decMsg s, decErr s == 0) = _
    rw [h.1, h.2]
    rfl
  rw [e]
  rfl
theorem dv_0 : Value.tuple #[.agg (dvM (n2 []) 0).1.cells, .bool (dvM (n2 []) 0).2] = .tuple #[.agg #[.int .i64 0, .int .i64 0, .int .i64 0, .int .i64 0, .string ⟨#[]⟩], .bool false] := by
  have e : dvM (n2 []) 0 = (msg0, false) := by
    unfold dvM
    rw [dif_neg (by decide)]
  rw [e]
  rfl
def n2c (l : List Pcl) : NetS := ⟨2, l, fun q => if q = lnk 1 0 then true else noCuts q⟩
theorem cut_y : cutY (n2 [pc1 s]) 1 0 = true := by
  unfold cutY
  exact decide_eq_true (p := nodeP (n2 [pc1 s]) 1 ∧ nodeP (n2 [pc1 s]) 0) ⟨⟨by decide, show (1 : Int) < 2 by decide⟩, ⟨by decide, show (0 : Int) < 2 by decide⟩⟩
theorem cut_x : cutX (n2 [pc1 s]) 1 0 true = n2c [pc1 s] := by
  unfold cutX
  rw [cut_y, if_pos rfl]
  rfl
theorem dv_c : Value.tuple #[.agg (dvM (n2c [pc1 s]) 0).1.cells, .bool (dvM (n2c [pc1 s]) 0).2] = .tuple #[.agg #[.int .i64 0, .int .i64 0, .int .i64 0, .int .i64 0, .string ⟨#[]⟩], .bool false] := by
  have e : dvM (n2c [pc1 s]) 0 = (msg0, false) := by
    unfold dvM
    rw [dif_pos (show 0 < (n2c [pc1 s]).way.length from Nat.succ_pos _), if_pos]
    rfl
  rw [e]
  rfl
theorem drop_c : dropX (n2c [pc1 s]) 0 = n2c [] := rfl
theorem send_y2 {ec : Int} : sendY (n2c []) 0 2 ec = false := decide_eq_false (fun h => absurd h.1.2.1.2 (by decide))
theorem send_x2 {ec : Int} : sendX (n2c []) 0 2 o ec = n2c [] := by
  unfold sendX
  rw [send_y2, if_neg (by decide)]
theorem any_e : anyY (n2c []) = false := rfl
end
set_option maxHeartbeats 8000000 in
set_option maxRecDepth 1000000 in
theorem awake13 (w : World) : Calls Try.prog 66 #[] w fun e w' => e = .returned (.bool true) ∧ Below w.heap.size w w' := by
  obtain ⟨o, hoe⟩ : ∃ o, o = sealS ⟨(frB 1 0 1 0 [97]).toArray⟩ := ⟨_, rfl⟩
  obtain ⟨s, hos⟩ : ∃ s, o.data.toList = s := ⟨_, rfl⟩
  have HE : Hid (EncTo 1 0 1 0 ⟨#[97]⟩ o 0) := hide (fun w => by rw [hoe]; exact encode_ok 1 0 1 0 ⟨#[97]⟩ w (by decide) (by decide))
  have HO : Hid (4 ≤ o.size ∧ o.size ≤ 10000) := hide (by
    rw [hoe, sealS_size, str_size]
    have := frB_len 1 0 1 0 [97] (by decide) (by decide)
    omega)
  have hdv : decMsg s = ⟨1, 0, 1, 0, ⟨#[97]⟩⟩ ∧ decErr s = 0 := decMsg_eq (by rw [← hos, hoe]; exact dec_enc 1 0 1 0 [97] (by decide) (by decide))
  obtain ⟨o2, hoe2⟩ : ∃ o, o = sealS ⟨(frB 1 0 2 0 []).toArray⟩ := ⟨_, rfl⟩
  have hE2 : EncTo 1 0 2 0 ⟨#[]⟩ o2 0 := fun w => by rw [hoe2]; exact encode_ok 1 0 2 0 ⟨#[]⟩ w (by decide) (by decide)
  have hO2 : 4 ≤ o2.size ∧ o2.size ≤ 10000 := by
    rw [hoe2, sealS_size, str_size]
    have := frB_len 1 0 2 0 [] (by decide) (by decide)
    omega
  have HE2 := hide hE2
  have HO2 := hide hO2
  have HOS := hide hos
  have HDV := hide hdv
  clear hoe hoe2 hE2 hO2 hos hdv
  go_enter Try.func66, Try.ntmps66
  go_wp2_with fail
  refine (new_net 2 _).mono ?_
  rintro e w0 ⟨rfl, hn, hk⟩
  have HN0 := hide hn
  have HB0 := hide hk
  have hg := hn.lt
  clear hn hk
  have hbl := (Below.refl w0.heap.size w0).alloc (Nat.le_refl _) (.cells #[.int .i64 1, .int .i64 0, .int .i64 1, .int .i64 0, .string ⟨#[97]⟩] 63)
  obtain ⟨w1, hw⟩ : ∃ w', w' = w0.alloc (.cells #[.int .i64 1, .int .i64 0, .int .i64 1, .int .i64 0, .string ⟨#[97]⟩] 63) := ⟨_, rfl⟩
  rw [← hw] at hbl
  have HN1 := hide (HN0.out.below hbl)
  have HB1 := hide (HB0.out.trans (hbl.mono HB0.out.size))
  have HXm1 := hide (show w1.heap[w0.heap.size]? = some (.cells #[.int .i64 1, .int .i64 0, .int .i64 1, .int .i64 0, .string ⟨#[97]⟩] 63 (0, 0)) from hw ▸ obj_new _ _)
  have HWE1 := hide hw
  clear hbl hw HN0 HB0
  have m0 := obj_cell HXm1.out 0
  have m1 := obj_cell HXm1.out 1
  have m2 := obj_cell HXm1.out 2
  have m3 := obj_cell HXm1.out 3
  have m4 := obj_cell HXm1.out 4
  simp only [List.getElem?_toArray, List.getElem?_cons_zero, List.getElem?_cons_succ] at m0 m1 m2 m3 m4
  rw [HWE1.out] at m0 m1 m2 m3 m4
  go_wp2_with fail
  rw [← HWE1.out]
  refine (send_net HN1.out 1 0 1 0 ⟨#[97]⟩ o 0 HE.out (fun _ => HO.out)).mono ?_
  rintro e w2 ⟨rfl, hn, hk⟩
  rw [send_y0]
  rw [send_x0 HOS.out] at hn
  have HN2 := hide hn
  have HB2 := hide (KeepN.on HB1.out HB1.out.size hk)
  have HXm2 := hide (hk.obj HXm1.out (by decide) (by decide))
  clear hn hk HN1 HB1 HXm1
  go_wp2_with fail
  refine (double_net HN2.out 0).mono ?_
  rintro e w3 ⟨rfl, hn, hk⟩
  rw [doub_y1]
  rw [doub_x1] at hn
  have HN3 := hide hn
  have HB3 := hide (KeepN.on HB2.out HB2.out.size hk)
  have HXm3 := hide (hk.obj HXm2.out (by decide) (by decide))
  clear hn hk HN2 HB2 HXm2
  go_wp2_with fail
  refine (deliver_net HN3.out 0).mono ?_
  rintro e w4 ⟨rfl, hn, hk⟩
  rw [dv_2 HDV.out]
  rw [drop_2] at hn
  have HN4 := hide hn
  have HB4 := hide (KeepN.on HB3.out HB3.out.size hk)
  have HXm4 := hide (hk.obj HXm3.out (by decide) (by decide))
  clear hn hk HN3 HB3 HXm3
  have hbl := (Below.refl w4.heap.size w4).alloc (Nat.le_refl _) (.cells #[.int .i64 1, .int .i64 0, .int .i64 1, .int .i64 0, .string ⟨#[97]⟩] 63)
  obtain ⟨w5, hw⟩ : ∃ w', w' = w4.alloc (.cells #[.int .i64 1, .int .i64 0, .int .i64 1, .int .i64 0, .string ⟨#[97]⟩] 63) := ⟨_, rfl⟩
  rw [← hw] at hbl
  have HN5 := hide (HN4.out.below hbl)
  have HB5 := hide (HB4.out.trans (hbl.mono HB4.out.size))
  have HXm5 := hide (obj_below HXm4.out hbl)
  have HXx5 := hide (show w5.heap[w4.heap.size]? = some (.cells #[.int .i64 1, .int .i64 0, .int .i64 1, .int .i64 0, .string ⟨#[97]⟩] 63 (0, 0)) from hw ▸ obj_new _ _)
  have HWE5 := hide hw
  clear hbl hw HN4 HB4 HXm4
  go_wp2_with fail
  rw [← HWE5.out]
  refine (deliver_net HN5.out 0).mono ?_
  rintro e w6 ⟨rfl, hn, hk⟩
  rw [dv_1 HDV.out]
  rw [drop_1] at hn
  have HN6 := hide hn
  have HB6 := hide (KeepN.on HB5.out HB5.out.size hk)
  have HXm6 := hide (hk.obj HXm5.out (by decide) (by decide))
  have HXx6 := hide (hk.obj HXx5.out (by decide) (by decide))
  clear hn hk HN5 HB5 HXm5 HXx5
  have hbl := (Below.refl w6.heap.size w6).alloc (Nat.le_refl _) (.cells #[.int .i64 1, .int .i64 0, .int .i64 1, .int .i64 0, .string ⟨#[97]⟩] 63)
  obtain ⟨w7, hw⟩ : ∃ w', w' = w6.alloc (.cells #[.int .i64 1, .int .i64 0, .int .i64 1, .int .i64 0, .string ⟨#[97]⟩] 63) := ⟨_, rfl⟩
  rw [← hw] at hbl
  have HN7 := hide (HN6.out.below hbl)
  have HB7 := hide (HB6.out.trans (hbl.mono HB6.out.size))
  have HXm7 := hide (obj_below HXm6.out hbl)
  have HXx7 := hide (obj_below HXx6.out hbl)
  have HXy7 := hide (show w7.heap[w6.heap.size]? = some (.cells #[.int .i64 1, .int .i64 0, .int .i64 1, .int .i64 0, .string ⟨#[97]⟩] 63 (0, 0)) from hw ▸ obj_new _ _)
  have HWE7 := hide hw
  clear hbl hw HN6 HB6 HXm6 HXx6
  go_wp2_with fail
  rw [← HWE7.out]
  refine (deliver_net HN7.out 0).mono ?_
  rintro e w8 ⟨rfl, hn, hk⟩
  rw [dv_0]
  rw [drop_0] at hn
  have HN8 := hide hn
  have HB8 := hide (KeepN.on HB7.out HB7.out.size hk)
  have HXm8 := hide (hk.obj HXm7.out (by decide) (by decide))
  have HXx8 := hide (hk.obj HXx7.out (by decide) (by decide))
  have HXy8 := hide (hk.obj HXy7.out (by decide) (by decide))
  clear hn hk HN7 HB7 HXm7 HXx7 HXy7
  have hbl := (Below.refl w8.heap.size w8).alloc (Nat.le_refl _) (.cells #[.int .i64 0, .int .i64 0, .int .i64 0, .int .i64 0, .string ⟨#[]⟩] 63)
  obtain ⟨w9, hw⟩ : ∃ w', w' = w8.alloc (.cells #[.int .i64 0, .int .i64 0, .int .i64 0, .int .i64 0, .string ⟨#[]⟩] 63) := ⟨_, rfl⟩
  rw [← hw] at hbl
  have HN9 := hide (HN8.out.below hbl)
  have HB9 := hide (HB8.out.trans (hbl.mono HB8.out.size))
  have HXm9 := hide (obj_below HXm8.out hbl)
  have HXx9 := hide (obj_below HXx8.out hbl)
  have HXy9 := hide (obj_below HXy8.out hbl)
  have HXz9 := hide (show w9.heap[w8.heap.size]? = some (.cells #[.int .i64 0, .int .i64 0, .int .i64 0, .int .i64 0, .string ⟨#[]⟩] 63 (0, 0)) from hw ▸ obj_new _ _)
  have HWE9 := hide hw
  clear hbl hw HN8 HB8 HXm8 HXx8 HXy8
  have k0 := obj_cell HXm9.out 0
  have k1 := obj_cell HXm9.out 1
  have k2 := obj_cell HXm9.out 2
  have k3 := obj_cell HXm9.out 3
  have k4 := obj_cell HXm9.out 4
  simp only [List.getElem?_toArray, List.getElem?_cons_zero, List.getElem?_cons_succ] at k0 k1 k2 k3 k4
  rw [HWE9.out] at k0 k1 k2 k3 k4
  go_wp2_with fail
  rw [← HWE9.out]
  refine (send_net HN9.out 1 0 1 0 ⟨#[97]⟩ o 0 HE.out (fun _ => HO.out)).mono ?_
  rintro e w10 ⟨rfl, hn, hk⟩
  rw [send_y0']
  rw [send_x0' HOS.out] at hn
  have HN10 := hide hn
  have HB10 := hide (KeepN.on HB9.out HB9.out.size hk)
  have HXm10 := hide (hk.obj HXm9.out (by decide) (by decide))
  have HXx10 := hide (hk.obj HXx9.out (by decide) (by decide))
  have HXy10 := hide (hk.obj HXy9.out (by decide) (by decide))
  have HXz10 := hide (hk.obj HXz9.out (by decide) (by decide))
  clear hn hk HN9 HB9 HXm9 HXx9 HXy9 HXz9
  go_wp2_with fail
  refine (cut_net HN10.out 1 0 true).mono ?_
  rintro e w11 ⟨rfl, hn, hk⟩
  rw [cut_y]
  rw [cut_x] at hn
  have HN11 := hide hn
  have HB11 := hide (KeepN.on HB10.out HB10.out.size hk)
  have HXm11 := hide (hk.obj HXm10.out (by decide) (by decide))
  have HXx11 := hide (hk.obj HXx10.out (by decide) (by decide))
  have HXy11 := hide (hk.obj HXy10.out (by decide) (by decide))
  have HXz11 := hide (hk.obj HXz10.out (by decide) (by decide))
  clear hn hk HN10 HB10 HXm10 HXx10 HXy10 HXz10
  go_wp2_with fail
  refine (deliver_net HN11.out 0).mono ?_
  rintro e w12 ⟨rfl, hn, hk⟩
  rw [dv_c]
  rw [drop_c] at hn
  have HN12 := hide hn
  have HB12 := hide (KeepN.on HB11.out HB11.out.size hk)
  have HXm12 := hide (hk.obj HXm11.out (by decide) (by decide))
  have HXx12 := hide (hk.obj HXx11.out (by decide) (by decide))
  have HXy12 := hide (hk.obj HXy11.out (by decide) (by decide))
  have HXz12 := hide (hk.obj HXz11.out (by decide) (by decide))
  clear hn hk HN11 HB11 HXm11 HXx11 HXy11 HXz11
  have hbl := (Below.refl w12.heap.size w12).alloc (Nat.le_refl _) (.cells #[.int .i64 0, .int .i64 0, .int .i64 0, .int .i64 0, .string ⟨#[]⟩] 63)
  obtain ⟨w13, hw⟩ : ∃ w', w' = w12.alloc (.cells #[.int .i64 0, .int .i64 0, .int .i64 0, .int .i64 0, .string ⟨#[]⟩] 63) := ⟨_, rfl⟩
  rw [← hw] at hbl
  have HN13 := hide (HN12.out.below hbl)
  have HB13 := hide (HB12.out.trans (hbl.mono HB12.out.size))
  have HXm13 := hide (obj_below HXm12.out hbl)
  have HXx13 := hide (obj_below HXx12.out hbl)
  have HXy13 := hide (obj_below HXy12.out hbl)
  have HXz13 := hide (obj_below HXz12.out hbl)
  have HXq13 := hide (show w13.heap[w12.heap.size]? = some (.cells #[.int .i64 0, .int .i64 0, .int .i64 0, .int .i64 0, .string ⟨#[]⟩] 63 (0, 0)) from hw ▸ obj_new _ _)
  have HWE13 := hide hw
  clear hbl hw HN12 HB12 HXm12 HXx12 HXy12 HXz12
  have mq0 := obj_cell HXm13.out 0
  have mq1 := obj_cell HXm13.out 1
  have mq2 := obj_cell HXm13.out 2
  have mq3 := obj_cell HXm13.out 3
  have mq4 := obj_cell HXm13.out 4
  simp only [List.getElem?_toArray, List.getElem?_cons_zero, List.getElem?_cons_succ] at mq0 mq1 mq2 mq3 mq4
  rw [HWE13.out] at mq0 mq1 mq2 mq3 mq4
  have xq0 := obj_cell HXx13.out 0
  have xq1 := obj_cell HXx13.out 1
  have xq2 := obj_cell HXx13.out 2
  have xq3 := obj_cell HXx13.out 3
  have xq4 := obj_cell HXx13.out 4
  simp only [List.getElem?_toArray, List.getElem?_cons_zero, List.getElem?_cons_succ] at xq0 xq1 xq2 xq3 xq4
  rw [HWE13.out] at xq0 xq1 xq2 xq3 xq4
  have yq0 := obj_cell HXy13.out 0
  have yq1 := obj_cell HXy13.out 1
  have yq2 := obj_cell HXy13.out 2
  have yq3 := obj_cell HXy13.out 3
  have yq4 := obj_cell HXy13.out 4
  simp only [List.getElem?_toArray, List.getElem?_cons_zero, List.getElem?_cons_succ] at yq0 yq1 yq2 yq3 yq4
  rw [HWE13.out] at yq0 yq1 yq2 yq3 yq4
  go_wp2_with fail
  rw [← HWE13.out]
  refine (waiting_net HN13.out).mono ?_
  rintro e w14 ⟨rfl, rfl⟩
  go_wp2_with fail
  refine (send_net HN13.out 1 0 2 0 ⟨#[]⟩ _ _ HE2.out (fun _ => HO2.out)).mono ?_
  rintro e w14 ⟨rfl, hn, hk⟩
  rw [send_y2]
  rw [send_x2] at hn
  have HN14 := hide hn
  have HB14 := hide (KeepN.on HB13.out HB13.out.size hk)
  clear hn hk
  go_wp2_with fail
  refine (drop_net HN14.out 0).mono ?_
  rintro e w15 ⟨rfl, hn, hk⟩
  rw [any_e]
  have HB15 := hide (KeepN.on HB14.out HB14.out.size hk)
  clear hn hk
  go_wp2
  go_ret
  exact ⟨rfl, HB15.out⟩
end Go.Proofs.Ytljmaicobafgkaa
end
section
/- Chapter 13, net: a message, a deed, and a slice of deeds, as a row hands them. -/
namespace Go.Proofs.Ytljmaicobafgkaa
open Go.Joins Go.ChangeShapes Go.WideShapes Go.RowKit Go.Deep

def Msg.lst (d : Msg) : List Value := [.int .i64 d.k, .int .i64 d.f, .int .i64 d.t, .int .i64 d.i, .string d.b]
def Msg.wf (d : Msg) : Prop := (Lit.int .i64 d.k).wf = true ∧ (Lit.int .i64 d.f).wf = true ∧ (Lit.int .i64 d.t).wf = true ∧ (Lit.int .i64 d.i).wf = true ∧ d.b.size ≤ maxLen
set_option maxRecDepth 100000 in
theorem trod_msg {H : Type} {enc : TypeId × Value → H} {w : World} {base : Nat} {spare : Nat → Bool} {held : Bool} {fuel : Nat} {cs : List Value} {x : DataW H × List MemPlace} (h : DataW.trod enc Try.prog w base spare held fuel 63 cs = some x) :
    ∃ d : Msg, cs = d.lst ∧ d.wf := by
  obtain ⟨xs, n, _, _, hlen, hxl, hf⟩ := DataW.trod_struct Try.underlying63 h
  rw [show Try.prog.cellsOf 63 = 5 from by kernel_rfl] at hlen
  match cs, hlen with
  | [c0, c1, c2, c3, c4], _ =>
    match xs, hxl with
    | [y0, y1, y2, y3, y4], _ =>
      have ec3 : Try.prog.cellsOf 3 = 1 := by kernel_rfl
      have ec9 : Try.prog.cellsOf 9 = 1 := by kernel_rfl
      have h0 := hf 0 _ rfl
      have h1 := hf 1 _ rfl
      have h2 := hf 2 _ rfl
      have h3 := hf 3 _ rfl
      have h4 := hf 4 _ rfl
      simp only [List.getElem_toArray, List.getElem_cons_succ, List.getElem_cons_zero, ec3, ec9, List.drop_zero, List.drop_succ_cons, List.take_succ_cons, List.take_zero, List.getElem?_cons_zero, List.getElem?_cons_succ] at h0 h1 h2 h3 h4
      obtain ⟨a0, e0, _, w0⟩ := DataW.trod_int (k := .i64) (by kernel_rfl) h0
      obtain ⟨a1, e1, _, w1⟩ := DataW.trod_int (k := .i64) (by kernel_rfl) h1
      obtain ⟨a2, e2, _, w2⟩ := DataW.trod_int (k := .i64) (by kernel_rfl) h2
      obtain ⟨a3, e3, _, w3⟩ := DataW.trod_int (k := .i64) (by kernel_rfl) h3
      obtain ⟨a4, e4, _, w4⟩ := DataW.trod_string (by kernel_rfl) h4
      simp only [List.cons.injEq, and_true] at e0 e1 e2 e3 e4
      subst e0 e1 e2 e3 e4
      exact ⟨⟨a0, a1, a2, a3, a4⟩, rfl, ⟨w0, w1, w2, w3, w4⟩⟩
set_option maxRecDepth 100000 in
theorem open_msg {H : Type} {enc : TypeId × Value → H} {w : World} {base : Nat} {spare : Nat → Bool} {held : Bool} {r : Reach} {b0 : Nat} {v : Value} {d : DataW H} {p : List MemPlace} (hv : Value.okWide Try.prog w r b0 63 v) (h : DataW.Trod enc Try.prog w base spare held 63 v d p) :
    ∃ x : Msg, v = .agg x.lst.toArray ∧ x.wf := by
  obtain ⟨cs, rfl, _⟩ := okWide_struct Try.underlying63 hv
  obtain ⟨fuel, hf⟩ := h
  obtain ⟨x, hx, hw⟩ := trod_msg hf
  refine ⟨x, ?_, hw⟩
  rw [← hx]
  simp [Value.cells]
structure NDeed where
  kind : Int
  a : Int
  b : Int
  c : Int
  m : Msg
def NDeed.lst (d : NDeed) : List Value := [.int .i64 d.kind, .int .i64 d.a, .int .i64 d.b, .int .i64 d.c, .int .i64 d.m.k, .int .i64 d.m.f, .int .i64 d.m.t, .int .i64 d.m.i, .string d.m.b]
def NDeed.wf (d : NDeed) : Prop := (Lit.int .i64 d.kind).wf = true ∧ (Lit.int .i64 d.a).wf = true ∧ (Lit.int .i64 d.b).wf = true ∧ (Lit.int .i64 d.c).wf = true ∧ (Lit.int .i64 d.m.k).wf = true ∧ (Lit.int .i64 d.m.f).wf = true ∧ (Lit.int .i64 d.m.t).wf = true ∧ (Lit.int .i64 d.m.i).wf = true ∧ d.m.b.size ≤ maxLen
set_option maxRecDepth 100000 in
theorem trod_nDeed {H : Type} {enc : TypeId × Value → H} {w : World} {base : Nat} {spare : Nat → Bool} {held : Bool} {fuel : Nat} {cs : List Value} {x : DataW H × List MemPlace} (h : DataW.trod enc Try.prog w base spare held fuel 111 cs = some x) :
    ∃ d : NDeed, cs = d.lst ∧ d.wf := by
  obtain ⟨xs, n, _, _, hlen, hxl, hf⟩ := DataW.trod_struct Try.underlying111 h
  rw [show Try.prog.cellsOf 111 = 9 from by kernel_rfl] at hlen
  match cs, hlen with
  | [c0, c1, c2, c3, c4, c5, c6, c7, c8], _ =>
    match xs, hxl with
    | [y0, y1, y2, y3, y4], _ =>
      have ec3 : Try.prog.cellsOf 3 = 1 := by kernel_rfl
      have ec63 : Try.prog.cellsOf 63 = 5 := by kernel_rfl
      have h0 := hf 0 _ rfl
      have h1 := hf 1 _ rfl
      have h2 := hf 2 _ rfl
      have h3 := hf 3 _ rfl
      have h4 := hf 4 _ rfl
      simp only [List.getElem_toArray, List.getElem_cons_succ, List.getElem_cons_zero, ec3, ec63, List.drop_zero, List.drop_succ_cons, List.take_succ_cons, List.take_zero, List.getElem?_cons_zero, List.getElem?_cons_succ] at h0 h1 h2 h3 h4
      obtain ⟨a0, e0, _, w0⟩ := DataW.trod_int (k := .i64) (by kernel_rfl) h0
      obtain ⟨a1, e1, _, w1⟩ := DataW.trod_int (k := .i64) (by kernel_rfl) h1
      obtain ⟨a2, e2, _, w2⟩ := DataW.trod_int (k := .i64) (by kernel_rfl) h2
      obtain ⟨a3, e3, _, w3⟩ := DataW.trod_int (k := .i64) (by kernel_rfl) h3
      obtain ⟨a4, e4, w4⟩ := trod_msg h4
      simp only [Msg.lst, List.cons.injEq, and_true] at e0 e1 e2 e3 e4
      obtain ⟨s4_0, s4_1, s4_2, s4_3, s4_4⟩ := e4
      subst e0 e1 e2 e3 s4_0 s4_1 s4_2 s4_3 s4_4
      exact ⟨⟨a0, a1, a2, a3, a4⟩, rfl, ⟨w0, w1, w2, w3, w4.1, w4.2.1, w4.2.2.1, w4.2.2.2.1, w4.2.2.2.2⟩⟩
set_option maxRecDepth 100000 in
theorem open_nDeed {H : Type} {enc : TypeId × Value → H} {w : World} {base : Nat} {spare : Nat → Bool} {held : Bool} {r : Reach} {b0 : Nat} {v : Value} {d : DataW H} {p : List MemPlace} (hv : Value.okWide Try.prog w r b0 111 v) (h : DataW.Trod enc Try.prog w base spare held 111 v d p) :
    ∃ x : NDeed, v = .agg x.lst.toArray ∧ x.wf := by
  obtain ⟨cs, rfl, _⟩ := okWide_struct Try.underlying111 hv
  obtain ⟨fuel, hf⟩ := h
  obtain ⟨x, hx, hw⟩ := trod_nDeed hf
  refine ⟨x, ?_, hw⟩
  rw [← hx]
  simp [Value.cells]
/-- The argument v reads as the list l. -/
def NDeedArg (w : World) (v : Value) (l : List NDeed) : Prop :=
  (v = .slice none 0 0 ∧ l = []) ∨ ∃ (a : Addr) (cap : Nat), v = .slice (some a) l.length cap ∧ l.length ≤ cap ∧ cap ≤ maxLen ∧
    ∀ i (hi : i < l.length), ∀ (j : Nat) (u : Value), l[i].lst[j]? = some u → w.cell? (a.add (i * 9 + j)) = some u
theorem list_ofNDeed {α : Type} {q : Nat → α → Prop} : ∀ (n : Nat), (∀ i, i < n → ∃ x, q i x) → ∃ l : List α, l.length = n ∧ ∀ i (hi : i < l.length), q i l[i]
  | 0, _ => ⟨[], rfl, fun i hi => by simp at hi⟩
  | n + 1, h => by
    obtain ⟨l, hl, hq⟩ := list_ofNDeed n (fun i hi => h i (by omega))
    obtain ⟨x, hx⟩ := h n (by omega)
    refine ⟨l ++ [x], by simp [hl], fun i hi => ?_⟩
    rcases Nat.lt_or_ge i l.length with h1 | h1
    · rw [List.getElem_append_left h1]
      exact hq i h1
    · obtain rfl : i = l.length := by simp at hi; omega
      simp only [List.getElem_concat_length]
      rw [hl]
      exact hx
set_option maxRecDepth 100000 in
theorem open_nDeeds {H : Type} {enc : TypeId × Value → H} {w : World} {base : Nat} {spare : Nat → Bool} {held : Bool} {r : Reach} {b0 : Nat} {v : Value} {d : DataW H} {p : List MemPlace}
    (hv : Value.okWide Try.prog w r b0 105 v) (h : DataW.Trod enc Try.prog w base spare held 105 v d p) :
    ∃ l : List NDeed, NDeedArg w v l ∧ ∀ x ∈ l, x.wf := by
  obtain ⟨A, n0, c0, rfl⟩ := okWide_slice Try.underlying105 hv
  obtain ⟨fuel, hf⟩ := h
  rcases open_slice Try.underlying105 hf with ⟨hcs, hx⟩ | ⟨a, len, cap, m, n, D, Pl, hcs, hb, hl, hm, hmm, hx, hi⟩
  · simp only [Value.cells, List.cons.injEq, Value.slice.injEq, and_true] at hcs
    exact ⟨[], .inl ⟨by rw [hcs.1, hcs.2.1, hcs.2.2], rfl⟩, fun x hx => by simp at hx⟩
  · simp only [Value.cells, List.cons.injEq, Value.slice.injEq, and_true] at hcs
    obtain ⟨rfl, rfl, rfl⟩ := hcs
    have hlm : n0 ≤ m := by rw [hmm]; split <;> omega
    rw [show Try.prog.cellsOf 111 = 9 from by kernel_rfl] at hi
    obtain ⟨l, hll, hq⟩ := list_ofNDeed (α := NDeed) (q := fun i x => x.wf ∧ ∀ (j : Nat) (u : Value), x.lst[j]? = some u → w.cell? (a.add (i * 9 + j)) = some u) n0 (fun i hil => by
      obtain ⟨cs', hc, ht⟩ := hi i (by omega)
      obtain ⟨x, rfl, hw⟩ := trod_nDeed ht
      obtain ⟨_, hcl, hat⟩ := World.cells?_some hc
      refine ⟨x, hw, fun j u hu => ?_⟩
      have hj : j < 9 := (List.getElem?_eq_some_iff.1 hu).1
      have h1 := hat j hj
      rw [Go.Deep.add_add] at h1
      exact h1.trans hu)
    subst hll
    refine ⟨l, .inr ⟨a, c0, rfl, hl, hm, fun i hi => (hq i hi).2⟩, fun x hx => ?_⟩
    obtain ⟨i, hi, rfl⟩ := List.getElem_of_mem hx
    exact (hq i hi).1
theorem NDeedArg.below {w w' : World} {v : Value} {l : List NDeed} (h : NDeedArg w v l) (hb : Below w.heap.size w w') : NDeedArg w' v l := by
  rcases h with h | ⟨a, cap, rfl, h1, h2, h3⟩
  · exact .inl h
  · exact .inr ⟨a, cap, rfl, h1, h2, fun i hi j u hu => (hb.cell (World.block_lt_of_cell? _ _ (h3 i hi j u hu))).trans (h3 i hi j u hu)⟩
theorem NDeedArg.slice {w : World} {v : Value} {l : List NDeed} (h : NDeedArg w v l) : ∃ A c, v = .slice A l.length c := by
  rcases h with ⟨rfl, rfl⟩ | ⟨a, cap, rfl, _⟩
  · exact ⟨none, 0, rfl⟩
  · exact ⟨some a, cap, rfl⟩
theorem NDeedArg.len {w : World} {v : Value} {l : List NDeed} (h : NDeedArg w v l) : l.length ≤ maxLen := by
  rcases h with ⟨rfl, rfl⟩ | ⟨a, cap, rfl, h1, h2, h3⟩
  · simp
  · omega
theorem add_fldNDeed (a : Addr) (n j : Nat) (hj : 0 < j) : a.add (n + j) = ⟨(a.add n).block, (a.add n).off + j, none⟩ := by
  rw [← Go.Deep.add_add]
  generalize a.add n = b
  unfold Addr.add
  rw [if_neg (by omega)]
theorem NDeedArg.cells {w : World} {v : Value} {l : List NDeed} (h : NDeedArg w v l) {k : Nat} (hk : k < l.length) : ∃ a cap, v = .slice (some a) l.length cap ∧ l.length ≤ cap ∧ cap ≤ maxLen ∧
    w.cell? (a.add (k * 9)) = some (.int .i64 l[k].kind) ∧
    w.cell? ⟨(a.add (k * 9)).block, (a.add (k * 9)).off + 1, none⟩ = some (.int .i64 l[k].a) ∧
    w.cell? ⟨(a.add (k * 9)).block, (a.add (k * 9)).off + 2, none⟩ = some (.int .i64 l[k].b) ∧
    w.cell? ⟨(a.add (k * 9)).block, (a.add (k * 9)).off + 3, none⟩ = some (.int .i64 l[k].c) ∧
    w.cell? ⟨(a.add (k * 9)).block, (a.add (k * 9)).off + 4, none⟩ = some (.int .i64 l[k].m.k) ∧
    w.cell? ⟨(a.add (k * 9)).block, (a.add (k * 9)).off + 5, none⟩ = some (.int .i64 l[k].m.f) ∧
    w.cell? ⟨(a.add (k * 9)).block, (a.add (k * 9)).off + 6, none⟩ = some (.int .i64 l[k].m.t) ∧
    w.cell? ⟨(a.add (k * 9)).block, (a.add (k * 9)).off + 7, none⟩ = some (.int .i64 l[k].m.i) ∧
    w.cell? ⟨(a.add (k * 9)).block, (a.add (k * 9)).off + 8, none⟩ = some (.string l[k].m.b) := by
  rcases h with ⟨rfl, rfl⟩ | ⟨a, cap, rfl, h1, h2, h3⟩
  · simp at hk
  · have h := h3 k hk
    refine ⟨a, cap, rfl, h1, h2, by have := h 0 _ rfl; rwa [Nat.add_zero] at this, ?_, ?_, ?_, ?_, ?_, ?_, ?_, ?_⟩
    · have := h 1 _ rfl
      rwa [add_fldNDeed _ _ _ (by decide)] at this
    · have := h 2 _ rfl
      rwa [add_fldNDeed _ _ _ (by decide)] at this
    · have := h 3 _ rfl
      rwa [add_fldNDeed _ _ _ (by decide)] at this
    · have := h 4 _ rfl
      rwa [add_fldNDeed _ _ _ (by decide)] at this
    · have := h 5 _ rfl
      rwa [add_fldNDeed _ _ _ (by decide)] at this
    · have := h 6 _ rfl
      rwa [add_fldNDeed _ _ _ (by decide)] at this
    · have := h 7 _ rfl
      rwa [add_fldNDeed _ _ _ (by decide)] at this
    · have := h 8 _ rfl
      rwa [add_fldNDeed _ _ _ (by decide)] at this
end Go.Proofs.Ytljmaicobafgkaa
end
section
/- Chapter 13, net: what Encode gives, and a byte that is spoilt; plain. -/
namespace Go.Proofs.Ytljmaicobafgkaa
open Go.RowKit

def mV (k f t i : Int) (b : ByteArray) (c : Int) : Value := .tuple #[.agg #[.int .i64 k, .int .i64 f, .int .i64 t, .int .i64 i, .string b], .int .i64 c]
theorem enc13 (k f t i : Int) (b : ByteArray) (hb : b.size ≤ 9223372036854775807) : ∃ (o : ByteArray) (c : Int), EncTo k f t i b o c ∧ REncTo k f t i b o c ∧
    (c = 0 → (4 ≤ o.size ∧ o.size ≤ 10000) ∧ decV o.data.toList = mV k f t i b 0 ∧ ∃ l : List UInt8, l.length ≤ 4200 ∧ o = sealS ⟨l.toArray⟩) := by
  by_cases hc : chk k f t i b.size = 0
  · obtain ⟨hm, hn⟩ := chk_zero hc
    have hl := frB_len k f t i b.data.toList ⟨hm.2.2.2.2.2.2.1, by have := hm.2.2.2.2.2.2.2; omega⟩ (by rw [← size_list]; exact hn)
    refine ⟨_, 0, fun w => encode_ok k f t i b w hm hn, fun w => rEncode_ok k f t i b w hm hn, fun _ => ⟨?_, ?_, _, hl, rfl⟩⟩
    · rw [sealS_size, str_size]
      omega
    · have hd := dec_enc k f t i b.data.toList hm (by rw [← size_list]; exact hn)
      rw [str_eta] at hd
      exact hd
  · exact ⟨_, _, fun w => encode_bad k f t i b w hb hc, fun w => rEncode_bad k f t i b w hb hc, fun h => absurd h hc⟩
theorem spB_nat (b : UInt8) {y : Int} (h0 : 0 ≤ y) (h1 : y ≤ 255) : (spB b y).toNat = b.toNat ^^^ y.toNat := by
  have h2 : y % 256 = y := by omega
  have h3 : y.toNat < 256 := by omega
  have := xor_lt b.toNat y.toNat b.toNat_lt h3
  unfold spB
  rw [h2, UInt8.toNat_ofNat', Nat.mod_eq_of_lt (by omega)]
theorem spB_twice (b : UInt8) {y : Int} (h0 : 0 ≤ y) (h1 : y ≤ 255) : spB (spB b y) y = b := by
  refine UInt8.toNat_inj.1 ?_
  rw [spB_nat _ h0 h1, spB_nat _ h0 h1, Nat.xor_assoc, Nat.xor_self, Nat.xor_zero]
theorem spL_get {s : List UInt8} (a y : Int) (hs : 0 < s.length) : spL s a y = s.set (atI a s.length) (spB (s[atI a s.length]'(atI_lt a hs)) y) := by
  unfold spL
  rw [List.getElem?_eq_getElem (atI_lt a hs), Option.getD_some]
theorem spL_twice {s : List UInt8} (a : Int) {y : Int} (h0 : 0 ≤ y) (h1 : y ≤ 255) (hs : 0 < s.length) : spL (spL s a y) a y = s := by
  rw [spL_get a y hs, spL_get a y (by rw [List.length_set]; exact hs)]
  simp only [List.length_set, List.getElem_set_self, List.set_set]
  rw [spB_twice _ h0 h1, List.set_getElem_self]
theorem spL_zero {s : List UInt8} (a : Int) (hs : 0 < s.length) : spL s a 0 = s := by
  rw [spL_get a 0 hs]
  have : spB (s[atI a s.length]'(atI_lt a hs)) 0 = s[atI a s.length]'(atI_lt a hs) := by
    refine UInt8.toNat_inj.1 ?_
    rw [spB_nat _ (by decide) (by decide)]
    exact Nat.xor_zero _
  rw [this, List.set_getElem_self]
theorem spL_turned (l : List UInt8) (a : Int) {y : Int} (h0 : 0 < y) (h1 : y ≤ 255) : decV (spL (sealS ⟨l.toArray⟩).data.toList a y) = mV 0 0 0 0 ⟨#[]⟩ 4 := by
  have e := sealS_list ⟨l.toArray⟩
  have hs : 0 < (l ++ le4 (crc l)).length := by rw [List.length_append, le4_length]; omega
  have hl : (⟨l.toArray⟩ : ByteArray).data.toList = l := rfl
  rw [hl] at e
  rw [e, spL_get a y hs]
  have ho := open_turned l (atI a (l ++ le4 (crc l)).length) (spB ((l ++ le4 (crc l))[atI a (l ++ le4 (crc l)).length]'(atI_lt a hs)) y) (atI_lt a hs) (fun h => by
    have h2 := congrArg UInt8.toNat h
    rw [spB_nat _ (by omega) h1] at h2
    exact turned_ne _ _ (by omega) h2.symm)
  unfold decV
  rw [ho]
  rfl
end Go.Proofs.Ytljmaicobafgkaa
end
section
/- Chapter 13, net: messages in a row; two messages held against each other; Few. -/
namespace Go.Proofs.Ytljmaicobafgkaa
open Go.RowKit

def msgVals (l : List Msg) : List Value := l.flatMap Msg.lst
theorem mv_len (l : List Msg) : (msgVals l).length = l.length * 5 := by
  induction l with
  | nil => rfl
  | cons p l ih =>
    have : msgVals (p :: l) = p.lst ++ msgVals l := by simp [msgVals]
    rw [this, List.length_append, ih]
    simp [Msg.lst]
    omega
theorem mv_app (a b : List Msg) : msgVals (a ++ b) = msgVals a ++ msgVals b := by simp [msgVals]
theorem mv_one (v : Value) {l : List Msg} (h : v ∈ msgVals l) : v.oneCell' = true := by
  unfold msgVals at h
  rw [List.mem_flatMap] at h
  obtain ⟨p, _, hp⟩ := h
  simp only [Msg.lst, List.mem_cons, List.not_mem_nil, or_false] at hp
  rcases hp with rfl | rfl | rfl | rfl | rfl <;> rfl
theorem mv_get (l : List Msg) {k j : Nat} (hk : k < l.length) (hj : j < 5) : (msgVals l)[k * 5 + j]? = (l[k].lst)[j]? := by
  have h : msgVals l = msgVals (l.take k) ++ (l[k].lst ++ msgVals (l.drop (k + 1))) := by
    have e : l = l.take k ++ (l[k] :: l.drop (k + 1)) := by rw [List.getElem_cons_drop, List.take_append_drop]
    have e2 : msgVals (l[k] :: l.drop (k + 1)) = l[k].lst ++ msgVals (l.drop (k + 1)) := by simp only [msgVals, List.flatMap_cons]
    rw [← e2, ← mv_app, ← e]
  rw [h, List.getElem?_append_right (by rw [mv_len, List.length_take]; omega), mv_len, List.length_take, Nat.min_eq_left (by omega), List.getElem?_append_left (by simp [Msg.lst]; omega)]
  congr 1
  omega
def SRow (w : World) (B : Nat) (v : Value) (l : List Msg) : Prop := w.ownsRow B 63 5 v l.length (msgVals l)
theorem SRow.below {w w' : World} {B : Nat} {v : Value} {l : List Msg} (h : SRow w B v l) (hb : Below w.heap.size w w') : SRow w' B v l := row_below h hb
theorem SRow.keep {w w' : World} {B B' : Nat} {v : Value} {l : List Msg} (h : SRow w B v l) (hk : KeepN B' w w') : SRow w' B v l := by
  refine ⟨h.1, ?_⟩
  rcases h.2 with h2 | ⟨g, cap, cur, h1, h2, h3, h4⟩
  · exact .inl h2
  · exact .inr ⟨g, cap, cur, h1, h2, hk.obj h3 (by decide) (by decide), h4⟩
theorem SRow.cells {w : World} {B : Nat} {v : Value} {l : List Msg} (h : SRow w B v l) {k : Nat} (hk : k < l.length) : ∃ r cap, v = .slice (some ⟨r, 0, none⟩) l.length cap ∧ l.length ≤ cap ∧ cap ≤ maxLen ∧
    w.cell? ⟨r, k * 5, none⟩ = some (.int .i64 l[k].k) ∧ w.cell? ⟨r, k * 5 + 1, none⟩ = some (.int .i64 l[k].f) ∧ w.cell? ⟨r, k * 5 + 2, none⟩ = some (.int .i64 l[k].t) ∧ w.cell? ⟨r, k * 5 + 3, none⟩ = some (.int .i64 l[k].i) ∧ w.cell? ⟨r, k * 5 + 4, none⟩ = some (.string l[k].b) := by
  rcases h.2 with ⟨_, h0⟩ | ⟨g', cap, cur, e, -, hc, hn, hm, hs, ht⟩
  · omega
  · have key : ∀ j, j < 5 → w.cell? ⟨g', k * 5 + j, none⟩ = (l[k].lst)[j]? := fun j hj => by
      rw [obj_cell hc, ← mv_get l hk hj, ← ht, List.getElem?_take, if_pos (by omega), Array.getElem?_toList]
    exact ⟨g', cap, e, hn, hm, key 0 (by decide), key 1 (by decide), key 2 (by decide), key 3 (by decide), key 4 (by decide)⟩
theorem info63z : ∃ i, Try.prog.info? 63 = some i ∧ i.zero = some (.agg #[.int .i64 0, .int .i64 0, .int .i64 0, .int .i64 0, .string ⟨#[]⟩]) ∧ i.size = 5 ∧ i.bytes = 48 := by
  have h : (Try.prog.info? 63).map (fun i => (i.zero, i.size, i.bytes)) = some (some (.agg #[.int .i64 0, .int .i64 0, .int .i64 0, .int .i64 0, .string ⟨#[]⟩]), 5, 48) := by kernel_rfl
  rcases e : Try.prog.info? 63 with _ | i
  · rw [e] at h
    cases h
  · rw [e] at h
    simp only [Option.map_some, Option.some.injEq, Prod.mk.injEq] at h
    exact ⟨i, rfl, h.1, h.2.1, h.2.2⟩
/-- One message onto a row of messages. -/
theorem app_msg {w : World} {B : Nat} {v : Value} {l : List Msg} (h : SRow w B v l) (m : Msg) (hl : l.length ≤ 1048576) (hB : B ≤ w.heap.size) (ty : TypeId) :
    ∃ v' w', (Builtin.append_ #[109, 109] ty #[v, .slice (some ⟨w.heap.size, 0, none⟩) 1 1]).run Try.prog (w.alloc (.cells #[.int .i64 m.k, .int .i64 m.f, .int .i64 m.t, .int .i64 m.i, .string m.b] 63)) = .ok v' w' ∧ SRow w' B v' (l ++ [m]) ∧ Fr (fun j => v.ownBlock = some j) w w' := by
  obtain ⟨i0, hi0, hz0, hz1, hz2⟩ := info63z
  have hb := (Below.refl w.heap.size w).alloc (Nat.le_refl _) (.cells #[.int .i64 m.k, .int .i64 m.f, .int .i64 m.t, .int .i64 m.i, .string m.b] 63)
  obtain ⟨v', w', hrun, hown, hg, _, hv⟩ := run_append_own_at (P := Try.prog) (w.alloc (.cells #[.int .i64 m.k, .int .i64 m.f, .int .i64 m.t, .int .i64 m.i, .string m.b] 63)) B 109 ty 63 i0 (.agg #[.int .i64 0, .int .i64 0, .int .i64 0, .int .i64 0, .string ⟨#[]⟩]) 5 48 Try.underlying109 hi0 hz0 hz1 hz2 rfl (by decide) v l.length (msgVals l) (row_below h hb) ⟨w.heap.size, 0, none⟩ 1 1 m.lst rfl (fun j u hu => by rw [add_plain', Nat.zero_add, obj_cell (obj_new _ _), ← Array.getElem?_toList]; exact hu) (fun u hu => mv_one u (l := [m]) (by simpa [msgVals] using hu)) (by simp only [maxLen]; omega) (by omega) (by simp; omega)
  refine ⟨v', w', hrun, ?_, (Fr.of_below hb).grown hg (fun k hk _ => hk)⟩
  unfold SRow
  rw [mv_app, List.length_append, show msgVals [m] = m.lst from by simp [msgVals]]
  exact hown
theorem bytes_ext {a b : ByteArray} (h : a.toList = b.toList) : a = b := by
  rw [ByteArray.toList_eq, ByteArray.toList_eq] at h
  obtain ⟨⟨x⟩⟩ := a
  obtain ⟨⟨y⟩⟩ := b
  simp only at h
  rw [h]
def msgEq (m q : Msg) : Bool := m.k == q.k && m.f == q.f && m.t == q.t && m.i == q.i && m.b.toList == q.b.toList
theorem msgEq_iff {m q : Msg} : msgEq m q = true ↔ m = q := by
  obtain ⟨k, f, t, i, b⟩ := m
  obtain ⟨k', f', t', i', b'⟩ := q
  simp only [msgEq, Bool.and_eq_true, beq_iff_eq, Msg.mk.injEq]
  exact ⟨fun ⟨⟨⟨⟨h1, h2⟩, h3⟩, h4⟩, h5⟩ => ⟨h1, h2, h3, h4, bytes_ext h5⟩, fun ⟨h1, h2, h3, h4, h5⟩ => ⟨⟨⟨⟨h1, h2⟩, h3⟩, h4⟩, by rw [h5]⟩⟩
theorem eq63 (m q : Msg) (w : World) : (Op.equalIn 10000 63 (.agg #[.int .i64 m.k, .int .i64 m.f, .int .i64 m.t, .int .i64 m.i, .string m.b]) (.agg #[.int .i64 q.k, .int .i64 q.f, .int .i64 q.t, .int .i64 q.i, .string q.b])).run Try.prog w = .ok (msgEq m q) w := by
  have hS : Try.prog.underlying 63 = some (.struct (Try.prog.fieldsOf 63)) := by kernel_rfl
  have hp : Try.prog.stoodInHeld 63 = false := by kernel_rfl
  rw [show (10000 : Nat) = 9999 + 1 from rfl, run_equalIn_struct w 9999 63 _ _ hS hp]
  simp only [Program.fieldsOf, Try.underlying63]
  go_simp
  unfold msgEq
  by_cases h1 : m.k = q.k
  · by_cases h2 : m.f = q.f
    · by_cases h3 : m.t = q.t
      · by_cases h4 : m.i = q.i
        · by_cases h5 : m.b.toList = q.b.toList <;> simp [h1, h2, h3, h4, h5]
        · simp [h1, h2, h3, h4]
      · simp [h1, h2, h3]
    · simp [h1, h2]
  · simp [h1]
theorem eql63 (m q : Msg) (w : World) : (binOp .eql 63 (.agg #[.int .i64 m.k, .int .i64 m.f, .int .i64 m.t, .int .i64 m.i, .string m.b]) (.agg #[.int .i64 q.k, .int .i64 q.f, .int .i64 q.t, .int .i64 q.i, .string q.b])).run Try.prog w = .ok (.bool (msgEq m q)) w := by
  rw [run_eql_struct, eq63]
  rfl
theorem wpStill_binop {P : Program} {ops : Array Oper} {w : World} {Q : Act → Prop} {a : Act} {o : Oper} {rest : List Oper} (op : BinOp) (ty : TypeId) (x y : Operand) (t2 : TypeId) (ho : o.op = .binOp op ty x y t2) (hg : Region.wanted o (yielded ops a.tmps) = true) {vx vy u : Value} (hx : a.eval x = vx) (hy : a.eval y = vy)
    (hgd : (eqGuard op ty x y vx vy).run P w = .ok () w) (hrun : (binOp op ty vx vy).run P w = .ok u w) (h : wpStill P ops w Q rest (a.put o.dst u)) : wpStill P ops w Q (o :: rest) a :=
  wpStill_step fun K hK => by
    rw [if_pos hg]
    unfold Oper.still execOp
    simp only [ho, hx, hy, Sem.run_bind, hgd, hrun, Result.andThen_ok, Sem.run_pure]
    exact ⟨rfl, hK _ h⟩
theorem guard63 (x y : Operand) (u v : Array Value) (w : World) : (eqGuard .eql 63 x y (.agg u) (.agg v)).run Try.prog w = .ok () w := run_eqGuard_agg w .eql 63 x y u v (by kernel_rfl)
def fewV (n : Nat) : Value := .int .i64 (if 120 < n then 0 else 1)
set_option maxRecDepth 100000 in
theorem few13_far (A : Option Addr) (n c : Nat) (w : World) (h : 120 < n) : Calls Try.prog 65 #[.slice A n c] w fun e w' => e = .returned (.int .i64 0) ∧ w = w' := by
  have h' : (120 : Int) < (n : Int) := by omega
  go_enter Try.func65, Try.ntmps65
  go_wp2
  go_ret
  exact ⟨rfl, rfl⟩
set_option maxRecDepth 100000 in
theorem few13_ok (A : Option Addr) (n c : Nat) (w : World) (h : n ≤ 120) : Calls Try.prog 65 #[.slice A n c] w fun e w' => e = .returned (.int .i64 1) ∧ w = w' := by
  have h' : ¬ (120 : Int) < (n : Int) := by omega
  go_enter Try.func65, Try.ntmps65
  go_wp2
  go_ret
  exact ⟨rfl, rfl⟩
end Go.Proofs.Ytljmaicobafgkaa
end
