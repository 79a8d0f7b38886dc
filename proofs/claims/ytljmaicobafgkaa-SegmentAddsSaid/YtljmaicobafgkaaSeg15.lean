/- Chapter 31, segment: the example. -/
import Derived.Test.YtljmaicobafgkaaSeg14
namespace Go.Proofs.Ytljmaicobafgkaa
open Go.RowKit

set_option maxHeartbeats 1000000 in
set_option maxRecDepth 100000 in
theorem room_quiet (g : Nat) (size v : Int) (t : List UInt8) (l : List Ent) (lv : Value) (w : World) (h : Sg w g size t l lv) (h0 : 0 ≤ size) (h1 : size ≤ 65536) (ht : t.length ≤ 1048576) (hn : l.length ≤ 90000)
    (hv : size - t.length - (9 + 28 * (l.length + 1)) = v) (hv0 : 0 ≤ v) :
    Calls Try.prog 57 #[.pointer (some ⟨g, 0, none⟩)] w fun e w' => e = .returned (.int .i64 v) ∧ ∃ m, w' = w.drewN m := by
  have hl := left_quiet g size t l lv w h h0 h1 ht hn
  rw [hv] at hl
  clear hv
  go_enter Try.func57, Try.ntmps57
  go_wp2_with fail
  refine hl.mono ?_
  rintro e w1 ⟨rfl, m, rfl⟩
  go_wp2
  go_ret
  exact ⟨rfl, _, rfl⟩
theorem num_single {n : Int} (h0 : 0 ≤ n) (h1 : n < 64) : (num n).length = 1 := by
  unfold num
  rw [numN_small (by unfold zz; rw [if_pos h0]; omega)]
  rfl
def exPc : Pc := ⟨1, 3, 1, ⟨#[97, 98, 99]⟩⟩
def exPc4 : Pc := ⟨4, 0, 0, ⟨#[]⟩⟩
def exZ : List UInt8 := List.replicate 100 0
def exPcZ : Pc := ⟨1, 0, 0, ⟨exZ.toArray⟩⟩
theorem ex_inv : SegInv 100 [exPc] := ⟨fun x hx => by
  simp only [List.mem_singleton] at hx
  subst hx
  decide, .inr (by decide)⟩
theorem ex_sum : openL [97, 98, 99, 100] = none := by decide +kernel
theorem ex_ext : (segS [exPc]).extract 0 (0 + 3) = ⟨#[97, 98, 99]⟩ := by
  rw [extract_str, segS_list]
  rfl
def zeroCells : List Value := List.replicate 100 (.int .u8 0)
theorem make100 (w : World) : (Instr.makeSlice 77 (.int .i64 100) (.int .i64 100)).run Try.prog w = .ok (.slice (some ⟨w.heap.size, 0, none⟩) 100 100) (w.alloc (.cells zeroCells.toArray 5)) := by kernel_rfl
theorem conv100 (w : World) : (convert 77 9 (.slice (some ⟨w.heap.size, 0, none⟩) 100 100)).run Try.prog (w.alloc (.cells zeroCells.toArray 5)) = .ok (.string ⟨exZ.toArray⟩) (w.alloc (.cells zeroCells.toArray 5)) := by
  refine conv_str exZ rfl (fun ad e j u hu => ?_) (fun e => by cases e)
  cases e
  rw [add_plain', Nat.zero_add, obj_cell (obj_new w _)]
  rw [show byteVals exZ = zeroCells from rfl] at hu
  rw [← hu]
  simp
theorem ex_left : leftOf 100 (pcText [exPc]).length (entsAt 0 [exPc]).length < ((⟨exZ.toArray⟩ : ByteArray).size : Int) := by decide
def Awake31 : Prop := ∀ w : World, Calls Try.prog 52 #[] w fun e w' => e = .returned (.bool true) ∧ Below w.heap.size w w'
set_option maxHeartbeats 4000000 in
set_option maxRecDepth 1000000 in
theorem awake31 : Awake31 := by
  intro w
  have hsz : (segS [exPc]).size = 16 := by
    rw [segS_size]
    have h5 : (idxB (entsAt 0 [exPc])).length = 5 := by
      have e1 := num_single (n := 1) (by decide) (by decide)
      have e3 := num_single (n := 3) (by decide) (by decide)
      rw [show idxB (entsAt 0 [exPc]) = num 1 ++ (ub 1 :: (num 3 ++ (num 1 ++ num 3))) from by simp [idxB, entsAt, entB, exPc, Pc.ent]; rfl]
      rw [List.length_append, List.length_cons, List.length_append, List.length_append, e1, e3]
    rw [show (pcText [exPc]).length = 3 from by decide, h5]
  go_enter Try.func52, Try.ntmps52
  go_wp2_with fail
  refine (newSeg_any 100 _).mono ?_
  rintro e w1 ⟨rfl, hs1, hb1⟩
  have HS1 : Hid (SgP w1 w.heap.size 100 [] (.slice none 0 0)) := hide hs1
  have HB1 := hide hb1
  clear hs1 hb1
  go_wp2_with fail
  refine (addP w.heap.size 100 [] (.slice none 0 0) exPc _ HS1.out (SegInv.nil _) (by decide) (by decide)).mono ?_
  rintro e w2 ⟨rfl, lv2, hs2, hf2, _⟩
  have HB2 := hide (HB1.out.trans (HS1.out.low hf2 (Nat.le_refl _)))
  have HS2 : Hid (SgP w2 w.heap.size 100 [exPc] lv2) := hide hs2
  rw [show addE 100 [] exPc = ⟨1, 3, 1, 0, 3⟩ from by rfl, show addC 100 [] exPc = 0 from by rfl]
  clear hs2 hf2
  unfold entV
  go_wp2_with fail
  refine (sealP w.heap.size 100 [exPc] lv2 _ (Sg.below HS2.out ((Below.refl _ _).alloc (Nat.le_refl _) _)) ex_inv (by decide) (by decide)).mono ?_
  rintro e w3 ⟨rfl, hb3⟩
  have HS3 : Hid (SgP w3 w.heap.size 100 [exPc] lv2) := hide ((Sg.below HS2.out ((Below.refl _ _).alloc (Nat.le_refl _) _)).below hb3)
  have HE3 := hide (obj_below (obj_new w2 _) hb3)
  have HB3 := hide (below_step HB2.out HB2.out.size hb3)
  clear hb3
  go_wp2_with fail
  refine (segOpen_seal 100 [exPc] _ ex_inv (by decide) (by decide)).mono ?_
  rintro e w4 ⟨A, c, rfl, hO, hb4⟩
  have HS4 : Hid (SgP w4 w.heap.size 100 [exPc] lv2) := hide (Sg.below HS3.out hb4)
  have HE4 := hide (obj_below HE3.out hb4)
  have HB4 := hide (HB3.out.trans (hb4.mono HB3.out.size))
  have HO4 := hide hO
  obtain ⟨g', c2, hv, hg1, hg2, hc2, hcell⟩ := ent_cells (k := 0) hO (by decide)
  cases hv
  have a0 := hcell 0 (by decide)
  have a1 := hcell 1 (by decide)
  have a2 := hcell 2 (by decide)
  have a3 := hcell 3 (by decide)
  have a4 := hcell 4 (by decide)
  rw [show (entsAt 0 [exPc])[0].cells = [.int .i64 1, .int .i64 3, .int .i64 1, .int .i64 0, .int .i64 3] from rfl] at a0 a1 a2 a3 a4
  simp only [List.getElem?_cons_zero, List.getElem?_cons_succ, Nat.zero_mul, Nat.zero_add] at a0 a1 a2 a3 a4
  rw [show [exPc].length = 1 from rfl]
  rw [show (entsAt 0 [exPc]).length = 1 from rfl] at hc2
  clear hcell hO hb4
  go_wp2_with fail
  refine (get_ok _ 1 3 1 0 3 _ (by rw [hsz]; decide) (by rw [hsz]; decide)).mono ?_
  rintro e w5 ⟨rfl, hb5⟩
  rw [ex_ext]
  have HS5 : Hid (SgP w5 w.heap.size 100 [exPc] lv2) := hide (Sg.below HS4.out hb5)
  have HE5 := hide (obj_below HE4.out hb5)
  have HB5 := hide (HB4.out.trans (hb5.mono HB4.out.size))
  have HO5 := hide (row_below HO4.out hb5)
  clear hb5
  go_wp2_with fail
  refine (segOpen_sum ⟨#[97, 98, 99, 100]⟩ _ (by decide) (by decide) ex_sum).mono ?_
  rintro e w6 ⟨rfl, hb6⟩
  have HS6 : Hid (SgP w6 w.heap.size 100 [exPc] lv2) := hide (Sg.below HS5.out hb6)
  have HE6 := hide (obj_below HE5.out hb6)
  have HB6 := hide (HB5.out.trans (hb6.mono HB5.out.size))
  have HO6 := hide (row_below HO5.out hb6)
  clear hb6
  go_wp2_with fail
  refine (add_arg w.heap.size 100 (pcText [exPc]) (entsAt 0 [exPc]) lv2 4 0 0 ⟨#[]⟩ _ HS6.out (by decide)).mono ?_
  rintro e w7 ⟨rfl, hb7⟩
  unfold entZ
  have HS7 : Hid (SgP w7 w.heap.size 100 [exPc] lv2) := hide (Sg.below HS6.out hb7)
  have HE7 := hide (obj_below HE6.out hb7)
  have HB7 := hide (HB6.out.trans (hb7.mono HB6.out.size))
  have HO7 := hide (row_below HO6.out hb7)
  clear hb7
  have hmk := make100
  have hcv := conv100 (w7.alloc (.cells #[.int .i64 0, .int .i64 0, .int .i64 0, .int .i64 0, .int .i64 0] 89))
  simp only [World.size_alloc] at hcv
  go_wp2_with fail
  refine (add_full w.heap.size 100 (pcText [exPc]) (entsAt 0 [exPc]) lv2 1 0 0 ⟨exZ.toArray⟩ _ (Sg.below HS7.out (((Below.refl _ _).alloc (Nat.le_refl _) _).alloc (by simp) _)) (by decide) (by decide) (by decide) (by decide) (by decide) ex_left).mono ?_
  rintro e w8 ⟨rfl, hb8⟩
  unfold entZ
  have hA7 : Below w7.heap.size w7 w8 := (((Below.refl w7.heap.size w7).alloc (Nat.le_refl _) _).alloc (by simp) _).trans (hb8.mono (by simp only [World.size_alloc]; omega))
  have HS8 : Hid (SgP w8 w.heap.size 100 [exPc] lv2) := hide (Sg.below HS7.out hA7)
  have HE8 := hide (obj_below HE7.out hA7)
  have HB8 := hide (HB7.out.trans (hA7.mono HB7.out.size))
  have HO8 := hide (row_below HO7.out hA7)
  clear hb8 hmk hcv hA7
  have x0 := obj_cell HE8.out 0
  have x1 := obj_cell HE8.out 1
  have x2 := obj_cell HE8.out 2
  have x3 := obj_cell HE8.out 3
  have x4 := obj_cell HE8.out 4
  have xl := obj_lt HE8.out
  simp only [List.getElem?_toArray, List.getElem?_cons_zero, List.getElem?_cons_succ] at x0 x1 x2 x3 x4
  obtain ⟨g'', c3, hv, hg3, hg4, hc3, hcell⟩ := ent_cells (k := 0) HO8.out (by decide)
  cases hv
  have b0 := hcell 0 (by decide)
  have b1 := hcell 1 (by decide)
  have b2 := hcell 2 (by decide)
  have b3 := hcell 3 (by decide)
  have b4 := hcell 4 (by decide)
  rw [show (entsAt 0 [exPc])[0].cells = [.int .i64 1, .int .i64 3, .int .i64 1, .int .i64 0, .int .i64 3] from rfl] at b0 b1 b2 b3 b4
  simp only [List.getElem?_cons_zero, List.getElem?_cons_succ, Nat.zero_mul, Nat.zero_add] at b0 b1 b2 b3 b4
  clear hcell a0 a1 a2 a3 a4
  have c59 : ∀ W : World, Below w8.heap.size w8 W → Calls Try.prog 59 #[.pointer (some ⟨w.heap.size, 0, none⟩)] W fun e w' => e = .returned (.int .i64 3) ∧ w' = W := fun W hW => len_same w.heap.size 100 (pcText [exPc]) (entsAt 0 [exPc]) lv2 W (Sg.below HS8.out hW)
  have c57 : ∀ W : World, Below w8.heap.size w8 W → Calls Try.prog 57 #[.pointer (some ⟨w.heap.size, 0, none⟩)] W fun e w' => e = .returned (.int .i64 32) ∧ ∃ m, w' = W.drewN m := fun W hW => room_quiet w.heap.size 100 32 (pcText [exPc]) (entsAt 0 [exPc]) lv2 W (Sg.below HS8.out hW) (by decide) (by decide) (by decide) (by decide) (by decide) (by decide)
  have c124 : ∀ W : World, Calls Try.prog 124 #[.int .i64 1] W fun e w' => e = .returned (.int .i64 37) ∧ w' = W := fun W => over_same 1 W (by decide) (by decide)
  have C59 := hide c59
  have C57 := hide c57
  have C124 := hide c124
  clear c59 c57 c124
  go_wp2_with fail
  go_quiet (first
    | (go_at_call 59; refine Calls.quiet_of_same (C59.out _ ?_); exact below_drewN ((Below.refl _ _).alloc (Nat.le_refl _) _) _)
    | (go_at_call 57; refine Calls.quiet_of (C57.out _ ?_); exact below_drewN ((Below.refl _ _).alloc (Nat.le_refl _) _) _)
    | (go_at_call 124; refine Calls.quiet_of_same (C124.out _)))
  go_wp2
  go_ret
  exact ⟨rfl, below_drewN (HB8.out.alloc HB8.out.size _) _⟩
end Go.Proofs.Ytljmaicobafgkaa
