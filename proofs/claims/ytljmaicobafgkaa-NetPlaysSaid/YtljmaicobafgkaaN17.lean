/- A join of 1 texts of this claim: NtR7. Conditions: none of their own. -/
import Derived.Test.YtljmaicobafgkaaN16
section
/- Chapter 13, net: the reference: Cut. -/
namespace Go.Proofs.Ytljmaicobafgkaa
open Go.RowKit

def cuL (C : List (Int × Int)) (p : Int × Int) (on : Bool) : List (Int × Int) := C.filter (fun q => decide (q ≠ p)) ++ if on = true then [p] else []
def cuR (R : RN) (a b : Int) (on : Bool) : RN := ⟨R.n, R.l, cuL R.c (lnk a b) on⟩
def CuS (w2 : World) (R : RN) (p : Int × Int) (w : World) (lv iv : Value) : Prop := ∃ k : Nat, iv = .int .i64 (k : Int) ∧ k ≤ R.c.length ∧ K221.row w w2.heap.size lv ((R.c.take k).filter fun q => decide (q ≠ p)) ∧ Below w2.heap.size w2 w
theorem k221_ne {w : World} {B : Nat} {v : Value} {l : List (Int × Int)} (h : K221.row w B v l) {k : Nat} {cs : Array Value} {t : TypeId} {f : Nat × Nat} (hk : w.heap[k]? = some (.cells cs t f)) (ht : t ≠ 221) : v.ownBlock ≠ some k := by
  intro e
  obtain ⟨_, _, cs', h2⟩ := EK.row_typed h e
  rw [hk] at h2
  simp only [Option.some.injEq, Obj.cells.injEq] at h2
  exact ht h2.2.1
/-- One link onto a row of links of one's own. -/
theorem app_lk {w w2 : World} {v : Value} {l : List (Int × Int)} (h : K221.row w w2.heap.size v l) (hb : Below w2.heap.size w2 w) (p : Int × Int) (hl : l.length ≤ 1048576) (ty : TypeId) :
    ∃ A c w3, (Builtin.append_ #[118, 118] ty #[v, .slice (some ⟨w.heap.size, 0, none⟩) 1 1]).run Try.prog (w.alloc (.cells #[.int .i64 p.1, .int .i64 p.2] 221)) = .ok (.slice A (l ++ [p]).length c) w3 ∧ K221.row w3 w2.heap.size (.slice A (l ++ [p]).length c) (l ++ [p]) ∧ Below w2.heap.size w2 w3 := by
  have hbl := (Below.refl w.heap.size w).alloc (Nat.le_refl _) (.cells #[.int .i64 p.1, .int .i64 p.2] 221)
  have hr := EK.row_below h hbl
  obtain ⟨v3, w3, hrun, hrow3, hf3, _⟩ := EK.app hr (EK.rd_one (K := K221) p (obj_new w (.cells #[.int .i64 p.1, .int .i64 p.2] 221))) (by simp only [List.length_cons, List.length_nil]; omega) (by have := hb.size; simp only [World.size_alloc]; omega) ty
  obtain ⟨A, c, rfl⟩ := EK.row_slice hrow3
  exact ⟨A, c, w3, hrun, hrow3, (hb.trans (hbl.mono hb.size)).trans (hf3.below _ (hb.trans (hbl.mono hb.size)).size (fun j hj e => by
    have := (EK.row_typed hr e).1
    omega))⟩
set_option maxHeartbeats 4000000 in
set_option maxRecDepth 100000 in
theorem rcut81_no {w : World} {R : RN} {vl vc : Value} (hR : RS w R vl vc) (a b : Int) (on : Bool) (h : ¬ (rnodeP R.n a ∧ rnodeP R.n b)) :
    Calls Try.prog 81 #[.agg #[.int .i64 R.n, vl, vc], .int .i64 a, .int .i64 b, .bool on] w fun e w' => e = .returned (.tuple #[.agg (rv R vl vc), .bool false]) ∧ Below w.heap.size w w' := by
  obtain ⟨A1, c1, A2, c2, e1, e2⟩ := hR.slices
  subst e1 e2
  have hb := ((Below.refl w.heap.size w).alloc (Nat.le_refl _) (.cells #[.int .i64 R.n, .slice A1 R.l.length c1, .slice A2 R.c.length c2] 120)).alloc (by simp) (.cells #[.int .i64 0, .slice none 0 0, .slice none 0 0] 120)
  have HB0 := hide hb
  have HN0 := hide (obj_alloc (obj_new w (.cells #[.int .i64 R.n, .slice A1 R.l.length c1, .slice A2 R.c.length c2] 120)) (.cells #[.int .i64 0, .slice none 0 0, .slice none 0 0] 120))
  have HO0 := hide (obj_new' w (.cells #[.int .i64 R.n, .slice A1 R.l.length c1, .slice A2 R.c.length c2] 120) (.cells #[.int .i64 0, .slice none 0 0, .slice none 0 0] 120))
  have HH := hide h
  clear hR hb h
  go_enter Try.func81, Try.ntmps81
  by_cases ha : rnodeP R.n a
  · have hbn : ¬ rnodeP R.n b := fun hb => HH.out ⟨ha, hb⟩
    go_wp2_with fail
    refine (rnode_any R.n _ _ a _).mono ?_
    rintro e w1 ⟨rfl, hb1⟩
    rw [decide_eq_true ha]
    have HB1 := hide (HB0.out.trans (hb1.mono HB0.out.size))
    have HN1 := hide (obj_below HN0.out hb1)
    have HO1 := hide (obj_below HO0.out hb1)
    clear hb1
    have z0 := obj_cell HN1.out 0
    have z1 := obj_cell HN1.out 1
    have z2 := obj_cell HN1.out 2
    simp only [List.getElem?_toArray, List.getElem?_cons_zero, List.getElem?_cons_succ] at z0 z1 z2
    go_wp2_with fail
    refine (rnode_any R.n _ _ b _).mono ?_
    rintro e w3 ⟨rfl, hb3⟩
    rw [decide_eq_false hbn]
    have HB3 := hide (HB1.out.trans (hb3.mono HB1.out.size))
    have HN3 := hide (obj_below HN1.out hb3)
    have HO3 := hide (obj_below HO1.out hb3)
    clear hb3 z0 z1 z2
    have z0 := obj_cell HN3.out 0
    have z1 := obj_cell HN3.out 1
    have z2 := obj_cell HN3.out 2
    simp only [List.getElem?_toArray, List.getElem?_cons_zero, List.getElem?_cons_succ] at z0 z1 z2
    have hst := store_whole (P := Try.prog) (ty := 120) HO3.out (cells := #[.int .i64 R.n, .slice A1 R.l.length c1, .slice A2 R.c.length c2]) info120 rfl (by simp [Value.oneCell'])
    have HST := hide hst
    clear hst
    go_wp2_with (refine wpList_storev' rfl 120 (.tmp 8) (.tmp 22) rfl rfl rfl HST.out ?_)
    refine bodyPost_ret (res_ct rfl _ _ (w.heap.size + 1) 120 _ (0, 0) _ rfl (setRow_at' HO3.out) Try.underlying120 rfl info120) rfl ?_
    exact ⟨rfl, HB3.out.trans ((setRow_fr' _ _ _).below _ HB3.out.size (fun j hj e => by omega))⟩
  · go_wp2_with fail
    refine (rnode_any R.n _ _ a _).mono ?_
    rintro e w3 ⟨rfl, hb3⟩
    rw [decide_eq_false ha]
    have HB3 := hide (HB0.out.trans (hb3.mono HB0.out.size))
    have HN3 := hide (obj_below HN0.out hb3)
    have HO3 := hide (obj_below HO0.out hb3)
    clear hb3
    have z0 := obj_cell HN3.out 0
    have z1 := obj_cell HN3.out 1
    have z2 := obj_cell HN3.out 2
    simp only [List.getElem?_toArray, List.getElem?_cons_zero, List.getElem?_cons_succ] at z0 z1 z2
    have hst := store_whole (P := Try.prog) (ty := 120) HO3.out (cells := #[.int .i64 R.n, .slice A1 R.l.length c1, .slice A2 R.c.length c2]) info120 rfl (by simp [Value.oneCell'])
    have HST := hide hst
    clear hst
    go_wp2_with (refine wpList_storev' rfl 120 (.tmp 8) (.tmp 22) rfl rfl rfl HST.out ?_)
    refine bodyPost_ret (res_ct rfl _ _ (w.heap.size + 1) 120 _ (0, 0) _ rfl (setRow_at' HO3.out) Try.underlying120 rfl info120) rfl ?_
    exact ⟨rfl, HB3.out.trans ((setRow_fr' _ _ _).below _ HB3.out.size (fun j hj e => by omega))⟩
set_option maxHeartbeats 8000000 in
set_option maxRecDepth 100000 in
theorem rcut81_lt {w : World} {R : RN} {vl vc : Value} (hR : RS w R vl vc) (hbn : R.c.length ≤ 1048575) (a b : Int) (on : Bool) (h : a < b) (h1 : rnodeP R.n a) (h2 : rnodeP R.n b) :
    Calls Try.prog 81 #[.agg #[.int .i64 R.n, vl, vc], .int .i64 a, .int .i64 b, .bool on] w fun e w' => ∃ vc', e = .returned (.tuple #[.agg (rv ⟨R.n, R.l, cuL R.c (a, b) on⟩ vl vc'), .bool true]) ∧ RS w' ⟨R.n, R.l, cuL R.c (a, b) on⟩ vl vc' ∧ Below w.heap.size w w' := by
  obtain ⟨A2, c2, e2⟩ := EK.row_slice hR.2
  subst e2
  have hb := ((Below.refl w.heap.size w).alloc (Nat.le_refl _) (.cells #[.int .i64 R.n, vl, .slice A2 R.c.length c2] 120)).alloc (by simp) (.cells #[.int .i64 0, .slice none 0 0, .slice none 0 0] 120)
  obtain ⟨W, hW⟩ : ∃ W, W = (w.alloc (.cells #[.int .i64 R.n, vl, .slice A2 R.c.length c2] 120)).alloc (.cells #[.int .i64 0, .slice none 0 0, .slice none 0 0] 120) := ⟨_, rfl⟩
  rw [← hW] at hb
  have HN0 := hide (show W.heap[w.heap.size]? = some (.cells #[.int .i64 R.n, vl, .slice A2 R.c.length c2] 120 (0, 0)) from hW ▸ obj_alloc (obj_new w (.cells #[.int .i64 R.n, vl, .slice A2 R.c.length c2] 120)) (.cells #[.int .i64 0, .slice none 0 0, .slice none 0 0] 120))
  have HO0 := hide (show W.heap[w.heap.size + 1]? = some (.cells #[.int .i64 0, .slice none 0 0, .slice none 0 0] 120 (0, 0)) from hW ▸ obj_new' w (.cells #[.int .i64 R.n, vl, .slice A2 R.c.length c2] 120) (.cells #[.int .i64 0, .slice none 0 0, .slice none 0 0] 120))
  have HVLB : Hid (∀ k, vl.ownBlock = some k → k < w.heap.size) := hide (fun k e => (EK.row_typed hR.1 e).2.1)
  have HR0 := hide (hR.below hb)
  have HB0 := hide hb
  have HLN := hide hbn
  have hsz : W.heap.size = w.heap.size + 1 + 1 := by rw [hW]; simp only [World.size_alloc]
  have HA := hide (fun wx => rnode_any R.n vl (.slice A2 R.c.length c2) a wx)
  have HB := hide (fun wx => rnode_any R.n vl (.slice A2 R.c.length c2) b wx)
  rw [decide_eq_true h1] at HA
  rw [decide_eq_true h2] at HB
  have HWE := hide hW
  have HSZ := hide hsz
  have hcl : R.c.length ≤ 9223372036854775807 := by omega
  clear hR hb hW h1 h2 hbn hsz
  have z0 := obj_cell HN0.out 0
  have z1 := obj_cell HN0.out 1
  have z2 := obj_cell HN0.out 2
  simp only [List.getElem?_toArray, List.getElem?_cons_zero, List.getElem?_cons_succ] at z0 z1 z2
  rw [HWE.out] at z0 z1 z2
  go_enter Try.func81, Try.ntmps81
  go_wp2_with fail
  rw [← HWE.out]
  refine (HA.out _).mono ?_
  rintro e w1 ⟨rfl, hb1⟩
  have HN1 := hide (obj_below HN0.out hb1)
  have HO1 := hide (obj_below HO0.out hb1)
  have HR1 := hide (HR0.out.below hb1)
  have HB1 := hide (HB0.out.trans (hb1.mono HB0.out.size))
  have hs1 := hb1.size
  clear hb1 z0 z1 z2
  have z0 := obj_cell HN1.out 0
  have z1 := obj_cell HN1.out 1
  have z2 := obj_cell HN1.out 2
  simp only [List.getElem?_toArray, List.getElem?_cons_zero, List.getElem?_cons_succ] at z0 z1 z2
  go_wp2_with fail
  refine (HB.out _).mono ?_
  rintro e w2 ⟨rfl, hb2⟩
  have HN2 := hide (obj_below HN1.out hb2)
  have HO2 := hide (obj_below HO1.out hb2)
  have HR2 := hide (HR1.out.below hb2)
  have HB2 := hide (HB1.out.trans (hb2.mono HB1.out.size))
  have hs2 := hb2.size
  rw [HSZ.out] at hs1
  clear hb2 z0 z1 z2 HN0 HN1 HO0 HO1 HR0 HR1 HB0 HB1 HA HB
  have HST : Hid (CuS w2 R (a, b) w2 (.slice none 0 0) (.int .i64 0)) := hide ⟨0, rfl, Nat.zero_le _, EK.row_nil _ _, Below.refl _ _⟩
  go_wp2_with fail
  go_loopw [10, 11] (fun lv iv wr => CuS w2 R (a, b) wr lv iv) (fun _ iv _ => R.c.length - (intOf iv).toNat)
  case atStart => exact HST.out
  case round =>
    obtain ⟨k, rfl, hk, hrow, hbel⟩ := hrel
    have HNR := hide (obj_below HN2.out hbel)
    have z0 := obj_cell HNR.out 0
    have z1 := obj_cell HNR.out 1
    have z2 := obj_cell HNR.out 2
    simp only [List.getElem?_toArray, List.getElem?_cons_zero, List.getElem?_cons_succ] at z0 z1 z2
    have HROW := hide hrow
    have HBEL := hide hbel
    rcases Nat.lt_or_ge k R.c.length with hkl | hkl
    · obtain ⟨r, cap, hv, hc1, hc2, _, hrl, hcell⟩ := EK.row_cells (EK.row_belowB HR2.out.2 hbel (fun k e => (EK.row_typed HR2.out.2 e).2.1)) hkl
      cases hv
      have e0 : wr.cell? ⟨r, k * 2, none⟩ = some (.int .i64 R.c[k].1) := hcell 0 (by decide)
      have e1 : wr.cell? ⟨r, k * 2 + 1, none⟩ = some (.int .i64 R.c[k].2) := hcell 1 (by decide)
      have hcm : c2 ≤ 9223372036854775807 := by simp only [maxLen] at hc2; omega
      have hE := fun wx => eq221 R.c[k] (a, b) wx
      have HTK := hide (List.take_succ_eq_append_getElem hkl)
      clear hcell hrow
      generalize R.c[k] = p at e0 e1 hE HTK
      by_cases hp : p = (a, b)
      · rw [decide_eq_true hp] at hE
        have HNX : Hid (CuS w2 R (a, b) wr u10 (.int .i64 ((k + 1 : Nat) : Int))) := hide ⟨k + 1, rfl, hkl, by
          rw [HTK.out, List.filter_append]
          simpa [hp] using HROW.out, HBEL.out⟩
        clear hp hbel
        go_wp2
        go_roundw
        case rel => exact HNX.out
        case measure => simp [intOf]; omega
      · rw [decide_eq_false hp] at hE
        have HP1 : Hid (([p].filter fun q => decide (q ≠ (a, b))) = [p]) := hide (by simp [hp])
        have hlen : ((R.c.take k).filter fun q => decide (q ≠ (a, b))).length ≤ 1048576 := Nat.le_trans (List.length_filter_le _ _) (by rw [List.length_take]; have := HLN.out; omega)
        obtain ⟨A3, c3, w3, hrun, hrow3, hb3⟩ := app_lk HROW.out HBEL.out p hlen 118
        obtain ⟨v3, hv3⟩ : ∃ v, v = Value.slice A3 (((R.c.take k).filter fun q => decide (q ≠ (a, b))) ++ [p]).length c3 := ⟨_, rfl⟩
        rw [← hv3] at hrun hrow3
        have HRUN := hide hrun
        have HNX : Hid (CuS w2 R (a, b) w3 v3 (.int .i64 ((k + 1 : Nat) : Int))) := hide ⟨k + 1, rfl, hkl, by
          rw [HTK.out, List.filter_append, HP1.out]
          exact hrow3, hb3⟩
        clear hp hbel hlen hrun hrow3 hb3 hv3
        go_wp2_with (at_builtin; refine wpList_append_run rfl (.tmp 43) (.tmp 49) 118 118 rfl rfl rfl HRUN.out ?_)
        go_roundw
        case rel => exact HNX.out
        case measure => simp [intOf]; omega
    · obtain rfl : k = R.c.length := by omega
      rw [List.take_length] at hrow
      have hlen : (R.c.filter fun q => decide (q ≠ (a, b))).length ≤ 1048576 := Nat.le_trans (List.length_filter_le _ _) (by have := HLN.out; omega)
      rcases on with _ | _
      · obtain ⟨A3, c3, e3⟩ := EK.row_slice hrow
        generalize (R.c.filter fun q => decide (q ≠ (a, b))).length = m3 at e3
        subst e3
        have hrowq : K221.row wr w2.heap.size (.slice A3 m3 c3) (cuL R.c (a, b) false) := by
          show K221.row wr w2.heap.size _ (_ ++ [])
          rw [List.append_nil]
          exact hrow
        have HRQ := hide hrowq
        clear hrow hrowq HROW hlen
        have HNQ := hide (obj_below HN2.out HBEL.out)
        have HOQ := hide (obj_below HO2.out HBEL.out)
        have HLQ := hide (EK.row_below HR2.out.1 HBEL.out)
        have HHBEL.out := hide (HB2.out.trans (HBEL.out.mono HB2.out.size))
        have hq2 := obj_cell HNQ.out 2
        have tq2 := obj_frozen HNQ.out 2
        simp only [List.getElem?_toArray, List.getElem?_cons_zero, List.getElem?_cons_succ] at hq2
        go_upto_region 12 with (fail)
        obtain ⟨W5, hW5⟩ : ∃ W5, W5 = wr.setCell ⟨w.heap.size, 2, none⟩ (.slice A3 m3 c3) := ⟨_, rfl⟩
        rw [← hW5]
        have F5 : Fr (fun j => j = w.heap.size) wr W5 := by rw [hW5]; exact (Fr.refl (fun j => j = w.heap.size) wr).setCell (p := ⟨w.heap.size, 2, none⟩) (fun _ => rfl) _
        have hN5 : W5.heap[w.heap.size]? = some (.cells #[.int .i64 R.n, vl, .slice A3 m3 c3] 120 (0, 0)) := by rw [hW5]; exact obj_set HNQ.out 2 _
        have hO5 := F5.obj HOQ.out (by omega)
        have hrow5 := EK.row_fr HRQ.out F5 (fun j hj e => k221_ne HRQ.out HNQ.out (by decide) (e ▸ hj))
        have hl5 := EK.row_fr HLQ.out F5 (fun j hj e => by have := HVLB.out j hj; omega)
        have hB5 := HHBEL.out.out.trans (F5.below _ HHBEL.out.out.size (fun j hj e => by omega))
        have hst := store_whole (P := Try.prog) (ty := 120) hO5 (cells := #[.int .i64 R.n, vl, .slice A3 m3 c3]) info120 rfl (by
          obtain ⟨A6, c6, e6⟩ := EK.row_slice hl5
          rw [e6]
          simp [Value.oneCell'])
        have HST := hide hst
        have F6 := setRow_fr' W5 (w.heap.size + 1) #[.int .i64 R.n, vl, .slice A3 m3 c3]
        have HOO := hide (setRow_at' (C' := #[.int .i64 R.n, vl, .slice A3 m3 c3]) hO5)
        have HFIN := hide (show RS (W5.setRow (w.heap.size + 1) #[.int .i64 R.n, vl, .slice A3 m3 c3]) ⟨R.n, R.l, cuL R.c (a, b) false⟩ vl (.slice A3 m3 c3) ∧ Below w.heap.size w (W5.setRow (w.heap.size + 1) #[.int .i64 R.n, vl, .slice A3 m3 c3]) from
          ⟨⟨EK.row_fr hl5 F6 (fun j hj e => by have := HVLB.out j hj; omega), EK.row_base (EK.row_fr hrow5 F6 (fun j hj e => k221_ne hrow5 hO5 (by decide) (e ▸ hj))) (Nat.zero_le _)⟩, hB5.trans (F6.below _ hB5.size (fun j hj e => by omega))⟩)
        have p0 := obj_cell hN5 0
        have p1 := obj_cell hN5 1
        have p2 := obj_cell hN5 2
        simp only [List.getElem?_toArray, List.getElem?_cons_zero, List.getElem?_cons_succ] at p0 p1 p2
        clear hW5 F5 F6 hst hN5 hO5 hrow5 hl5 hB5 hq2 tq2
        go_wp2_with (refine wpList_storev' rfl 120 (.tmp 8) (.tmp 64) rfl rfl rfl HST.out ?_)
        refine bodyPost_ret (res_ct rfl _ _ (w.heap.size + 1) 120 _ (0, 0) _ rfl HOO.out Try.underlying120 rfl info120) rfl ?_
        exact ⟨_, rfl, HFIN.out⟩
      · obtain ⟨A3, c3, w3, hrun, hrow3, hb3⟩ := app_lk hrow hbel (a, b) hlen 118
        generalize (_ ++ _ : List (Int × Int)).length = m3 at hrun hrow3
        have HRUN := hide hrun
        have HRQ : Hid (K221.row w3 w2.heap.size (.slice A3 m3 c3) (cuL R.c (a, b) true)) := hide hrow3
        have HB3 := hide hb3
        clear hrow HROW hlen hrun hrow3 hb3
        have HNQ := hide (obj_below HN2.out HB3.out)
        have HOQ := hide (obj_below HO2.out HB3.out)
        have HLQ := hide (EK.row_below HR2.out.1 HB3.out)
        have HHB3.out := hide (HB2.out.trans (HB3.out.mono HB2.out.size))
        have hq2 := obj_cell HNQ.out 2
        have tq2 := obj_frozen HNQ.out 2
        simp only [List.getElem?_toArray, List.getElem?_cons_zero, List.getElem?_cons_succ] at hq2
        go_upto_region 12 with (at_builtin; refine wpList_append_run rfl (.tmp 52) (.tmp 60) 118 118 rfl rfl rfl HRUN.out ?_)
        obtain ⟨W5, hW5⟩ : ∃ W5, W5 = w3.setCell ⟨w.heap.size, 2, none⟩ (.slice A3 m3 c3) := ⟨_, rfl⟩
        rw [← hW5]
        have F5 : Fr (fun j => j = w.heap.size) w3 W5 := by rw [hW5]; exact (Fr.refl (fun j => j = w.heap.size) w3).setCell (p := ⟨w.heap.size, 2, none⟩) (fun _ => rfl) _
        have hN5 : W5.heap[w.heap.size]? = some (.cells #[.int .i64 R.n, vl, .slice A3 m3 c3] 120 (0, 0)) := by rw [hW5]; exact obj_set HNQ.out 2 _
        have hO5 := F5.obj HOQ.out (by omega)
        have hrow5 := EK.row_fr HRQ.out F5 (fun j hj e => k221_ne HRQ.out HNQ.out (by decide) (e ▸ hj))
        have hl5 := EK.row_fr HLQ.out F5 (fun j hj e => by have := HVLB.out j hj; omega)
        have hB5 := HHB3.out.out.trans (F5.below _ HHB3.out.out.size (fun j hj e => by omega))
        have hst := store_whole (P := Try.prog) (ty := 120) hO5 (cells := #[.int .i64 R.n, vl, .slice A3 m3 c3]) info120 rfl (by
          obtain ⟨A6, c6, e6⟩ := EK.row_slice hl5
          rw [e6]
          simp [Value.oneCell'])
        have HST := hide hst
        have F6 := setRow_fr' W5 (w.heap.size + 1) #[.int .i64 R.n, vl, .slice A3 m3 c3]
        have HOO := hide (setRow_at' (C' := #[.int .i64 R.n, vl, .slice A3 m3 c3]) hO5)
        have HFIN := hide (show RS (W5.setRow (w.heap.size + 1) #[.int .i64 R.n, vl, .slice A3 m3 c3]) ⟨R.n, R.l, cuL R.c (a, b) true⟩ vl (.slice A3 m3 c3) ∧ Below w.heap.size w (W5.setRow (w.heap.size + 1) #[.int .i64 R.n, vl, .slice A3 m3 c3]) from
          ⟨⟨EK.row_fr hl5 F6 (fun j hj e => by have := HVLB.out j hj; omega), EK.row_base (EK.row_fr hrow5 F6 (fun j hj e => k221_ne hrow5 hO5 (by decide) (e ▸ hj))) (Nat.zero_le _)⟩, hB5.trans (F6.below _ hB5.size (fun j hj e => by omega))⟩)
        have p0 := obj_cell hN5 0
        have p1 := obj_cell hN5 1
        have p2 := obj_cell hN5 2
        simp only [List.getElem?_toArray, List.getElem?_cons_zero, List.getElem?_cons_succ] at p0 p1 p2
        clear hW5 F5 F6 hst hN5 hO5 hrow5 hl5 hB5 hq2 tq2
        go_wp2_with (refine wpList_storev' rfl 120 (.tmp 8) (.tmp 64) rfl rfl rfl HST.out ?_)
        refine bodyPost_ret (res_ct rfl _ _ (w.heap.size + 1) 120 _ (0, 0) _ rfl HOO.out Try.underlying120 rfl info120) rfl ?_
        exact ⟨_, rfl, HFIN.out⟩
set_option maxHeartbeats 8000000 in
set_option maxRecDepth 100000 in
theorem rcut81_eq {w : World} {R : RN} {vl vc : Value} (hR : RS w R vl vc) (hbn : R.c.length ≤ 1048575) (a b : Int) (on : Bool) (h : a = b) (h1 : rnodeP R.n a) (h2 : rnodeP R.n b) :
    Calls Try.prog 81 #[.agg #[.int .i64 R.n, vl, vc], .int .i64 a, .int .i64 b, .bool on] w fun e w' => ∃ vc', e = .returned (.tuple #[.agg (rv ⟨R.n, R.l, cuL R.c (a, a) on⟩ vl vc'), .bool true]) ∧ RS w' ⟨R.n, R.l, cuL R.c (a, a) on⟩ vl vc' ∧ Below w.heap.size w w' := by
  obtain ⟨A2, c2, e2⟩ := EK.row_slice hR.2
  subst e2
  subst h
  have hb := ((Below.refl w.heap.size w).alloc (Nat.le_refl _) (.cells #[.int .i64 R.n, vl, .slice A2 R.c.length c2] 120)).alloc (by simp) (.cells #[.int .i64 0, .slice none 0 0, .slice none 0 0] 120)
  obtain ⟨W, hW⟩ : ∃ W, W = (w.alloc (.cells #[.int .i64 R.n, vl, .slice A2 R.c.length c2] 120)).alloc (.cells #[.int .i64 0, .slice none 0 0, .slice none 0 0] 120) := ⟨_, rfl⟩
  rw [← hW] at hb
  have HN0 := hide (show W.heap[w.heap.size]? = some (.cells #[.int .i64 R.n, vl, .slice A2 R.c.length c2] 120 (0, 0)) from hW ▸ obj_alloc (obj_new w (.cells #[.int .i64 R.n, vl, .slice A2 R.c.length c2] 120)) (.cells #[.int .i64 0, .slice none 0 0, .slice none 0 0] 120))
  have HO0 := hide (show W.heap[w.heap.size + 1]? = some (.cells #[.int .i64 0, .slice none 0 0, .slice none 0 0] 120 (0, 0)) from hW ▸ obj_new' w (.cells #[.int .i64 R.n, vl, .slice A2 R.c.length c2] 120) (.cells #[.int .i64 0, .slice none 0 0, .slice none 0 0] 120))
  have HVLB : Hid (∀ k, vl.ownBlock = some k → k < w.heap.size) := hide (fun k e => (EK.row_typed hR.1 e).2.1)
  have HR0 := hide (hR.below hb)
  have HB0 := hide hb
  have HLN := hide hbn
  have hsz : W.heap.size = w.heap.size + 1 + 1 := by rw [hW]; simp only [World.size_alloc]
  have HA := hide (fun wx => rnode_any R.n vl (.slice A2 R.c.length c2) a wx)
  have HB := hide (fun wx => rnode_any R.n vl (.slice A2 R.c.length c2) a wx)
  rw [decide_eq_true h1] at HA
  rw [decide_eq_true h2] at HB
  have HWE := hide hW
  have HSZ := hide hsz
  have hcl : R.c.length ≤ 9223372036854775807 := by omega
  clear hR hb hW h1 h2 hbn hsz
  have z0 := obj_cell HN0.out 0
  have z1 := obj_cell HN0.out 1
  have z2 := obj_cell HN0.out 2
  simp only [List.getElem?_toArray, List.getElem?_cons_zero, List.getElem?_cons_succ] at z0 z1 z2
  rw [HWE.out] at z0 z1 z2
  go_enter Try.func81, Try.ntmps81
  go_wp2_with fail
  rw [← HWE.out]
  refine (HA.out _).mono ?_
  rintro e w1 ⟨rfl, hb1⟩
  have HN1 := hide (obj_below HN0.out hb1)
  have HO1 := hide (obj_below HO0.out hb1)
  have HR1 := hide (HR0.out.below hb1)
  have HB1 := hide (HB0.out.trans (hb1.mono HB0.out.size))
  have hs1 := hb1.size
  clear hb1 z0 z1 z2
  have z0 := obj_cell HN1.out 0
  have z1 := obj_cell HN1.out 1
  have z2 := obj_cell HN1.out 2
  simp only [List.getElem?_toArray, List.getElem?_cons_zero, List.getElem?_cons_succ] at z0 z1 z2
  go_wp2_with fail
  refine (HB.out _).mono ?_
  rintro e w2 ⟨rfl, hb2⟩
  have HN2 := hide (obj_below HN1.out hb2)
  have HO2 := hide (obj_below HO1.out hb2)
  have HR2 := hide (HR1.out.below hb2)
  have HB2 := hide (HB1.out.trans (hb2.mono HB1.out.size))
  have hs2 := hb2.size
  rw [HSZ.out] at hs1
  clear hb2 z0 z1 z2 HN0 HN1 HO0 HO1 HR0 HR1 HB0 HB1 HA HB
  have HST : Hid (CuS w2 R (a, a) w2 (.slice none 0 0) (.int .i64 0)) := hide ⟨0, rfl, Nat.zero_le _, EK.row_nil _ _, Below.refl _ _⟩
  go_wp2_with fail
  go_loopw [10, 11] (fun lv iv wr => CuS w2 R (a, a) wr lv iv) (fun _ iv _ => R.c.length - (intOf iv).toNat)
  case atStart => exact HST.out
  case round =>
    obtain ⟨k, rfl, hk, hrow, hbel⟩ := hrel
    have HNR := hide (obj_below HN2.out hbel)
    have z0 := obj_cell HNR.out 0
    have z1 := obj_cell HNR.out 1
    have z2 := obj_cell HNR.out 2
    simp only [List.getElem?_toArray, List.getElem?_cons_zero, List.getElem?_cons_succ] at z0 z1 z2
    have HROW := hide hrow
    have HBEL := hide hbel
    rcases Nat.lt_or_ge k R.c.length with hkl | hkl
    · obtain ⟨r, cap, hv, hc1, hc2, _, hrl, hcell⟩ := EK.row_cells (EK.row_belowB HR2.out.2 hbel (fun k e => (EK.row_typed HR2.out.2 e).2.1)) hkl
      cases hv
      have e0 : wr.cell? ⟨r, k * 2, none⟩ = some (.int .i64 R.c[k].1) := hcell 0 (by decide)
      have e1 : wr.cell? ⟨r, k * 2 + 1, none⟩ = some (.int .i64 R.c[k].2) := hcell 1 (by decide)
      have hcm : c2 ≤ 9223372036854775807 := by simp only [maxLen] at hc2; omega
      have hE := fun wx => eq221 R.c[k] (a, a) wx
      have HTK := hide (List.take_succ_eq_append_getElem hkl)
      clear hcell hrow
      generalize R.c[k] = p at e0 e1 hE HTK
      by_cases hp : p = (a, a)
      · rw [decide_eq_true hp] at hE
        have HNX : Hid (CuS w2 R (a, a) wr u10 (.int .i64 ((k + 1 : Nat) : Int))) := hide ⟨k + 1, rfl, hkl, by
          rw [HTK.out, List.filter_append]
          simpa [hp] using HROW.out, HBEL.out⟩
        clear hp hbel
        go_wp2
        go_roundw
        case rel => exact HNX.out
        case measure => simp [intOf]; omega
      · rw [decide_eq_false hp] at hE
        have HP1 : Hid (([p].filter fun q => decide (q ≠ (a, a))) = [p]) := hide (by simp [hp])
        have hlen : ((R.c.take k).filter fun q => decide (q ≠ (a, a))).length ≤ 1048576 := Nat.le_trans (List.length_filter_le _ _) (by rw [List.length_take]; have := HLN.out; omega)
        obtain ⟨A3, c3, w3, hrun, hrow3, hb3⟩ := app_lk HROW.out HBEL.out p hlen 118
        obtain ⟨v3, hv3⟩ : ∃ v, v = Value.slice A3 (((R.c.take k).filter fun q => decide (q ≠ (a, a))) ++ [p]).length c3 := ⟨_, rfl⟩
        rw [← hv3] at hrun hrow3
        have HRUN := hide hrun
        have HNX : Hid (CuS w2 R (a, a) w3 v3 (.int .i64 ((k + 1 : Nat) : Int))) := hide ⟨k + 1, rfl, hkl, by
          rw [HTK.out, List.filter_append, HP1.out]
          exact hrow3, hb3⟩
        clear hp hbel hlen hrun hrow3 hb3 hv3
        go_wp2_with (at_builtin; refine wpList_append_run rfl (.tmp 43) (.tmp 49) 118 118 rfl rfl rfl HRUN.out ?_)
        go_roundw
        case rel => exact HNX.out
        case measure => simp [intOf]; omega
    · obtain rfl : k = R.c.length := by omega
      rw [List.take_length] at hrow
      have hlen : (R.c.filter fun q => decide (q ≠ (a, a))).length ≤ 1048576 := Nat.le_trans (List.length_filter_le _ _) (by have := HLN.out; omega)
      rcases on with _ | _
      · obtain ⟨A3, c3, e3⟩ := EK.row_slice hrow
        generalize (R.c.filter fun q => decide (q ≠ (a, a))).length = m3 at e3
        subst e3
        have hrowq : K221.row wr w2.heap.size (.slice A3 m3 c3) (cuL R.c (a, a) false) := by
          show K221.row wr w2.heap.size _ (_ ++ [])
          rw [List.append_nil]
          exact hrow
        have HRQ := hide hrowq
        clear hrow hrowq HROW hlen
        have HNQ := hide (obj_below HN2.out HBEL.out)
        have HOQ := hide (obj_below HO2.out HBEL.out)
        have HLQ := hide (EK.row_below HR2.out.1 HBEL.out)
        have HHBEL.out := hide (HB2.out.trans (HBEL.out.mono HB2.out.size))
        have hq2 := obj_cell HNQ.out 2
        have tq2 := obj_frozen HNQ.out 2
        simp only [List.getElem?_toArray, List.getElem?_cons_zero, List.getElem?_cons_succ] at hq2
        go_upto_region 12 with (fail)
        obtain ⟨W5, hW5⟩ : ∃ W5, W5 = wr.setCell ⟨w.heap.size, 2, none⟩ (.slice A3 m3 c3) := ⟨_, rfl⟩
        rw [← hW5]
        have F5 : Fr (fun j => j = w.heap.size) wr W5 := by rw [hW5]; exact (Fr.refl (fun j => j = w.heap.size) wr).setCell (p := ⟨w.heap.size, 2, none⟩) (fun _ => rfl) _
        have hN5 : W5.heap[w.heap.size]? = some (.cells #[.int .i64 R.n, vl, .slice A3 m3 c3] 120 (0, 0)) := by rw [hW5]; exact obj_set HNQ.out 2 _
        have hO5 := F5.obj HOQ.out (by omega)
        have hrow5 := EK.row_fr HRQ.out F5 (fun j hj e => k221_ne HRQ.out HNQ.out (by decide) (e ▸ hj))
        have hl5 := EK.row_fr HLQ.out F5 (fun j hj e => by have := HVLB.out j hj; omega)
        have hB5 := HHBEL.out.out.trans (F5.below _ HHBEL.out.out.size (fun j hj e => by omega))
        have hst := store_whole (P := Try.prog) (ty := 120) hO5 (cells := #[.int .i64 R.n, vl, .slice A3 m3 c3]) info120 rfl (by
          obtain ⟨A6, c6, e6⟩ := EK.row_slice hl5
          rw [e6]
          simp [Value.oneCell'])
        have HST := hide hst
        have F6 := setRow_fr' W5 (w.heap.size + 1) #[.int .i64 R.n, vl, .slice A3 m3 c3]
        have HOO := hide (setRow_at' (C' := #[.int .i64 R.n, vl, .slice A3 m3 c3]) hO5)
        have HFIN := hide (show RS (W5.setRow (w.heap.size + 1) #[.int .i64 R.n, vl, .slice A3 m3 c3]) ⟨R.n, R.l, cuL R.c (a, a) false⟩ vl (.slice A3 m3 c3) ∧ Below w.heap.size w (W5.setRow (w.heap.size + 1) #[.int .i64 R.n, vl, .slice A3 m3 c3]) from
          ⟨⟨EK.row_fr hl5 F6 (fun j hj e => by have := HVLB.out j hj; omega), EK.row_base (EK.row_fr hrow5 F6 (fun j hj e => k221_ne hrow5 hO5 (by decide) (e ▸ hj))) (Nat.zero_le _)⟩, hB5.trans (F6.below _ hB5.size (fun j hj e => by omega))⟩)
        have p0 := obj_cell hN5 0
        have p1 := obj_cell hN5 1
        have p2 := obj_cell hN5 2
        simp only [List.getElem?_toArray, List.getElem?_cons_zero, List.getElem?_cons_succ] at p0 p1 p2
        clear hW5 F5 F6 hst hN5 hO5 hrow5 hl5 hB5 hq2 tq2
        go_wp2_with (refine wpList_storev' rfl 120 (.tmp 8) (.tmp 64) rfl rfl rfl HST.out ?_)
        refine bodyPost_ret (res_ct rfl _ _ (w.heap.size + 1) 120 _ (0, 0) _ rfl HOO.out Try.underlying120 rfl info120) rfl ?_
        exact ⟨_, rfl, HFIN.out⟩
      · obtain ⟨A3, c3, w3, hrun, hrow3, hb3⟩ := app_lk hrow hbel (a, a) hlen 118
        generalize (_ ++ _ : List (Int × Int)).length = m3 at hrun hrow3
        have HRUN := hide hrun
        have HRQ : Hid (K221.row w3 w2.heap.size (.slice A3 m3 c3) (cuL R.c (a, a) true)) := hide hrow3
        have HB3 := hide hb3
        clear hrow HROW hlen hrun hrow3 hb3
        have HNQ := hide (obj_below HN2.out HB3.out)
        have HOQ := hide (obj_below HO2.out HB3.out)
        have HLQ := hide (EK.row_below HR2.out.1 HB3.out)
        have HHB3.out := hide (HB2.out.trans (HB3.out.mono HB2.out.size))
        have hq2 := obj_cell HNQ.out 2
        have tq2 := obj_frozen HNQ.out 2
        simp only [List.getElem?_toArray, List.getElem?_cons_zero, List.getElem?_cons_succ] at hq2
        go_upto_region 12 with (at_builtin; refine wpList_append_run rfl (.tmp 52) (.tmp 60) 118 118 rfl rfl rfl HRUN.out ?_)
        obtain ⟨W5, hW5⟩ : ∃ W5, W5 = w3.setCell ⟨w.heap.size, 2, none⟩ (.slice A3 m3 c3) := ⟨_, rfl⟩
        rw [← hW5]
        have F5 : Fr (fun j => j = w.heap.size) w3 W5 := by rw [hW5]; exact (Fr.refl (fun j => j = w.heap.size) w3).setCell (p := ⟨w.heap.size, 2, none⟩) (fun _ => rfl) _
        have hN5 : W5.heap[w.heap.size]? = some (.cells #[.int .i64 R.n, vl, .slice A3 m3 c3] 120 (0, 0)) := by rw [hW5]; exact obj_set HNQ.out 2 _
        have hO5 := F5.obj HOQ.out (by omega)
        have hrow5 := EK.row_fr HRQ.out F5 (fun j hj e => k221_ne HRQ.out HNQ.out (by decide) (e ▸ hj))
        have hl5 := EK.row_fr HLQ.out F5 (fun j hj e => by have := HVLB.out j hj; omega)
        have hB5 := HHB3.out.out.trans (F5.below _ HHB3.out.out.size (fun j hj e => by omega))
        have hst := store_whole (P := Try.prog) (ty := 120) hO5 (cells := #[.int .i64 R.n, vl, .slice A3 m3 c3]) info120 rfl (by
          obtain ⟨A6, c6, e6⟩ := EK.row_slice hl5
          rw [e6]
          simp [Value.oneCell'])
        have HST := hide hst
        have F6 := setRow_fr' W5 (w.heap.size + 1) #[.int .i64 R.n, vl, .slice A3 m3 c3]
        have HOO := hide (setRow_at' (C' := #[.int .i64 R.n, vl, .slice A3 m3 c3]) hO5)
        have HFIN := hide (show RS (W5.setRow (w.heap.size + 1) #[.int .i64 R.n, vl, .slice A3 m3 c3]) ⟨R.n, R.l, cuL R.c (a, a) true⟩ vl (.slice A3 m3 c3) ∧ Below w.heap.size w (W5.setRow (w.heap.size + 1) #[.int .i64 R.n, vl, .slice A3 m3 c3]) from
          ⟨⟨EK.row_fr hl5 F6 (fun j hj e => by have := HVLB.out j hj; omega), EK.row_base (EK.row_fr hrow5 F6 (fun j hj e => k221_ne hrow5 hO5 (by decide) (e ▸ hj))) (Nat.zero_le _)⟩, hB5.trans (F6.below _ hB5.size (fun j hj e => by omega))⟩)
        have p0 := obj_cell hN5 0
        have p1 := obj_cell hN5 1
        have p2 := obj_cell hN5 2
        simp only [List.getElem?_toArray, List.getElem?_cons_zero, List.getElem?_cons_succ] at p0 p1 p2
        clear hW5 F5 F6 hst hN5 hO5 hrow5 hl5 hB5 hq2 tq2
        go_wp2_with (refine wpList_storev' rfl 120 (.tmp 8) (.tmp 64) rfl rfl rfl HST.out ?_)
        refine bodyPost_ret (res_ct rfl _ _ (w.heap.size + 1) 120 _ (0, 0) _ rfl HOO.out Try.underlying120 rfl info120) rfl ?_
        exact ⟨_, rfl, HFIN.out⟩
set_option maxHeartbeats 8000000 in
set_option maxRecDepth 100000 in
theorem rcut81_gt {w : World} {R : RN} {vl vc : Value} (hR : RS w R vl vc) (hbn : R.c.length ≤ 1048575) (a b : Int) (on : Bool) (h : b < a) (h1 : rnodeP R.n a) (h2 : rnodeP R.n b) :
    Calls Try.prog 81 #[.agg #[.int .i64 R.n, vl, vc], .int .i64 a, .int .i64 b, .bool on] w fun e w' => ∃ vc', e = .returned (.tuple #[.agg (rv ⟨R.n, R.l, cuL R.c (b, a) on⟩ vl vc'), .bool true]) ∧ RS w' ⟨R.n, R.l, cuL R.c (b, a) on⟩ vl vc' ∧ Below w.heap.size w w' := by
  obtain ⟨A2, c2, e2⟩ := EK.row_slice hR.2
  subst e2
  have hb := ((Below.refl w.heap.size w).alloc (Nat.le_refl _) (.cells #[.int .i64 R.n, vl, .slice A2 R.c.length c2] 120)).alloc (by simp) (.cells #[.int .i64 0, .slice none 0 0, .slice none 0 0] 120)
  obtain ⟨W, hW⟩ : ∃ W, W = (w.alloc (.cells #[.int .i64 R.n, vl, .slice A2 R.c.length c2] 120)).alloc (.cells #[.int .i64 0, .slice none 0 0, .slice none 0 0] 120) := ⟨_, rfl⟩
  rw [← hW] at hb
  have HN0 := hide (show W.heap[w.heap.size]? = some (.cells #[.int .i64 R.n, vl, .slice A2 R.c.length c2] 120 (0, 0)) from hW ▸ obj_alloc (obj_new w (.cells #[.int .i64 R.n, vl, .slice A2 R.c.length c2] 120)) (.cells #[.int .i64 0, .slice none 0 0, .slice none 0 0] 120))
  have HO0 := hide (show W.heap[w.heap.size + 1]? = some (.cells #[.int .i64 0, .slice none 0 0, .slice none 0 0] 120 (0, 0)) from hW ▸ obj_new' w (.cells #[.int .i64 R.n, vl, .slice A2 R.c.length c2] 120) (.cells #[.int .i64 0, .slice none 0 0, .slice none 0 0] 120))
  have HVLB : Hid (∀ k, vl.ownBlock = some k → k < w.heap.size) := hide (fun k e => (EK.row_typed hR.1 e).2.1)
  have HR0 := hide (hR.below hb)
  have HB0 := hide hb
  have HLN := hide hbn
  have hsz : W.heap.size = w.heap.size + 1 + 1 := by rw [hW]; simp only [World.size_alloc]
  have HA := hide (fun wx => rnode_any R.n vl (.slice A2 R.c.length c2) a wx)
  have HB := hide (fun wx => rnode_any R.n vl (.slice A2 R.c.length c2) b wx)
  rw [decide_eq_true h1] at HA
  rw [decide_eq_true h2] at HB
  have HWE := hide hW
  have HSZ := hide hsz
  have hcl : R.c.length ≤ 9223372036854775807 := by omega
  clear hR hb hW h1 h2 hbn hsz
  have z0 := obj_cell HN0.out 0
  have z1 := obj_cell HN0.out 1
  have z2 := obj_cell HN0.out 2
  simp only [List.getElem?_toArray, List.getElem?_cons_zero, List.getElem?_cons_succ] at z0 z1 z2
  rw [HWE.out] at z0 z1 z2
  go_enter Try.func81, Try.ntmps81
  go_wp2_with fail
  rw [← HWE.out]
  refine (HA.out _).mono ?_
  rintro e w1 ⟨rfl, hb1⟩
  have HN1 := hide (obj_below HN0.out hb1)
  have HO1 := hide (obj_below HO0.out hb1)
  have HR1 := hide (HR0.out.below hb1)
  have HB1 := hide (HB0.out.trans (hb1.mono HB0.out.size))
  have hs1 := hb1.size
  clear hb1 z0 z1 z2
  have z0 := obj_cell HN1.out 0
  have z1 := obj_cell HN1.out 1
  have z2 := obj_cell HN1.out 2
  simp only [List.getElem?_toArray, List.getElem?_cons_zero, List.getElem?_cons_succ] at z0 z1 z2
  go_wp2_with fail
  refine (HB.out _).mono ?_
  rintro e w2 ⟨rfl, hb2⟩
  have HN2 := hide (obj_below HN1.out hb2)
  have HO2 := hide (obj_below HO1.out hb2)
  have HR2 := hide (HR1.out.below hb2)
  have HB2 := hide (HB1.out.trans (hb2.mono HB1.out.size))
  have hs2 := hb2.size
  rw [HSZ.out] at hs1
  clear hb2 z0 z1 z2 HN0 HN1 HO0 HO1 HR0 HR1 HB0 HB1 HA HB
  have HST : Hid (CuS w2 R (b, a) w2 (.slice none 0 0) (.int .i64 0)) := hide ⟨0, rfl, Nat.zero_le _, EK.row_nil _ _, Below.refl _ _⟩
  go_wp2_with fail
  go_loopw [10, 11] (fun lv iv wr => CuS w2 R (b, a) wr lv iv) (fun _ iv _ => R.c.length - (intOf iv).toNat)
  case atStart => exact HST.out
  case round =>
    obtain ⟨k, rfl, hk, hrow, hbel⟩ := hrel
    have HNR := hide (obj_below HN2.out hbel)
    have z0 := obj_cell HNR.out 0
    have z1 := obj_cell HNR.out 1
    have z2 := obj_cell HNR.out 2
    simp only [List.getElem?_toArray, List.getElem?_cons_zero, List.getElem?_cons_succ] at z0 z1 z2
    have HROW := hide hrow
    have HBEL := hide hbel
    rcases Nat.lt_or_ge k R.c.length with hkl | hkl
    · obtain ⟨r, cap, hv, hc1, hc2, _, hrl, hcell⟩ := EK.row_cells (EK.row_belowB HR2.out.2 hbel (fun k e => (EK.row_typed HR2.out.2 e).2.1)) hkl
      cases hv
      have e0 : wr.cell? ⟨r, k * 2, none⟩ = some (.int .i64 R.c[k].1) := hcell 0 (by decide)
      have e1 : wr.cell? ⟨r, k * 2 + 1, none⟩ = some (.int .i64 R.c[k].2) := hcell 1 (by decide)
      have hcm : c2 ≤ 9223372036854775807 := by simp only [maxLen] at hc2; omega
      have hE := fun wx => eq221 R.c[k] (b, a) wx
      have HTK := hide (List.take_succ_eq_append_getElem hkl)
      clear hcell hrow
      generalize R.c[k] = p at e0 e1 hE HTK
      by_cases hp : p = (b, a)
      · rw [decide_eq_true hp] at hE
        have HNX : Hid (CuS w2 R (b, a) wr u10 (.int .i64 ((k + 1 : Nat) : Int))) := hide ⟨k + 1, rfl, hkl, by
          rw [HTK.out, List.filter_append]
          simpa [hp] using HROW.out, HBEL.out⟩
        clear hp hbel
        go_wp2
        go_roundw
        case rel => exact HNX.out
        case measure => simp [intOf]; omega
      · rw [decide_eq_false hp] at hE
        have HP1 : Hid (([p].filter fun q => decide (q ≠ (b, a))) = [p]) := hide (by simp [hp])
        have hlen : ((R.c.take k).filter fun q => decide (q ≠ (b, a))).length ≤ 1048576 := Nat.le_trans (List.length_filter_le _ _) (by rw [List.length_take]; have := HLN.out; omega)
        obtain ⟨A3, c3, w3, hrun, hrow3, hb3⟩ := app_lk HROW.out HBEL.out p hlen 118
        obtain ⟨v3, hv3⟩ : ∃ v, v = Value.slice A3 (((R.c.take k).filter fun q => decide (q ≠ (b, a))) ++ [p]).length c3 := ⟨_, rfl⟩
        rw [← hv3] at hrun hrow3
        have HRUN := hide hrun
        have HNX : Hid (CuS w2 R (b, a) w3 v3 (.int .i64 ((k + 1 : Nat) : Int))) := hide ⟨k + 1, rfl, hkl, by
          rw [HTK.out, List.filter_append, HP1.out]
          exact hrow3, hb3⟩
        clear hp hbel hlen hrun hrow3 hb3 hv3
        go_wp2_with (at_builtin; refine wpList_append_run rfl (.tmp 43) (.tmp 49) 118 118 rfl rfl rfl HRUN.out ?_)
        go_roundw
        case rel => exact HNX.out
        case measure => simp [intOf]; omega
    · obtain rfl : k = R.c.length := by omega
      rw [List.take_length] at hrow
      have hlen : (R.c.filter fun q => decide (q ≠ (b, a))).length ≤ 1048576 := Nat.le_trans (List.length_filter_le _ _) (by have := HLN.out; omega)
      rcases on with _ | _
      · obtain ⟨A3, c3, e3⟩ := EK.row_slice hrow
        generalize (R.c.filter fun q => decide (q ≠ (b, a))).length = m3 at e3
        subst e3
        have hrowq : K221.row wr w2.heap.size (.slice A3 m3 c3) (cuL R.c (b, a) false) := by
          show K221.row wr w2.heap.size _ (_ ++ [])
          rw [List.append_nil]
          exact hrow
        have HRQ := hide hrowq
        clear hrow hrowq HROW hlen
        have HNQ := hide (obj_below HN2.out HBEL.out)
        have HOQ := hide (obj_below HO2.out HBEL.out)
        have HLQ := hide (EK.row_below HR2.out.1 HBEL.out)
        have HHBEL.out := hide (HB2.out.trans (HBEL.out.mono HB2.out.size))
        have hq2 := obj_cell HNQ.out 2
        have tq2 := obj_frozen HNQ.out 2
        simp only [List.getElem?_toArray, List.getElem?_cons_zero, List.getElem?_cons_succ] at hq2
        go_upto_region 12 with (fail)
        obtain ⟨W5, hW5⟩ : ∃ W5, W5 = wr.setCell ⟨w.heap.size, 2, none⟩ (.slice A3 m3 c3) := ⟨_, rfl⟩
        rw [← hW5]
        have F5 : Fr (fun j => j = w.heap.size) wr W5 := by rw [hW5]; exact (Fr.refl (fun j => j = w.heap.size) wr).setCell (p := ⟨w.heap.size, 2, none⟩) (fun _ => rfl) _
        have hN5 : W5.heap[w.heap.size]? = some (.cells #[.int .i64 R.n, vl, .slice A3 m3 c3] 120 (0, 0)) := by rw [hW5]; exact obj_set HNQ.out 2 _
        have hO5 := F5.obj HOQ.out (by omega)
        have hrow5 := EK.row_fr HRQ.out F5 (fun j hj e => k221_ne HRQ.out HNQ.out (by decide) (e ▸ hj))
        have hl5 := EK.row_fr HLQ.out F5 (fun j hj e => by have := HVLB.out j hj; omega)
        have hB5 := HHBEL.out.out.trans (F5.below _ HHBEL.out.out.size (fun j hj e => by omega))
        have hst := store_whole (P := Try.prog) (ty := 120) hO5 (cells := #[.int .i64 R.n, vl, .slice A3 m3 c3]) info120 rfl (by
          obtain ⟨A6, c6, e6⟩ := EK.row_slice hl5
          rw [e6]
          simp [Value.oneCell'])
        have HST := hide hst
        have F6 := setRow_fr' W5 (w.heap.size + 1) #[.int .i64 R.n, vl, .slice A3 m3 c3]
        have HOO := hide (setRow_at' (C' := #[.int .i64 R.n, vl, .slice A3 m3 c3]) hO5)
        have HFIN := hide (show RS (W5.setRow (w.heap.size + 1) #[.int .i64 R.n, vl, .slice A3 m3 c3]) ⟨R.n, R.l, cuL R.c (b, a) false⟩ vl (.slice A3 m3 c3) ∧ Below w.heap.size w (W5.setRow (w.heap.size + 1) #[.int .i64 R.n, vl, .slice A3 m3 c3]) from
          ⟨⟨EK.row_fr hl5 F6 (fun j hj e => by have := HVLB.out j hj; omega), EK.row_base (EK.row_fr hrow5 F6 (fun j hj e => k221_ne hrow5 hO5 (by decide) (e ▸ hj))) (Nat.zero_le _)⟩, hB5.trans (F6.below _ hB5.size (fun j hj e => by omega))⟩)
        have p0 := obj_cell hN5 0
        have p1 := obj_cell hN5 1
        have p2 := obj_cell hN5 2
        simp only [List.getElem?_toArray, List.getElem?_cons_zero, List.getElem?_cons_succ] at p0 p1 p2
        clear hW5 F5 F6 hst hN5 hO5 hrow5 hl5 hB5 hq2 tq2
        go_wp2_with (refine wpList_storev' rfl 120 (.tmp 8) (.tmp 64) rfl rfl rfl HST.out ?_)
        refine bodyPost_ret (res_ct rfl _ _ (w.heap.size + 1) 120 _ (0, 0) _ rfl HOO.out Try.underlying120 rfl info120) rfl ?_
        exact ⟨_, rfl, HFIN.out⟩
      · obtain ⟨A3, c3, w3, hrun, hrow3, hb3⟩ := app_lk hrow hbel (b, a) hlen 118
        generalize (_ ++ _ : List (Int × Int)).length = m3 at hrun hrow3
        have HRUN := hide hrun
        have HRQ : Hid (K221.row w3 w2.heap.size (.slice A3 m3 c3) (cuL R.c (b, a) true)) := hide hrow3
        have HB3 := hide hb3
        clear hrow HROW hlen hrun hrow3 hb3
        have HNQ := hide (obj_below HN2.out HB3.out)
        have HOQ := hide (obj_below HO2.out HB3.out)
        have HLQ := hide (EK.row_below HR2.out.1 HB3.out)
        have HHB3.out := hide (HB2.out.trans (HB3.out.mono HB2.out.size))
        have hq2 := obj_cell HNQ.out 2
        have tq2 := obj_frozen HNQ.out 2
        simp only [List.getElem?_toArray, List.getElem?_cons_zero, List.getElem?_cons_succ] at hq2
        go_upto_region 12 with (at_builtin; refine wpList_append_run rfl (.tmp 52) (.tmp 60) 118 118 rfl rfl rfl HRUN.out ?_)
        obtain ⟨W5, hW5⟩ : ∃ W5, W5 = w3.setCell ⟨w.heap.size, 2, none⟩ (.slice A3 m3 c3) := ⟨_, rfl⟩
        rw [← hW5]
        have F5 : Fr (fun j => j = w.heap.size) w3 W5 := by rw [hW5]; exact (Fr.refl (fun j => j = w.heap.size) w3).setCell (p := ⟨w.heap.size, 2, none⟩) (fun _ => rfl) _
        have hN5 : W5.heap[w.heap.size]? = some (.cells #[.int .i64 R.n, vl, .slice A3 m3 c3] 120 (0, 0)) := by rw [hW5]; exact obj_set HNQ.out 2 _
        have hO5 := F5.obj HOQ.out (by omega)
        have hrow5 := EK.row_fr HRQ.out F5 (fun j hj e => k221_ne HRQ.out HNQ.out (by decide) (e ▸ hj))
        have hl5 := EK.row_fr HLQ.out F5 (fun j hj e => by have := HVLB.out j hj; omega)
        have hB5 := HHB3.out.out.trans (F5.below _ HHB3.out.out.size (fun j hj e => by omega))
        have hst := store_whole (P := Try.prog) (ty := 120) hO5 (cells := #[.int .i64 R.n, vl, .slice A3 m3 c3]) info120 rfl (by
          obtain ⟨A6, c6, e6⟩ := EK.row_slice hl5
          rw [e6]
          simp [Value.oneCell'])
        have HST := hide hst
        have F6 := setRow_fr' W5 (w.heap.size + 1) #[.int .i64 R.n, vl, .slice A3 m3 c3]
        have HOO := hide (setRow_at' (C' := #[.int .i64 R.n, vl, .slice A3 m3 c3]) hO5)
        have HFIN := hide (show RS (W5.setRow (w.heap.size + 1) #[.int .i64 R.n, vl, .slice A3 m3 c3]) ⟨R.n, R.l, cuL R.c (b, a) true⟩ vl (.slice A3 m3 c3) ∧ Below w.heap.size w (W5.setRow (w.heap.size + 1) #[.int .i64 R.n, vl, .slice A3 m3 c3]) from
          ⟨⟨EK.row_fr hl5 F6 (fun j hj e => by have := HVLB.out j hj; omega), EK.row_base (EK.row_fr hrow5 F6 (fun j hj e => k221_ne hrow5 hO5 (by decide) (e ▸ hj))) (Nat.zero_le _)⟩, hB5.trans (F6.below _ hB5.size (fun j hj e => by omega))⟩)
        have p0 := obj_cell hN5 0
        have p1 := obj_cell hN5 1
        have p2 := obj_cell hN5 2
        simp only [List.getElem?_toArray, List.getElem?_cons_zero, List.getElem?_cons_succ] at p0 p1 p2
        clear hW5 F5 F6 hst hN5 hO5 hrow5 hl5 hB5 hq2 tq2
        go_wp2_with (refine wpList_storev' rfl 120 (.tmp 8) (.tmp 64) rfl rfl rfl HST.out ?_)
        refine bodyPost_ret (res_ct rfl _ _ (w.heap.size + 1) 120 _ (0, 0) _ rfl HOO.out Try.underlying120 rfl info120) rfl ?_
        exact ⟨_, rfl, HFIN.out⟩
theorem rcut81_ok {w : World} {R : RN} {vl vc : Value} (hR : RS w R vl vc) (hbn : R.c.length ≤ 1048575) (a b : Int) (on : Bool) (h1 : rnodeP R.n a) (h2 : rnodeP R.n b) :
    Calls Try.prog 81 #[.agg #[.int .i64 R.n, vl, vc], .int .i64 a, .int .i64 b, .bool on] w fun e w' => ∃ vc', e = .returned (.tuple #[.agg (rv (cuR R a b on) vl vc'), .bool true]) ∧ RS w' (cuR R a b on) vl vc' ∧ Below w.heap.size w w' := by
  unfold cuR
  rcases Int.lt_trichotomy a b with h | h | h
  · rw [show lnk a b = (a, b) from by unfold lnk; rw [Int.min_eq_left (by omega), Int.max_eq_right (by omega)]]
    exact rcut81_lt hR hbn a b on h h1 h2
  · rw [show lnk a b = (a, a) from by unfold lnk; rw [← h, Int.min_self, Int.max_self]]
    exact rcut81_eq hR hbn a b on h h1 h2
  · rw [show lnk a b = (b, a) from by unfold lnk; rw [Int.min_eq_right (by omega), Int.max_eq_left (by omega)]]
    exact rcut81_gt hR hbn a b on h h1 h2
end Go.Proofs.Ytljmaicobafgkaa
end
