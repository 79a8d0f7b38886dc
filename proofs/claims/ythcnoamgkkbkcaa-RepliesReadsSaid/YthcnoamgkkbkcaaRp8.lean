/- Chapter 15, replies: Text. -/
import Derived.Test.YthcnoamgkkbkcaaRp7
import Derived.Test.YthcnoamgkkbkcaaRp0
namespace Go.Proofs.Ythcnoamgkkbkcaa
open Go.RowKit

theorem cf58 (args : Array Value) (w1 : World) : (callFunc 58 args).run Try.prog w1 = .ok (.enter 58 args) w1 := by go_simp
theorem textR_nil (w : World) : Calls Try.prog 40 #[.pointer none] w fun e w' => e = .returned (.string ⟨#[]⟩) ∧ Below w.heap.size w w' := by
  have HB := hide ((Below.refl w.heap.size w).alloc (Nat.le_refl _) (.cells #[.pointer none] 63))
  go_enter Try.func40, Try.ntmps40
  go_wp2
  go_ret
  exact ⟨rfl, HB.out⟩
def T1S (w : World) (cm r N al : Nat) (f : Int → Option Value) (g : Nat) (wr : World) : Prop :=
  ∃ (E : List (Int × Value)) (ov : Value), kR.rg wr cm r f N E ∧ wr.heap[al]? = some (.cells #[ov] 54 (0, 0)) ∧ kI.row wr (w.heap.size + 2) ov (E.map (·.1)) ∧ wr.heap[w.heap.size]? = some (.cells #[.pointer (some ⟨g, 0, none⟩)] 63 (0, 0)) ∧ Below w.heap.size w wr
def T2S (W2 : World) (bb : Nat) (hd : List UInt8) (C : List Int) (S : RS) (n : Nat) (wr : World) (iv : Value) : Prop :=
  ∃ (i : Nat) (v : Value), iv = .int .i64 (i : Int) ∧ i ≤ n ∧ wr.heap[bb]? = some (.cells #[v] 119 (0, 0)) ∧ OwB wr bb v (hd ++ (C.take i).flatMap (clB S)) ∧ Below bb W2 wr
def T3S (W2 : World) (bb : Nat) (hd : List UInt8) (l : List En) (n : Nat) (wr : World) (iv : Value) : Prop :=
  ∃ (j : Nat) (v : Value), iv = .int .i64 (j : Int) ∧ j ≤ n ∧ wr.heap[bb]? = some (.cells #[v] 119 (0, 0)) ∧ OwB wr bb v (hd ++ (l.take j).flatMap enB) ∧ Below bb W2 wr
theorem inf54 : (Try.prog.info? 54).map (·.size) = some 1 := by kernel_rfl
set_option maxHeartbeats 16000000 in
set_option maxRecDepth 100000 in
theorem textR_any {w : World} {B g cm : Nat} {S : RS} {f : Int → Option Value} (h : RV w B g cm S f) (hk : ROk S) :
    Calls Try.prog 40 #[.pointer (some ⟨g, 0, none⟩)] w fun e w' => e = .returned (.string ⟨(textR S).toArray⟩) ∧ Below w.heap.size w w' := by
  have hal := ((Below.refl w.heap.size w).alloc (Nat.le_refl _) (.cells #[.pointer (some ⟨g, 0, none⟩)] 63)).alloc (by simp) (.cells #[.slice none 0 0] 54)
  obtain ⟨W1, hW1⟩ : ∃ W, W = (w.alloc (.cells #[.pointer (some ⟨g, 0, none⟩)] 63)).alloc (.cells #[.slice none 0 0] 54) := ⟨_, rfl⟩
  have hr1 := obj_alloc (obj_new w (.cells #[.pointer (some ⟨g, 0, none⟩)] 63)) (.cells #[.slice none 0 0] 54)
  have ha1 := obj_new' w (.cells #[.pointer (some ⟨g, 0, none⟩)] 63) (.cells #[.slice none 0 0] 54)
  have hs1 : W1.heap.size = w.heap.size + 2 := by rw [hW1]; simp
  rw [← hW1] at hal hr1 ha1
  have hv1 := h.below hal
  have z1 := obj_cell hv1.o 1
  simp only [List.getElem?_toArray, List.getElem?_cons_zero, List.getElem?_cons_succ] at z1
  obtain ⟨N, w1, hrun, hrg, hb1, hsz1⟩ := MK.run_rng hv1.mp
  rw [hs1] at hrg hrun
  have HRUN : Hid ((Instr.range 106 (.map (some cm))).run Try.prog ((w.alloc (.cells #[.pointer (some ⟨g, 0, none⟩)] 63)).alloc (.cells #[.slice none 0 0] 54)) = .ok (.pointer (some ⟨w.heap.size + 2, 0, none⟩)) w1) := hide (by rw [← hW1]; exact hrun)
  have HS := hide (show T1S w cm (w.heap.size + 2) N (w.heap.size + 1) f g w1 from ⟨[], .slice none 0 0, hrg, obj_below ha1 hb1, EK.row_nil _ _, obj_below hr1 hb1, hal.trans (hb1.mono hal.size)⟩)
  have HV := hide h
  have HK := hide hk
  rw [hW1] at z1
  clear h hk hal hr1 ha1 hv1 hrun hrg hb1 hsz1 hs1 hW1
  go_enter Try.func40, Try.ntmps40
  go_wp2_with fail
  rw [HRUN.out]
  go_wp2_with fail
  go_loopw [4] (fun _ wr => T1S w cm (w.heap.size + 2) N (w.heap.size + 1) f g wr) (fun _ wr => N - seenN wr (w.heap.size + 2))
  case atStart => exact HS.out
  case round =>
    obtain ⟨E, ov, hrg, hal, hrow, hr1, hb⟩ := hrel
    have hseen := MK.rg_seen hrg
    have hcnt : (E.map (·.1)).length ≤ 64 := by
      have hn := (MK.rg_nodup hrg).1
      have := nodup_sub_len (L := cls S) hn (fun k hk1 => by
        obtain ⟨p, hp, rfl⟩ := List.mem_map.1 hk1
        exact (cls_mem HK.out p.1).2 (HV.out.yes p.1 p.2 ((MK.rg_nodup hrg).2.2 p.1 p.2 hp)).1)
      have := cls_len S
      omega
    obtain ⟨A, cp, e1⟩ := EK.row_slice hrow
    obtain ⟨m, hm⟩ : ∃ m, m = (E.map (·.1)).length := ⟨_, rfl⟩
    rw [← hm] at e1
    subst e1
    have y0 := obj_cell hal 0
    simp only [List.getElem?_toArray, List.getElem?_cons_zero] at y0
    rcases MK.run_nxt hrg 0 with ⟨hall, hN, hnx⟩ | ⟨k, x, w2, hlt, hfk, hnx, hrg2, hf2, hs2, hen⟩
    · have HNX := hide hnx
      have HA := hide (show ((E.map (·.1)).mergeSort fun x y => decide (x ≤ y)) = cls S from sort_is (MK.rg_nodup hrg).1 (cls_rising S) (fun id => by
        rw [cls_mem HK.out]
        constructor
        · intro hh
          obtain ⟨p, hp, rfl⟩ := List.mem_map.1 hh
          exact (HV.out.yes p.1 p.2 ((MK.rg_nodup hrg).2.2 p.1 p.2 hp)).1
        · intro hh
          rcases e : f id with _ | v
          · exact absurd (HV.out.no id e) hh
          · exact List.mem_map.2 ⟨(id, v), (hall id v).1 e, rfl⟩))
      have hst := sort_row hrow (by omega)

      have HST := hide hst
      have HROW := hide hrow
      have HBW := hide hb
      have HR1 := hide hr1
      have HAL := hide hal
      have hlen : m = (cls S).length := by rw [hm, ← HA.out, List.length_mergeSort]
      have HLEN := hide hlen
      have hm64 : m ≤ 64 := by rw [hlen]; exact cls_len S
      clear hall hN hnx hrg hrow hb hcnt hseen hm hr1 hal hst hlen
      go_wp2_with fail
      rw [HNX.out]
      go_wp2_with fail
      refine HST.out.mono ?_
      rintro e w2 ⟨rfl, hrow2, hf2⟩
      rw [HA.out] at hrow2
      have hb2 : Below w.heap.size w w2 := HBW.out.trans (hf2.below _ HBW.out.size (fun j hj e => by
        have := (EK.row_typed HROW.out e).1
        omega))
      have hal2 := hf2.obj HAL.out (EK.row_ne HROW.out HAL.out (by decide))
      have hr2 := hf2.obj HR1.out (EK.row_ne HROW.out HR1.out (by decide))
      have hv2 := HV.out.below hb2
      have HROW2 := hide hrow2
      have HAL2 := hide hal2
      have HR2 := hide hr2
      have HV2 := hide hv2
      have HB2 := hide hb2
      obtain ⟨bb, hbb⟩ : ∃ b, b = w2.heap.size := ⟨_, rfl⟩
      have hbl3 : Below bb w2 (w2.alloc (.cells #[.slice none 0 0] 119)) := by rw [hbb]; exact (Below.refl _ _).alloc (Nat.le_refl _) _
      have ob3 : (w2.alloc (.cells #[.slice none 0 0] 119)).heap[bb]? = some (.cells #[.slice none 0 0] 119 (0, 0)) := by rw [hbb]; exact obj_new _ _
      have hroom := HK.out.room
      have hw3 : bb ≤ (w2.alloc (.cells #[.slice none 0 0] 119)).heap.size := by have := hbl3.size; omega
      obtain ⟨W3, hW3⟩ : ∃ W, W = w2.alloc (.cells #[.slice none 0 0] 119) := ⟨_, rfl⟩
      rw [← hW3] at hbl3 ob3 hw3
      have hb23 : Below w2.heap.size w2 W3 := by rw [← hbb]; exact hbl3
      have HP := hide (put61_any w.heap.size (w.heap.size + 1) bb bb (.slice none 0 0) [] ([ub S.room] ++ num (m : Int)) W3 ob3 (OwB.nil _ _) (Nat.le_refl _) (by
        have := num_len (m : Int) (by omega) (by omega)
        simp
        omega) (fun w9 g9 hb9 _ hW9 => lay61_any g9 w.heap.size (w.heap.size + 1) g cm m cp A S.room w9 hW9 (obj_below hr2 (hb23.trans (hb9.mono hb23.size))) (hv2.below (hb23.trans (hb9.mono hb23.size))).o (obj_below hal2 (hb23.trans (hb9.mono hb23.size))) hroom hm64))
      have HCF := hide (And.intro cf58 (And.intro cf61 (And.intro cf64 cf65)))
      have HB23 := hide hbl3
      have HBBE := hide hbb
      rw [hW3] at HP
      have hc58 := cf58
      have z2 := obj_cell hal2 0
      have m0 := obj_cell (obj_below hal2 ((Below.refl w2.heap.size w2).alloc (Nat.le_refl _) (.cells #[.slice none 0 0] 119))) 0
      simp only [List.getElem?_toArray, List.getElem?_cons_zero] at z2 m0
      clear hrow2 hf2 hb2 hal2 hr2 hv2 hbl3 ob3 hw3 hb23 hW3 y0
      go_wp2_with fail
      rw [← HBBE.out]
      refine HP.out.mono ?_
      rintro e w4 ⟨rfl, v4, ho4, hv4, hb4, -⟩
      obtain ⟨hd, hhd⟩ : ∃ hd, hd = [ub S.room] ++ num (m : Int) := ⟨_, rfl⟩
      rw [← hhd, List.nil_append] at hv4
      have hhl : hd.length ≤ 11 := by
        have := num_len (m : Int) (by omega) (by omega)
        rw [hhd]
        simp
        omega
      have hbw4 : Below bb w2 w4 := by
        have h9 := HB23.out
        rw [show bb = w2.heap.size from HBBE.out] at h9 hb4 ⊢
        exact ((Below.refl _ _).alloc (Nat.le_refl _) _).trans hb4
      have HS4 := hide (show T2S w2 bb hd (cls S) S m w4 (.int .i64 0) from ⟨0, v4, rfl, Nat.zero_le _, ho4, by simpa using hv4, hbw4⟩)
      have HHD := hide (And.intro hhd hhl)
      have HUP := hide (fun (W : World) (hW : Below bb w2 W) => show Below w2.heap.size w2 W from by rw [← HBBE.out]; exact hW)
      have z4 := obj_cell (obj_below HAL2.out (HUP.out _ hbw4)) 0
      simp only [List.getElem?_toArray, List.getElem?_cons_zero] at z4
      clear ho4 hv4 hb4 hbw4 hhd hhl z2 m0 HP hbb
      go_wp2_with fail
      go_loopw [34] (fun iv wr => T2S w2 bb hd (cls S) S m wr iv) (fun iv _ => m - (intOf iv).toNat)
      case atStart => exact HS4.out
      case round =>
        obtain ⟨i, v, rfl, hi, ho, hv, hb⟩ := hrel
        have HB := hide hb
        have HO := hide ho
        have HV5 := hide hv
        rcases Nat.lt_or_ge i m with him | him
        · have himl : i < (cls S).length := by rw [← HLEN.out]; exact him
          obtain ⟨r, cap, e1, hz1, hz2, -, hrl, hcell⟩ := EK.row_cells HROW2.out himl
          rw [← HLEN.out] at e1 hz1
          injection e1 with e1a e1b e1c
          subst e1a e1c
          simp only [maxLen] at hz2
          obtain ⟨c, hc⟩ : ∃ c, c = (cls S)[i] := ⟨_, rfl⟩
          have q0 := hcell 0 (by decide)
          rw [← hc] at q0
          simp only [kI, List.getElem?_cons_zero, Nat.add_zero, Nat.mul_one] at q0
          have q0' := (hb.cell (p := ⟨r, i, none⟩) (by have := HBBE.out; show r < bb; omega)).trans q0
          have hcm : c ∈ cls S := by rw [hc]; exact List.getElem_mem himl
          have hcr := cls_rng hcm
          have himi : (i : Int) < (m : Int) := by omega
          have HSUC := hide (show (cls S).take (i + 1) = (cls S).take i ++ [c] from by rw [List.take_add_one, List.getElem?_eq_getElem himl, hc]; rfl)
          obtain ⟨pre, hpre⟩ : ∃ pre, pre = hd ++ ((cls S).take i).flatMap (clB S) := ⟨_, rfl⟩
          rw [← hpre] at hv
          have hpl : pre.length ≤ 4216523 := by
            have h1 := flat_len (g := clB S) (m := 65883) (l := (cls S).take i) (fun x _ => clB_len HK.out x)
            have h2 : ((cls S).take i).length * 65883 ≤ 64 * 65883 := Nat.mul_le_mul_right _ (by rw [List.length_take]; omega)
            have := HHD.out.2
            rw [hpre, List.length_append]
            omega
          have hnl := HK.out.len c
          have hrm := HK.out.room
          have hal4 := (Below.refl wr.heap.size wr).alloc (Nat.le_refl _) (.cells #[.int .i64 c] 3)
          have hcl4 := obj_new wr (.cells #[.int .i64 c] 3)
          have hbsz : bb ≤ wr.heap.size := by have := hb.size; have := HBBE.out; omega
          have hbw4 : Below bb w2 (wr.alloc (.cells #[.int .i64 c] 3)) := hb.trans (hal4.mono hbsz)
          obtain ⟨hdc, hhdc⟩ : ∃ z, z = [ub c] ++ num ((S.L c).length : Int) := ⟨_, rfl⟩
          have hdl : hdc.length ≤ 11 := by
            have := num_len ((S.L c).length : Int) (by omega) (by omega)
            rw [hhdc]
            simp
            omega
          have HP := hide (put64_any wr.heap.size w.heap.size bb bb v pre hdc (wr.alloc (.cells #[.int .i64 c] 3)) (obj_below ho hal4) (hv.below hal4) (Nat.le_refl _) (by omega) (fun w9 g9 hb9 _ hW9 => by
            have hb29 := HUP.out _ (hbw4.trans (hb9.mono (by have := hal4.size; omega)))
            rw [hhdc]
            exact lay64_any g9 w.heap.size wr.heap.size g cm B c w9 hW9 (obj_below HR2.out hb29) (HV2.out.below hb29) HK.out (obj_below hcl4 hb9) hcr))
          have HBW4 := hide hbw4
          have HAL4 := hide hal4
          have HCL4 := hide hcl4
          have HPRE := hide (And.intro hpre hpl)
          have HHDC := hide (And.intro hhdc hdl)
          have HBSZ := hide hbsz
          have HCR := hide hcr
          have hc64 := cf64
          have hc58b := cf58
          clear hb ho hv e1b hcell hc q0 hcm hcr hpre hpl hal4 hcl4 hbsz hbw4 hhdc hdl hz1 himl hrl
          go_wp2_with fail
          refine HP.out.mono ?_
          rintro e w5 ⟨rfl, v5, ho5, hv5, hb5, hf5⟩
          have hbw5 : Below bb w2 w5 := HBW4.out.trans hb5
          have hb25 := HUP.out _ hbw5
          have hv25 := HV2.out.below hb25
          have hcl5 : w5.heap[wr.heap.size]? = some (.cells #[.int .i64 c] 3 (0, 0)) := by
            refine hf5.obj HCL4.out (fun e => ?_)
            rcases e with e | e
            · have h9 := obj_below HO.out HAL4.out
              rw [← e, HCL4.out] at h9
              simp only [Option.some.injEq, Obj.cells.injEq] at h9
              exact absurd h9.2.1 (by decide)
            · have := (HV5.out.typed e).2.1
              omega
          have y1 := obj_cell (obj_below HR2.out hb25) 0
          have y2 := obj_cell hv25.o 1
          have y3 := obj_cell hcl5 0
          simp only [List.getElem?_toArray, List.getElem?_cons_zero, List.getElem?_cons_succ] at y1 y2 y3
          have hlk := fun n => RV.look (hv25.below (below_drewN (Below.refl w5.heap.size w5) n)) c
          obtain ⟨A5, c5, e5, hk1, hk2⟩ := EK.sg_slice (hv25.sg c)
          obtain ⟨n5, hn5⟩ : ∃ n, n = (S.L c).length := ⟨_, rfl⟩
          rw [← hn5] at e5 hk1
          rw [e5] at hlk
          have HLK := hide hlk
          have hsg5 := hv25.sg c
          rw [e5] at hsg5
          have HSG2 := hide (show kE.sg w2 B (.slice A5 n5 c5) (S.L c) from by have := HV2.out.sg c; rw [e5] at this; exact this)
          have hl16 : n5 ≤ 16 := by omega
          have HN5 := hide hn5
          have HSG5 := hide hsg5
          obtain ⟨hd3, hhd3⟩ : ∃ z, z = pre ++ hdc := ⟨_, rfl⟩
          rw [← hhd3] at hv5
          have h3l : hd3.length ≤ 4216534 := by
            have := HPRE.out.2
            have := HHDC.out.2
            rw [hhd3, List.length_append]
            omega
          have HH3 := hide (And.intro hhd3 h3l)
          have HBW5 := hide hbw5
          have HO5 := hide ho5
          have HV6 := hide hv5
          simp only [maxLen] at hk2
          clear ho5 hv5 hb5 hf5 hbw5 hb25 hv25 hcl5 e5 hn5 hsg5 hhd3 h3l hnl hrm HP
          go_wp2_with fail
          go_quiet (fail)
          rename Nat => nq
          have hbq := below_drewN (Below.refl w5.heap.size w5) nq
          have HS5 := hide (show T3S w2 bb hd3 (S.L c) n5 (w5.drewN nq) (.int .i64 0) from ⟨0, v5, rfl, Nat.zero_le _, obj_below HO5.out hbq, by simpa using HV6.out.below hbq, HBW5.out.trans (hbq.mono (by have := HBW5.out.size; have := HBBE.out; omega))⟩)
          have HSG6 := hide (EK.sg_below HSG5.out hbq)
          have HBQ := hide hbq
          generalize w5.drewN nq = w6 at HS5 HSG6 HBQ hbq ⊢
          clear hbq hlk y1 y2 y3
          go_wp2_with fail
          go_loopw [48] (fun jv wr => T3S w2 bb hd3 (S.L c) n5 wr jv) (fun jv _ => n5 - (intOf jv).toNat)
          case atStart => exact HS5.out
          case round =>
            obtain ⟨j, v6, rfl, hj, ho6, hv6, hb6⟩ := hrel
            have HB6 := hide hb6
            have HO6 := hide ho6
            have HV7 := hide hv6
            rcases Nat.lt_or_ge j n5 with hjn | hjn
            · have hjl : j < (S.L c).length := by rw [← HN5.out]; exact hjn
              obtain ⟨b, o, c', e1, -, -, -, -, hcell⟩ := EK.sg_cells (EK.sg_below HSG2.out (HUP.out _ hb6)) hjl
              rw [← HN5.out] at e1
              injection e1 with e1a e1b e1c
              subst e1a e1c
              have q0 := hcell 0 (by decide)
              have q1 := hcell 1 (by decide)
              have q2 := hcell 2 (by decide)
              obtain ⟨x, hx⟩ : ∃ x, x = (S.L c)[j] := ⟨_, rfl⟩
              rw [← hx] at q0 q1 q2
              simp only [kE, eC, List.getElem?_cons_zero, List.getElem?_cons_succ, Nat.add_zero] at q0 q1 q2
              have hxm : x ∈ S.L c := by rw [hx]; exact List.getElem_mem hjl
              have hxr := HK.out.rng c x hxm
              have hxs := HK.out.rep c x hxm
              have hxl := enB_len HK.out hxm
              have hjni : (j : Int) < (n5 : Int) := by omega
              have hsuc : hd3 ++ ((S.L c).take (j + 1)).flatMap enB = (hd3 ++ ((S.L c).take j).flatMap enB) ++ enB x := by
                rw [List.take_add_one, List.getElem?_eq_getElem hjl, List.flatMap_append, ← hx, List.append_assoc]
                simp
              obtain ⟨acc, hacc⟩ : ∃ z, z = hd3 ++ ((S.L c).take j).flatMap enB := ⟨_, rfl⟩
              rw [← hacc] at hv6 hsuc
              have hal := flat_len (g := enB) (m := 4117) (l := (S.L c).take j) (fun e he => enB_len HK.out (List.mem_of_mem_take he))
              have hal2 : ((S.L c).take j).length * 4117 ≤ 16 * 4117 := Nat.mul_le_mul_right _ (by rw [List.length_take]; omega)
              have haccl : acc.length ≤ 4300000 := by
                have := HH3.out.2
                rw [hacc, List.length_append]
                omega
              have hbsz : bb ≤ wr.heap.size := by have := hb6.size; have := HBBE.out; omega
              have hal6 := (Below.refl wr.heap.size wr).alloc (Nat.le_refl _) (.cells (eC x).toArray 116)
              have HP := hide (put65_any (eC x).toArray bb bb v6 acc (enB x) (wr.alloc (.cells (eC x).toArray 116)) (obj_below ho6 hal6) (hv6.below hal6) (Nat.le_refl _) (by omega) (fun w9 g9 _ _ hW9 => layE_any x g9 w9 hW9 hxr hxs))
              have HRES := hide (fun (W : World) (v' : Value) (h1 : W.heap[bb]? = some (.cells #[v'] 119 (0, 0))) (h2 : OwB W bb v' (acc ++ enB x)) (h3 : Below bb (wr.alloc (.cells (eC x).toArray 116)) W) => show T3S w2 bb hd3 (S.L c) n5 W (.int .i64 ((j : Int) + 1)) from ⟨j + 1, v', rfl, hjn, h1, by rw [hsuc]; exact h2, (hb6.trans (hal6.mono hbsz)).trans h3⟩)
              have oq := obj_new wr (.cells (eC x).toArray 116)
              obtain ⟨xid, xb, xr⟩ := x
              unfold eC at HP HRES oq
              simp only at HP HRES oq q0 q1 q2
              have p0 := obj_cell oq 0
              have p1 := obj_cell oq 1
              have p2 := obj_cell oq 2
              simp only [List.getElem?_toArray, List.getElem?_cons_zero, List.getElem?_cons_succ] at p0 p1 p2
              have hc58c := cf58
              have hc65 := cf65
              clear hcell hx hxm hxr hxs hxl hsuc hacc hal hal2 haccl hbsz hal6 oq hv6 ho6 hb6 hjl e1b
              go_wp2_with fail
              refine HP.out.mono ?_
              rintro e w9 ⟨rfl, v9, ho9, hv9, hb9, -⟩
              have HR := hide (HRES.out _ _ ho9 hv9 hb9)
              clear ho9 hv9 hb9
              go_wp2_with fail
              exact ⟨HR.out, by simp only [intOf]; omega⟩
            · have hje : n5 = j := by omega
              subst hje
              have e9 : (S.L c).take n5 = S.L c := List.take_of_length_le (by rw [← HN5.out]; exact Nat.le_refl _)
              rw [e9] at hv6
              have HRES := hide (show T2S w2 bb hd (cls S) S m wr (.int .i64 ((i : Int) + 1)) from ⟨i + 1, v6, rfl, him, ho6, by
                rw [HSUC.out, List.flatMap_append]
                have e10 : hd ++ (((cls S).take i).flatMap (clB S) ++ [c].flatMap (clB S)) = hd3 ++ (S.L c).flatMap enB := by
                  rw [HH3.out.1, HPRE.out.1, HHDC.out.1]
                  simp [clB]
                rw [e10]
                exact hv6, hb6⟩)
              clear ho6 hv6 hb6 e9
              go_wp2_with fail
              exact ⟨HRES.out, by simp only [intOf]; omega⟩
        · have hie : m = i := by omega
          subst hie
          have e9 : (cls S).take m = cls S := List.take_of_length_le (by rw [← HLEN.out]; exact Nat.le_refl _)
          rw [e9] at hv
          have e10 : hd ++ (cls S).flatMap (clB S) = textR S := by
            rw [HHD.out.1, HLEN.out]
            rfl
          rw [e10] at hv
          have hcv := conv_own hv
          have y5 := obj_cell ho 0
          simp only [List.getElem?_toArray, List.getElem?_cons_zero] at y5
          have HCV := hide hcv
          have HBF := hide (HB2.out.trans (hb.mono (by have := HB2.out.size; have := HBBE.out; omega)))
          clear hcv ho hv hb e9 e10
          go_wp2_with fail
          try rw [HCV.out]
          go_wp2
          go_ret
          exact ⟨rfl, HBF.out⟩
    · have hne : ∀ q, (Value.slice A m cp).ownBlock = some q → q ≠ w.heap.size + 2 := fun q hq e => by
        obtain ⟨-, -, cs, h5⟩ := EK.row_typed hrow hq
        obtain ⟨L, ck, si, se, c0, -, -, h6, -⟩ := hrg
        rw [e, h6] at h5
        cases h5
      have hrow2 := EK.row_fr hrow hf2 (fun q hq e => hne q hq e)
      have hal2 := hf2.obj hal (by omega)
      have hr2 := hf2.obj hr1 (by omega)
      have hb2 : Below w.heap.size w w2 := hb.trans (hf2.below _ hb.size (fun j hj e => by omega))
      have HNX : Hid ((Instr.next (.pointer (some ⟨w.heap.size + 2, 0, none⟩)) false 0).run Try.prog wr = .ok (.tuple #[.bool true, .int .i64 k, x]) w2) := hide hnx
      have hen' : (Instr.entry (.pointer (some ⟨w.heap.size + 2, 0, none⟩))).run Try.prog w2 = .ok (.tuple #[.int .i64 k, x]) w2 := hen
      have hbl3 := (Below.refl w2.heap.size w2).alloc (Nat.le_refl _) (.cells #[.int .i64 k] 3)
      have hrg3 := MK.rg_below hrg2 hbl3
      have hrow3 := EK.row_below hrow2 hbl3
      have hal3 := obj_below hal2 hbl3
      have hr3 := obj_below hr2 hbl3
      have hb3 : Below w.heap.size w (w2.alloc (.cells #[.int .i64 k] 3)) := hb2.alloc hb2.size _
      have hsz : w.heap.size + 2 < w2.heap.size := (MK.rg_lt hrg2).1
      obtain ⟨v4, w4, happ, hrow4, hf4, hbl4⟩ := EK.app hrow3 (EK.rd_one (K := kI) k (obj_new w2 _)) (by simp only [List.length_singleton]; omega) (by have := hbl3.size; omega) 54
      have hrg4 := MK.rg_fr hrg3 hf4 (fun e => by
        obtain ⟨es, q, h6⟩ := MK.mp_obj (MK.rg_mp hrg3)
        obtain ⟨-, -, cs, h5⟩ := EK.row_typed hrow3 e
        rw [h6] at h5
        cases h5) (fun e => hne _ e rfl)
      have hal4 := hf4.obj hal3 (EK.row_ne hrow3 hal3 (by decide))
      have hr4 := hf4.obj hr3 (EK.row_ne hrow3 hr3 (by decide))
      have hb4 : Below w.heap.size w w4 := hb3.trans (hf4.below _ hb3.size (fun j hj e => by
        have := (EK.row_typed hrow3 e).1
        omega))
      obtain ⟨A4, c4, e4⟩ := EK.row_slice hrow4
      rw [List.length_append, List.length_singleton, ← hm] at e4
      subst e4
      have F5 := (Fr.refl (fun i => i = w.heap.size + 1) w4).setCell (p := ⟨w.heap.size + 1, 0, none⟩) (fun _ => rfl) (.slice A4 (m + 1) c4)
      have hrg5 := MK.rg_fr hrg4 F5 (fun e => by
        obtain ⟨es, q, h6⟩ := MK.mp_obj (MK.rg_mp hrg4)
        rw [e, hal4] at h6
        cases h6) (by omega)
      have hseen5 := MK.rg_seen hrg5
      rw [List.length_append, List.length_singleton] at hseen5
      have HAPP : Hid ((Builtin.append_ #[54, 54] 54 #[.slice A m cp, .slice (some ⟨w2.heap.size, 0, none⟩) 1 1]).run Try.prog (w2.alloc (.cells #[.int .i64 k] 3)) = .ok (.slice A4 (m + 1) c4) w4) := hide happ
      have HRES := hide (show T1S w cm (w.heap.size + 2) N (w.heap.size + 1) f g (w4.setCell ⟨w.heap.size + 1, 0, none⟩ (.slice A4 (m + 1) c4)) from ⟨E ++ [(k, x)], _, hrg5, by simpa using obj_set hal4 0 (.slice A4 (m + 1) c4), by
        rw [List.map_append]
        exact EK.row_fr hrow4 F5 (EK.row_ne_of hrow4 hal4 (by decide)), F5.obj hr4 (by omega), hb4.trans (F5.below _ hb4.size (fun j hj e => by omega))⟩)
      have x0 := obj_cell hal2 0
      have x4 := obj_cell hal4 0
      have t4 := obj_frozen hal4 0
      simp only [List.getElem?_toArray, List.getElem?_cons_zero] at x0 x4
      clear hfk hnx hrg2 hf2 hs2 hrg3 hrow2 hrow3 hrow4 hb2 hb3 hf4 hbl4 hrg4 hb4 happ hen hrow hrg hb hcnt hal hal2 hal3 hal4 hr1 hr2 hr3 hr4 F5 hrg5 hbl3 hm hsz y0 hne
      go_wp2_with fail
      rw [HNX.out]
      go_wp2_with (refine wpList_append_run (v' := .slice A4 (m + 1) c4) (w' := w4) rfl (.tmp 22) (.tmp 24) 54 54 rfl rfl rfl ?_ ?_; exact HAPP.out)
      exact ⟨HRES.out, by omega⟩
end Go.Proofs.Ythcnoamgkkbkcaa
