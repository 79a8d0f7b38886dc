/- Chapter 14, calls: the reference: Answer. -/
import Derived.Test.YthcnoamgkkbkcaaCaR2
namespace Go.Proofs.Ythcnoamgkkbkcaa
open Go.RowKit

set_option maxHeartbeats 16000000 in
set_option maxRecDepth 100000 in
theorem ranswer_any {w : World} {B : Nat} {S : CS} {v : Value} (h : RC w B S v) (hB : B ≤ w.heap.size) (hs : S.L.Pairwise fun a b => a.id < b.id) (hl : S.L.length ≤ 65536) (m : Mg) :
    Calls Try.prog 21 #[v, .agg (mgC m)] w fun e w' => ∃ v', e = .returned (.tuple #[v', .bool (cAnswer S m).2]) ∧ RC w' B (cAnswer S m).1 v' ∧ Below w.heap.size w w' := by
  obtain ⟨u, rfl, hu⟩ := h
  obtain ⟨A, c, rfl⟩ := EK.row_slice hu
  obtain ⟨me, nx, L⟩ := S
  obtain ⟨mk, mf, mt, mi, mb⟩ := m
  unfold rC mgC
  simp only at hu hl hs ⊢
  obtain ⟨n, hn⟩ : ∃ n, n = L.length := ⟨_, rfl⟩
  have hal := (((Below.refl w.heap.size w).alloc (Nat.le_refl _) (.cells #[.int .i64 me, .int .i64 nx, .slice A L.length c] 29)).alloc (by simp) (.cells #[.int .i64 mk, .int .i64 mf, .int .i64 mt, .int .i64 mi, .string mb] 32)).alloc (by simp only [World.size_alloc]; omega) (.cells #[.int .i64 0, .int .i64 0, .slice none 0 0] 29)
  have HB := hide hal
  have HO := hide (obj_alloc (obj_alloc (obj_new w (.cells #[.int .i64 me, .int .i64 nx, .slice A L.length c] 29)) (.cells #[.int .i64 mk, .int .i64 mf, .int .i64 mt, .int .i64 mi, .string mb] 32)) (.cells #[.int .i64 0, .int .i64 0, .slice none 0 0] 29))
  have HM := hide (obj_alloc (obj_new' w (.cells #[.int .i64 me, .int .i64 nx, .slice A L.length c] 29) (.cells #[.int .i64 mk, .int .i64 mf, .int .i64 mt, .int .i64 mi, .string mb] 32)) (.cells #[.int .i64 0, .int .i64 0, .slice none 0 0] 29))
  have HP := hide (obj_new' (w.alloc (.cells #[.int .i64 me, .int .i64 nx, .slice A L.length c] 29)) (.cells #[.int .i64 mk, .int .i64 mf, .int .i64 mt, .int .i64 mi, .string mb] 32) (.cells #[.int .i64 0, .int .i64 0, .slice none 0 0] 29))
  rw [World.size_alloc] at HP
  have hu1 := EK.row_below hu hal
  have hst := fun (w1 : World) (h1 : w1.heap[w.heap.size + 1 + 1]? = some (.cells #[.int .i64 0, .int .i64 0, .slice none 0 0] 29 (0, 0))) => store_whole (P := Try.prog) (ty := 29) h1 (cells := #[.int .i64 me, .int .i64 nx, .slice A L.length c]) info29 rfl (by simp [Value.oneCell'])
  have hfin := fun (w1 : World) (hbb : Below w.heap.size w w1) (hp : w1.heap[w.heap.size + 1 + 1]? = some (.cells #[.int .i64 0, .int .i64 0, .slice none 0 0] 29 (0, 0))) => show RC (w1.setRow (w.heap.size + 1 + 1) #[.int .i64 me, .int .i64 nx, .slice A L.length c]) B ⟨me, nx, L⟩ (.agg #[.int .i64 me, .int .i64 nx, .slice A L.length c]) ∧ Below w.heap.size w (w1.setRow (w.heap.size + 1 + 1) #[.int .i64 me, .int .i64 nx, .slice A L.length c]) from
    ⟨⟨_, rfl, EK.row_fr (EK.row_below hu hbb) (setRow_fr' w1 (w.heap.size + 1 + 1) #[.int .i64 me, .int .i64 nx, .slice A L.length c]) (EK.row_ne_of (EK.row_below hu hbb) hp (by decide))⟩, hbb.trans ((setRow_fr' w1 (w.heap.size + 1 + 1) _).below _ hbb.size (fun j hj e => by omega))⟩
  have HFA := hide (rfind_any hu1 hl me nx mi)
  have HFN := hide (fun h0 => rfind_none hu1 hl me nx (id := mi) h0)
  have HFS := hide (fun k h0 => rfind_some hu1 hl hs me nx (id := mi) (k := k) h0)
  have HST := hide hst
  have HFIN := hide hfin
  rw [← hn] at HFA HFN HFS hl hu HST HFIN HO HP HM HB ⊢
  have HU := hide hu
  have HN := hide hn
  have HS := hide hs
  have hni : (n : Int) ≤ 65536 := by omega
  have HBS := hide hB
  unfold cAnswer
  simp only
  clear hu hu1 hs hal hn hl hst hfin hB
  by_cases h1 : mk = 2
  rotate_left
  · rw [if_neg (fun hh => h1 hh.1)]
    simp only
    have h1' : (mk != 2) = true := by simpa using h1
    clear h1
    go_enter Try.func21, Try.ntmps21
    go_wp2_with fail
    refine HFA.out.mono ?_
    rintro e w1 ⟨r, rfl, -, hb1⟩
    have hbb := HB.out.trans (hb1.mono HB.out.size)
    have HO1 := hide (obj_below HO.out hb1)
    have HM1 := hide (obj_below HM.out hb1)
    have HP1 := hide (obj_below HP.out hb1)
    have z0 := obj_cell HO1.out 0
    have z1 := obj_cell HO1.out 1
    have z2 := obj_cell HO1.out 2
    simp only [List.getElem?_toArray, List.getElem?_cons_zero, List.getElem?_cons_succ] at z0 z1 z2
    have y0 := obj_cell HM1.out 0
    have y1 := obj_cell HM1.out 1
    have y2 := obj_cell HM1.out 2
    have y3 := obj_cell HM1.out 3
    have y4 := obj_cell HM1.out 4
    simp only [List.getElem?_toArray, List.getElem?_cons_zero, List.getElem?_cons_succ] at y0 y1 y2 y3 y4
    have HBB := hide hbb
    clear hb1 hbb
    go_wp2_with fail
    go_quiet (fail)
    rename Nat => nq
    have hbq := below_drewN (Below.refl w1.heap.size w1) nq
    generalize w1.drewN nq = wq at hbq ⊢
    have HP2 := hide (obj_below HP1.out hbq)
    have HOO := hide (setRow_at' (C' := #[.int .i64 me, .int .i64 nx, .slice A n c]) HP2.out)
    have HBQ := hide (HBB.out.trans (hbq.mono HBB.out.size))
    have om := obj_below HO1.out hbq
    clear z0 z1 z2 y0 y1 y2 y3 y4
    have z0 := obj_cell om 0
    have z1 := obj_cell om 1
    have z2 := obj_cell om 2
    simp only [List.getElem?_toArray, List.getElem?_cons_zero, List.getElem?_cons_succ] at z0 z1 z2
    clear hbq om
    go_wp2_with (refine wpList_storev' rfl 29 (.tmp 4) (.tmp 46) rfl rfl rfl (HST.out _ HP2.out) ?_)
    refine bodyPost_ret (res_ct rfl _ _ (w.heap.size + 1 + 1) 29 _ (0, 0) _ rfl HOO.out Try.underlying29 rfl info29) rfl ?_
    have HX := HFIN.out _ HBQ.out HP2.out
    refine ⟨_, ?_, HX⟩
    rfl
  by_cases h2 : mt = me
  rotate_left
  · rw [if_neg (fun hh => h2 hh.2)]
    simp only
    have h2' : (mt != me) = true := by simpa using h2
    subst h1
    clear h2
    go_enter Try.func21, Try.ntmps21
    go_wp2_with fail
    refine HFA.out.mono ?_
    rintro e w1 ⟨r, rfl, -, hb1⟩
    have hbb := HB.out.trans (hb1.mono HB.out.size)
    have HO1 := hide (obj_below HO.out hb1)
    have HM1 := hide (obj_below HM.out hb1)
    have HP1 := hide (obj_below HP.out hb1)
    have z0 := obj_cell HO1.out 0
    have z1 := obj_cell HO1.out 1
    have z2 := obj_cell HO1.out 2
    simp only [List.getElem?_toArray, List.getElem?_cons_zero, List.getElem?_cons_succ] at z0 z1 z2
    have y0 := obj_cell HM1.out 0
    have y1 := obj_cell HM1.out 1
    have y2 := obj_cell HM1.out 2
    have y3 := obj_cell HM1.out 3
    have y4 := obj_cell HM1.out 4
    simp only [List.getElem?_toArray, List.getElem?_cons_zero, List.getElem?_cons_succ] at y0 y1 y2 y3 y4
    have HBB := hide hbb
    clear hb1 hbb
    go_wp2_with fail
    go_quiet (fail)
    rename Nat => nq
    have hbq := below_drewN (Below.refl w1.heap.size w1) nq
    generalize w1.drewN nq = wq at hbq ⊢
    have HP2 := hide (obj_below HP1.out hbq)
    have HOO := hide (setRow_at' (C' := #[.int .i64 me, .int .i64 nx, .slice A n c]) HP2.out)
    have HBQ := hide (HBB.out.trans (hbq.mono HBB.out.size))
    have om := obj_below HO1.out hbq
    clear z0 z1 z2 y0 y1 y2 y3 y4
    have z0 := obj_cell om 0
    have z1 := obj_cell om 1
    have z2 := obj_cell om 2
    simp only [List.getElem?_toArray, List.getElem?_cons_zero, List.getElem?_cons_succ] at z0 z1 z2
    clear hbq om
    go_wp2_with (refine wpList_storev' rfl 29 (.tmp 4) (.tmp 46) rfl rfl rfl (HST.out _ HP2.out) ?_)
    refine bodyPost_ret (res_ct rfl _ _ (w.heap.size + 1 + 1) 29 _ (0, 0) _ rfl HOO.out Try.underlying29 rfl info29) rfl ?_
    have HX := HFIN.out _ HBQ.out HP2.out
    refine ⟨_, ?_, HX⟩
    rfl
  rw [if_pos ⟨h1, h2⟩]
  subst h1
  have h2 := h2.symm
  subst h2
  rcases e0 : fnd L mi with _ | k
  · simp only
    have HFI := hide (HFN.out e0)
    clear e0 HFN HFS HFA
    go_enter Try.func21, Try.ntmps21
    go_wp2_with fail
    refine HFI.out.mono ?_
    rintro e w1 ⟨rfl, hb1⟩
    have hbb := HB.out.trans (hb1.mono HB.out.size)
    have HO1 := hide (obj_below HO.out hb1)
    have HM1 := hide (obj_below HM.out hb1)
    have HP1 := hide (obj_below HP.out hb1)
    have z0 := obj_cell HO1.out 0
    have z1 := obj_cell HO1.out 1
    have z2 := obj_cell HO1.out 2
    simp only [List.getElem?_toArray, List.getElem?_cons_zero, List.getElem?_cons_succ] at z0 z1 z2
    have y0 := obj_cell HM1.out 0
    have y1 := obj_cell HM1.out 1
    have y2 := obj_cell HM1.out 2
    have y3 := obj_cell HM1.out 3
    have y4 := obj_cell HM1.out 4
    simp only [List.getElem?_toArray, List.getElem?_cons_zero, List.getElem?_cons_succ] at y0 y1 y2 y3 y4
    have HBB := hide hbb
    clear hb1 hbb
    go_wp2_with fail
    go_quiet (fail)
    rename Nat => nq
    have hbq := below_drewN (Below.refl w1.heap.size w1) nq
    generalize w1.drewN nq = wq at hbq ⊢
    have HP2 := hide (obj_below HP1.out hbq)
    have HOO := hide (setRow_at' (C' := #[.int .i64 me, .int .i64 nx, .slice A n c]) HP2.out)
    have HBQ := hide (HBB.out.trans (hbq.mono HBB.out.size))
    have om := obj_below HO1.out hbq
    clear z0 z1 z2 y0 y1 y2 y3 y4
    have z0 := obj_cell om 0
    have z1 := obj_cell om 1
    have z2 := obj_cell om 2
    simp only [List.getElem?_toArray, List.getElem?_cons_zero, List.getElem?_cons_succ] at z0 z1 z2
    clear hbq om
    go_wp2_with (refine wpList_storev' rfl 29 (.tmp 4) (.tmp 46) rfl rfl rfl (HST.out _ HP2.out) ?_)
    refine bodyPost_ret (res_ct rfl _ _ (w.heap.size + 1 + 1) 29 _ (0, 0) _ rfl HOO.out Try.underlying29 rfl info29) rfl ?_
    have HX := HFIN.out _ HBQ.out HP2.out
    refine ⟨_, ?_, HX⟩
    rfl
  · simp only
    have HFI := hide (HFS.out k e0)
    have HKID := hide (fnd_some e0).2
    by_cases h3 : k.st = 1
    rotate_left
    · rw [if_neg (fun hh => h3 hh.1)]
      simp only
      have h3' : (k.st != 1) = true := by simpa using h3
      clear e0 HFN HFS HFA h3
      go_enter Try.func21, Try.ntmps21
      go_wp2_with fail
      refine HFI.out.mono ?_
      rintro e w1 ⟨j, rfl, hk, hb1⟩
      obtain ⟨hj, hk⟩ := List.getElem?_eq_some_iff.1 hk
      have hbb := HB.out.trans (hb1.mono HB.out.size)
      have HO1 := hide (obj_below HO.out hb1)
      have HM1 := hide (obj_below HM.out hb1)
      have HP1 := hide (obj_below HP.out hb1)
      have z0 := obj_cell HO1.out 0
      have z1 := obj_cell HO1.out 1
      have z2 := obj_cell HO1.out 2
      simp only [List.getElem?_toArray, List.getElem?_cons_zero, List.getElem?_cons_succ] at z0 z1 z2
      have y0 := obj_cell HM1.out 0
      have y1 := obj_cell HM1.out 1
      have y2 := obj_cell HM1.out 2
      have y3 := obj_cell HM1.out 3
      have y4 := obj_cell HM1.out 4
      simp only [List.getElem?_toArray, List.getElem?_cons_zero, List.getElem?_cons_succ] at y0 y1 y2 y3 y4
      have HBB := hide hbb
      have hu1 := EK.row_below HU.out hbb
      obtain ⟨r0, cap, e1, hz1, hz2, -, -, hcell⟩ := EK.row_cells hu1 hj
      rw [← HN.out] at e1 hz1
      injection e1 with e1a e1b e1c
      subst e1a e1c
      simp only [maxLen] at hz2
      have q1 := hcell 1 (by decide)
      have q2 := hcell 2 (by decide)
      rw [hk] at q1 q2
      simp only [kK, List.getElem?_cons_zero, List.getElem?_cons_succ] at q1 q2
      have hjn : (j : Int) < (n : Int) := by have := HN.out; omega
      have hj0 : ¬ (j : Int) < 0 := by omega
      have hj0' : decide ((j : Int) < 0) = false := decide_eq_false hj0
      generalize k.st = xst at q2 h3'
      clear hb1 hbb hcell hk e1b hu1 q1
      go_wp2_with fail
      go_quiet (fail)
      rename Nat => nq
      have hbq := below_drewN (Below.refl w1.heap.size w1) nq
      generalize w1.drewN nq = wq at hbq ⊢
      have HP2 := hide (obj_below HP1.out hbq)
      have HOO := hide (setRow_at' (C' := #[.int .i64 me, .int .i64 nx, .slice (some ⟨r0, 0, none⟩) n c]) HP2.out)
      have HBQ := hide (HBB.out.trans (hbq.mono HBB.out.size))
      have om := obj_below HO1.out hbq
      clear z0 z1 z2 y0 y1 y2 y3 y4
      have z0 := obj_cell om 0
      have z1 := obj_cell om 1
      have z2 := obj_cell om 2
      simp only [List.getElem?_toArray, List.getElem?_cons_zero, List.getElem?_cons_succ] at z0 z1 z2
      clear hbq om
      go_wp2_with (refine wpList_storev' rfl 29 (.tmp 4) (.tmp 46) rfl rfl rfl (HST.out _ HP2.out) ?_)
      refine bodyPost_ret (res_ct rfl _ _ (w.heap.size + 1 + 1) 29 _ (0, 0) _ rfl HOO.out Try.underlying29 rfl info29) rfl ?_
      have HX := HFIN.out _ HBQ.out HP2.out
      refine ⟨_, ?_, HX⟩
      rfl
    by_cases h4 : k.dst = mf
    rotate_left
    · rw [if_neg (fun hh => h4 hh.2)]
      simp only
      have h4' : (k.dst != mf) = true := by simpa using h4
      clear e0 HFN HFS HFA h4
      go_enter Try.func21, Try.ntmps21
      go_wp2_with fail
      refine HFI.out.mono ?_
      rintro e w1 ⟨j, rfl, hk, hb1⟩
      obtain ⟨hj, hk⟩ := List.getElem?_eq_some_iff.1 hk
      have hbb := HB.out.trans (hb1.mono HB.out.size)
      have HO1 := hide (obj_below HO.out hb1)
      have HM1 := hide (obj_below HM.out hb1)
      have HP1 := hide (obj_below HP.out hb1)
      have z0 := obj_cell HO1.out 0
      have z1 := obj_cell HO1.out 1
      have z2 := obj_cell HO1.out 2
      simp only [List.getElem?_toArray, List.getElem?_cons_zero, List.getElem?_cons_succ] at z0 z1 z2
      have y0 := obj_cell HM1.out 0
      have y1 := obj_cell HM1.out 1
      have y2 := obj_cell HM1.out 2
      have y3 := obj_cell HM1.out 3
      have y4 := obj_cell HM1.out 4
      simp only [List.getElem?_toArray, List.getElem?_cons_zero, List.getElem?_cons_succ] at y0 y1 y2 y3 y4
      have HBB := hide hbb
      have hu1 := EK.row_below HU.out hbb
      obtain ⟨r0, cap, e1, hz1, hz2, -, -, hcell⟩ := EK.row_cells hu1 hj
      rw [← HN.out] at e1 hz1
      injection e1 with e1a e1b e1c
      subst e1a e1c
      simp only [maxLen] at hz2
      have q1 := hcell 1 (by decide)
      have q2 := hcell 2 (by decide)
      rw [hk] at q1 q2
      simp only [kK, List.getElem?_cons_zero, List.getElem?_cons_succ] at q1 q2
      have hjn : (j : Int) < (n : Int) := by have := HN.out; omega
      have hj0 : ¬ (j : Int) < 0 := by omega
      have hj0' : decide ((j : Int) < 0) = false := decide_eq_false hj0
      rw [h3] at q2
      generalize k.dst = xdst at q1 h4'
      clear hb1 hbb hcell hk e1b hu1 h3
      go_wp2_with fail
      go_quiet (fail)
      rename Nat => nq
      have hbq := below_drewN (Below.refl w1.heap.size w1) nq
      generalize w1.drewN nq = wq at hbq ⊢
      have HP2 := hide (obj_below HP1.out hbq)
      have HOO := hide (setRow_at' (C' := #[.int .i64 me, .int .i64 nx, .slice (some ⟨r0, 0, none⟩) n c]) HP2.out)
      have HBQ := hide (HBB.out.trans (hbq.mono HBB.out.size))
      have om := obj_below HO1.out hbq
      clear z0 z1 z2 y0 y1 y2 y3 y4
      have z0 := obj_cell om 0
      have z1 := obj_cell om 1
      have z2 := obj_cell om 2
      simp only [List.getElem?_toArray, List.getElem?_cons_zero, List.getElem?_cons_succ] at z0 z1 z2
      clear hbq om
      go_wp2_with (refine wpList_storev' rfl 29 (.tmp 4) (.tmp 46) rfl rfl rfl (HST.out _ HP2.out) ?_)
      refine bodyPost_ret (res_ct rfl _ _ (w.heap.size + 1 + 1) 29 _ (0, 0) _ rfl HOO.out Try.underlying29 rfl info29) rfl ?_
      have HX := HFIN.out _ HBQ.out HP2.out
      refine ⟨_, ?_, HX⟩
      rfl
    rw [if_pos ⟨h3, h4⟩]
    simp only
    clear e0 HFN HFS HFA
    go_enter Try.func21, Try.ntmps21
    go_wp2_with fail
    refine HFI.out.mono ?_
    rintro e w1 ⟨j, rfl, hk, hb1⟩
    obtain ⟨hj, hk⟩ := List.getElem?_eq_some_iff.1 hk
    have hbb := HB.out.trans (hb1.mono HB.out.size)
    have HO1 := hide (obj_below HO.out hb1)
    have HM1 := hide (obj_below HM.out hb1)
    have HP1 := hide (obj_below HP.out hb1)
    have z0 := obj_cell HO1.out 0
    have z1 := obj_cell HO1.out 1
    have z2 := obj_cell HO1.out 2
    simp only [List.getElem?_toArray, List.getElem?_cons_zero, List.getElem?_cons_succ] at z0 z1 z2
    have y0 := obj_cell HM1.out 0
    have y1 := obj_cell HM1.out 1
    have y2 := obj_cell HM1.out 2
    have y3 := obj_cell HM1.out 3
    have y4 := obj_cell HM1.out 4
    simp only [List.getElem?_toArray, List.getElem?_cons_zero, List.getElem?_cons_succ] at y0 y1 y2 y3 y4
    have HBB := hide hbb
    have hu1 := EK.row_below HU.out hbb
    obtain ⟨r0, cap, e1, hz1, hz2, -, -, hcell⟩ := EK.row_cells hu1 hj
    rw [← HN.out] at e1 hz1
    injection e1 with e1a e1b e1c
    subst e1a e1c
    simp only [maxLen] at hz2
    have q1 := hcell 1 (by decide)
    have q2 := hcell 2 (by decide)
    rw [hk] at q1 q2
    simp only [kK, List.getElem?_cons_zero, List.getElem?_cons_succ] at q1 q2
    have hjn : (j : Int) < (n : Int) := by have := HN.out; omega
    have hj0 : ¬ (j : Int) < 0 := by omega
    have hj0' : decide ((j : Int) < 0) = false := decide_eq_false hj0
    rw [h3] at q2
    rw [h4] at q1
    have HK := hide hk
    have HJ := hide hj
    have HU1 := hide hu1
    clear hb1 hbb hcell hk e1b hu1 h3 h4
    go_wp2_with fail
    go_quiet (fail)
    rename Nat => nq
    have hbq := below_drewN (Below.refl w1.heap.size w1) nq
    generalize w1.drewN nq = wq at hbq ⊢
    have hO2 := obj_below HO1.out hbq
    have hM2 := obj_below HM1.out hbq
    have hP2 := obj_below HP1.out hbq
    have hBQ := HBB.out.trans (hbq.mono HBB.out.size)
    obtain ⟨v2, w2, happ, hrow2, hf2, -⟩ := EK.app (EK.row_nil (K := kK) wq wq.heap.size) (EK.row_rd (EK.row_below HU1.out hbq)) (by simp; have := HN.out; omega) (Nat.le_refl _) 27
    rw [List.nil_append] at hrow2
    have hB2 : Below wq.heap.size wq w2 := hf2.below _ (Nat.le_refl _) (fun i _ e => by cases e)
    obtain ⟨r2, c2, e2, hy1, hy2, hr2, -, hcell2⟩ := EK.row_cells hrow2 HJ.out
    rw [← HN.out] at e2 hy1
    simp only [maxLen] at hy2
    have hO3 := obj_below hO2 hB2
    have hM3 := obj_below hM2 hB2
    have hP3 := obj_below hP2 hB2
    have hbsz : w.heap.size + 1 + 1 < wq.heap.size := obj_lt hP2
    subst e2
    have p2 := hcell2 2 (by decide)
    have p6 := hcell2 6 (by decide)
    rw [HK.out] at p2 p6
    simp only [kK, List.getElem?_cons_zero, List.getElem?_cons_succ] at p2 p6
    have tf2 := EK.row_frozen hrow2 (j * 7 + 2)
    have tf6 := EK.row_frozen hrow2 (j * 7 + 6)
    have HAPP : Hid ((Builtin.append_ #[27, 27] 27 #[.slice none 0 0, .slice (some ⟨r0, 0, none⟩) n c]).run Try.prog wq = .ok (.slice (some ⟨r2, 0, none⟩) n c2) w2) := hide happ
    have F3 := (Fr.refl (fun i => i = r2) w2).setCell (p := ⟨r2, j * 7 + 2, none⟩) (fun _ => rfl) (.int .i64 2)
    have F4 := F3.setCell (p := ⟨r2, j * 7 + 6, none⟩) (fun _ => rfl) (.string mb)
    have s3 := EK.row_set (K := kK) hrow2 HJ.out (j := 2) (by decide) { L[j]'HJ.out with st := 2 } (.int .i64 2) rfl
    have s4 := EK.row_set (K := kK) s3 (k := j) (by rw [List.length_set]; exact HJ.out) (j := 6) (by decide) { L[j]'HJ.out with st := 2, rep := mb } (.string mb) (by rw [List.getElem_set_self]; rfl)
    rw [List.set_set] at s4
    have hset : L.set j { L[j]'HJ.out with st := 2, rep := mb } = upd L mi (ansG mb) := by
      rw [← HKID.out, ← HK.out, upd_set HS.out HJ.out]
      rfl
    rw [hset] at s4
    simp only [kK] at F3 F4 s3 s4
    generalize hw4 : (w2.setCell ⟨r2, j * 7 + 2, none⟩ (.int .i64 2)).setCell ⟨r2, j * 7 + 6, none⟩ (.string mb) = w4 at F4 s4
    have hne0 : ¬ w.heap.size = r2 := by omega
    have hne1 : ¬ w.heap.size + 1 = r2 := by omega
    have hne2 : ¬ w.heap.size + 1 + 1 = r2 := by omega
    have hO4 := F4.obj hO3 hne0
    have hP4 := F4.obj hP3 hne2
    have hB4 := (hBQ.trans (hB2.mono hBQ.size)).trans (F4.below _ (by have := hBQ.size; have := hB2.size; omega) (fun i hi e => by omega))
    have F5 := (Fr.refl (fun i => i = w.heap.size) w4).setCell (p := ⟨w.heap.size, 2, none⟩) (fun _ => rfl) (.slice (some ⟨r2, 0, none⟩) n c2)
    have hO5 := obj_set hO4 2 (.slice (some ⟨r2, 0, none⟩) n c2)
    have hP5 := F5.obj hP4 (by omega)
    have s5 := EK.row_fr s4 F5 (fun i hi e => by rw [show i = r2 from (by injection hi with hi; exact hi.symm)] at e; omega)
    have hB5 := hB4.trans (F5.below _ hB4.size (fun i hi e => by omega))
    simp only [List.setIfInBounds_toArray, List.set_cons_succ, List.set_cons_zero] at hO5
    have HST2 := hide (store_whole (P := Try.prog) (ty := 29) hP5 (cells := #[.int .i64 me, .int .i64 nx, .slice (some ⟨r2, 0, none⟩) n c2]) info29 rfl (by simp [Value.oneCell']))
    have F6 := setRow_fr' (w4.setCell ⟨w.heap.size, 2, none⟩ (.slice (some ⟨r2, 0, none⟩) n c2)) (w.heap.size + 1 + 1) #[.int .i64 me, .int .i64 nx, .slice (some ⟨r2, 0, none⟩) n c2]
    have HFIN2 := hide (show RC ((w4.setCell ⟨w.heap.size, 2, none⟩ (.slice (some ⟨r2, 0, none⟩) n c2)).setRow (w.heap.size + 1 + 1) #[.int .i64 me, .int .i64 nx, .slice (some ⟨r2, 0, none⟩) n c2]) B ⟨me, nx, upd L mi (ansG mb)⟩ (.agg #[.int .i64 me, .int .i64 nx, .slice (some ⟨r2, 0, none⟩) n c2]) ∧ Below w.heap.size w ((w4.setCell ⟨w.heap.size, 2, none⟩ (.slice (some ⟨r2, 0, none⟩) n c2)).setRow (w.heap.size + 1 + 1) #[.int .i64 me, .int .i64 nx, .slice (some ⟨r2, 0, none⟩) n c2]) from
      ⟨⟨_, rfl, EK.row_base (EK.row_fr s5 F6 (fun i hi e => by rw [show i = r2 from (by injection hi with hi; exact hi.symm)] at e; omega)) (by have := HBS.out; have := hBQ.size; omega)⟩, hB5.trans (F6.below _ hB5.size (fun i hi e => by omega))⟩)
    have HOO := hide (setRow_at' (C' := #[.int .i64 me, .int .i64 nx, .slice (some ⟨r2, 0, none⟩) n c2]) hP5)
    have HO5 := hide hO5
    have HW4 := hide hw4
    clear z0 z1 z2 y0 y1 y2 y3 y4 q1 q2
    have z2 := obj_cell hO2 2
    have y4 := obj_cell hM3 4
    have x0 := obj_cell hO4 0
    have x1 := obj_cell hO4 1
    have x2 := obj_cell hO4 2
    have tx := obj_frozen hO4 2
    simp only [List.getElem?_toArray, List.getElem?_cons_zero, List.getElem?_cons_succ] at z2 y4 x0 x1 x2
    have k0 := obj_cell hO5 0
    have k1 := obj_cell hO5 1
    have k2 := obj_cell hO5 2
    simp only [List.getElem?_toArray, List.getElem?_cons_zero, List.getElem?_cons_succ] at k0 k1 k2
    have y4' := (F3.obj hM3 hne1)
    have y4 := obj_cell y4' 4
    simp only [List.getElem?_toArray, List.getElem?_cons_zero, List.getElem?_cons_succ] at y4
    have p6' : (w2.setCell ⟨r2, j * 7 + 2, none⟩ (.int .i64 2)).cell? ⟨r2, j * 7 + 6, none⟩ = some (.string k.rep) := by
      obtain ⟨r3, c3, e3, -, -, -, -, hcell3⟩ := EK.row_cells s3 (k := j) (by rw [List.length_set]; exact HJ.out)
      injection e3 with e3
      injection e3 with e3
      injection e3 with e3
      subst e3
      have := hcell3 6 (by decide)
      rw [List.getElem_set_self] at this
      rw [← HK.out]
      exact this
    have tf6' := EK.row_frozen s3 (j * 7 + 6)
    clear happ hrow2 hf2 hB2 hcell2 hO2 hM2 hP2 hBQ hO3 hM3 hP3 F3 F4 s3 s4 hO4 hP4 hB4 F5 hO5 hP5 s5 hB5 F6 hset y4' hbq tf6 p6 hr2
    go_wp2_with (first | (refine wpList_append_run (v' := .slice (some ⟨r2, 0, none⟩) n c2) (w' := w2) rfl (.const (.slice none 0 0)) (.tmp 48) 27 27 rfl rfl rfl ?_ ?_; exact HAPP.out) | (refine wpList_storev' (w' := (w4.setCell ⟨w.heap.size, 2, none⟩ (.slice (some ⟨r2, 0, none⟩) n c2)).setRow (w.heap.size + 1 + 1) #[.int .i64 me, .int .i64 nx, .slice (some ⟨r2, 0, none⟩) n c2]) rfl 29 (.tmp 4) (.tmp 62) rfl rfl rfl ?_ ?_; exact HST2.out))
    refine bodyPost_ret (res_ct rfl _ _ (w.heap.size + 1 + 1) 29 _ (0, 0) _ rfl HOO.out Try.underlying29 rfl info29) rfl ?_
    have HX := HFIN2.out
    refine ⟨_, ?_, HX⟩
    rfl
end Go.Proofs.Ythcnoamgkkbkcaa
