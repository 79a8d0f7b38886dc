/- Chapter 15, replies: Take. -/
import Derived.Test.YthcnoamgkkbkcaaRp4
namespace Go.Proofs.Ythcnoamgkkbkcaa
open Go.RowKit

theorem takeR_nil (c id : Int) (w : World) : Calls Try.prog 37 #[.pointer none, .int .i64 c, .int .i64 id] w fun e w' => e = .returned (.tuple #[.int .i64 0, .string ⟨#[]⟩]) ∧ w = w' := by
  go_enter Try.func37, Try.ntmps37
  go_wp2
  go_ret2
  exact ⟨rfl, rfl⟩
theorem rTake_no {S : RS} {c id : Int} (hm : mayR c id) (hn : ∀ e, (S.L c)[ahd (S.L c) id]? = some e → e.id ≠ id) :
    rTake S c id = if ((S.L c).length : Int) = S.room ∧ ahd (S.L c) id = 0 then (S, 4, ByteArray.empty) else (⟨S.room, setL S.L c (lastOf S.room (putIn (S.L c) id))⟩, 1, ByteArray.empty) := by
  unfold rTake
  rw [if_pos hm]
  rcases e0 : (S.L c)[ahd (S.L c) id]? with _ | e
  · rfl
  · simp only
    rw [if_neg (hn e e0)]
theorem isAt_no {l : List En} {id : Int} (hn : ∀ e, l[ahd l id]? = some e → e.id ≠ id) : isAt l id = false := by
  rcases e0 : l[ahd l id]? with _ | e
  · exact isAt_none e0
  · rw [isAt_some e0]
    simpa using hn e e0
set_option maxHeartbeats 8000000 in
set_option maxRecDepth 100000 in
theorem takeR_new {w : World} {B g cm : Nat} {S : RS} {f : Int → Option Value} (h : RV w B g cm S f) (hk : ROk S) (c id : Int) (hm : mayR c id) (hn : ∀ e, (S.L c)[ahd (S.L c) id]? = some e → e.id ≠ id) :
    Calls Try.prog 37 #[.pointer (some ⟨g, 0, none⟩), .int .i64 c, .int .i64 id] w fun e w' => e = .returned (.tuple #[.int .i64 (rTake S c id).2.1, .string (rTake S c id).2.2]) ∧ RA w B g cm f (rTake S c id).1 w' := by
  rw [rTake_no hm hn]
  have HMR := hide (fun W => mayR_any c id W)
  rw [decide_eq_true hm] at HMR
  have HSELF := hide (fun (W : World) (hb : Below w.heap.size w W) => h.self hk hb)
  have HFI := hide (findR_any h hk c id (by have := hm.2.2; omega))
  rw [isAt_no hn] at HFI
  have HTK := hide (hk.take hm hn)
  have hlen := hk.len c
  have hroom := hk.room
  have hile := ahd_le (S.L c) id
  obtain ⟨i, hi⟩ : ∃ i, i = ahd (S.L c) id := ⟨_, rfl⟩
  obtain ⟨l, hl⟩ : ∃ l, l = S.L c := ⟨_, rfl⟩
  have hpi : putIn (S.L c) id = l.take i ++ ⟨id, true, ByteArray.empty⟩ :: l.drop i := by rw [hi, hl]; rfl
  rw [hpi] at HTK ⊢
  rw [← hi] at HFI hile ⊢
  rw [← hl] at hlen hile ⊢
  obtain ⟨n, hnn⟩ : ∃ n, n = l.length := ⟨_, rfl⟩
  rw [← hnn] at hlen hile ⊢
  obtain ⟨rm, hrm⟩ : ∃ r, r = S.room := ⟨_, rfl⟩
  rw [← hrm] at hlen hroom HTK ⊢
  have HV := hide h
  have HL := hide hl
  have HN := hide hnn
  have HRM := hide hrm
  clear h hk hm hn hi hl hpi hnn hrm
  by_cases hfull : (n : Int) = rm ∧ i = 0
  · rw [if_pos hfull]
    simp only
    obtain ⟨h1, h2⟩ := hfull
    subst h2
    clear hlen hroom hile
    go_enter Try.func37, Try.ntmps37
    go_wp2_with fail
    refine (HMR.out _).mono ?_
    rintro e w1 ⟨rfl, rfl⟩
    go_wp2_with fail
    refine HFI.out.mono ?_
    rintro e w1 ⟨rfl, hb1⟩
    have hv1 := HV.out.below hb1
    have z0 := obj_cell hv1.o 0
    have z1 := obj_cell hv1.o 1
    simp only [List.getElem?_toArray, List.getElem?_cons_zero, List.getElem?_cons_succ, ← HRM.out] at z0 z1
    have hlk := hv1.look c
    obtain ⟨A, cc, e1, -, -⟩ := EK.sg_slice (hv1.sg c)
    rw [← HL.out, ← HN.out] at e1
    rw [e1] at hlk
    rw [← h1] at z0
    have HB1 := hide hb1
    clear hb1 hv1 e1 h1
    go_wp2
    go_ret2
    exact ⟨rfl, HSELF.out _ HB1.out⟩
  · rw [if_neg hfull]
    simp only
    have HFU := hide hfull
    clear hfull
    go_enter Try.func37, Try.ntmps37
    go_wp2_with fail
    refine (HMR.out _).mono ?_
    rintro e w1 ⟨rfl, rfl⟩
    go_wp2_with fail
    refine HFI.out.mono ?_
    rintro e w1 ⟨rfl, hb1⟩
    have hv1 := HV.out.below hb1
    have z0 := obj_cell hv1.o 0
    have z1 := obj_cell hv1.o 1
    simp only [List.getElem?_toArray, List.getElem?_cons_zero, List.getElem?_cons_succ, ← HRM.out] at z0 z1
    have hlk := hv1.look c
    have hal := (Below.refl w1.heap.size w1).alloc (Nat.le_refl _) (.cells #[.int .i64 id, .bool true, .string ⟨#[]⟩] 116)
    have hv2 := hv1.below hal
    have hsg := hv2.sg c
    rw [← HL.out] at hsg
    obtain ⟨A, cc, e1, -, -⟩ := EK.sg_slice hsg
    rw [← HN.out] at e1
    rw [e1] at hlk
    have HINS := hide (insert_any hsg (by rw [← HN.out]; omega) hv2.bsz (i := i) (by rw [← HN.out]; exact hile) (q := ⟨id, true, ByteArray.empty⟩) (vb := w1.heap.size) (obj_new w1 _) (fun e => by
      have h3 := (EK.sg_typed (hv1.sg c) e).2.1
      omega))
    rw [e1] at HINS
    have HV2 := hide hv2
    have HE1 := hide e1
    have HB1 := hide hb1
    have HAL := hide hal
    have HBW := hide (hb1.trans (hal.mono hb1.size))
    clear hb1 hal hv1 hsg e1 hv2
    by_cases hnr : (n : Int) = rm
    · have hi0 : ¬ i = 0 := fun e => HFU.out ⟨hnr, e⟩
      have hi0' : ((i : Int) == 0) = false := by simp; exact hi0
      rw [← hnr] at z0
      have hnr' := hnr.symm
      clear hi0 hnr
      have HNR := hide hnr'
      clear hnr'
      go_wp2_with fail
      refine HINS.out.mono ?_
      rintro e w3 ⟨v3, rfl, hsg3, hf3, ho3⟩
      have hml : (l.take i ++ (⟨id, true, ByteArray.empty⟩ : En) :: l.drop i).length = n + 1 := by
        rw [List.length_append, List.length_cons, List.length_take, List.length_drop, ← HN.out]
        omega
      obtain ⟨m3, hm3⟩ : ∃ m, m = l.take i ++ (⟨id, true, ByteArray.empty⟩ : En) :: l.drop i := ⟨_, rfl⟩
      rw [← hm3] at hsg3 hml
      have HM3 := hide hm3
      have hv2 := HV2.out
      have hgne : ¬ (Value.slice A n cc).ownBlock = some g := fun e => EK.sg_ne (hv2.sg c) hv2.o (by decide) g (by rw [HE1.out]; exact e) rfl
      have hcne : ¬ (Value.slice A n cc).ownBlock = some cm := fun e => by
        obtain ⟨es, k, h3⟩ := MK.mp_obj hv2.mp
        obtain ⟨-, -, cs, h7⟩ := EK.sg_typed (hv2.sg c) (k := cm) (by rw [HE1.out]; exact e)
        rw [h3] at h7
        cases h7
      have ho3g := hf3.obj hv2.o hgne
      have y0 := obj_cell ho3g 0
      have y1 := obj_cell ho3g 1
      simp only [List.getElem?_toArray, List.getElem?_cons_zero, List.getElem?_cons_succ, ← HRM.out] at y0 y1
      obtain ⟨k, hkk⟩ : ∃ k, k = m3.length - rm.toNat := ⟨_, rfl⟩
      have hkv : (k : Int) = max ((n : Int) + 1 - rm) 0 := by rw [hkk, hml]; omega
      have hmx := fun ts ty => run_mx ts ty ((n : Int) + 1 - rm) 0 (k : Int) hkv
      have hsd := EK.sg_below hsg3 (show Below w3.heap.size w3 w3.drew from (Below.refl _ _).drew)
      obtain ⟨v4, hrun4, hsg4, hown4⟩ := EK.sg_tail hsd (k := k) (by rw [hkk, hml]; omega)
      have hmp3 := MK.mp_fr hv2.mp hf3 hcne
      obtain ⟨w5, hrun5, hmp5, hf5, -⟩ := MK.run_put (show kR.mp w3.drew cm f from hmp3) c v4
      have hRA := hv2.turn2 c (v' := v4) (w' := w3.drew) (l := m3.drop k) (by rw [HE1.out]; exact hf3.drew) hsg4 (by
          have := HTK.out.2
          unfold lastOf at this
          rw [← hm3, ← hkk] at this
          exact this) (by
          rw [hown4, HE1.out]
          exact ho3) hmp5 hf5 (by
          have := HTK.out.1
          unfold lastOf at this
          rw [← hm3, ← hkk, HRM.out] at this
          exact this)
      have HRES := hide (show RA w B g cm f ⟨rm, setL S.L c (lastOf rm m3)⟩ w5 from by
        obtain ⟨f', a1, a2, a3, a4⟩ := hRA
        unfold lastOf
        rw [← hkk, HRM.out]
        exact ⟨f', a1, a2, (Fr.of_below HBW.out).trans a3 (fun _ _ e => e), fun j e => (a4 j e).imp (fun x => x) (fun e => Nat.le_trans HBW.out.size e)⟩)
      obtain ⟨A3, c3, e3, -, -⟩ := EK.sg_slice hsg3
      rw [hml] at e3
      subst e3
      have HR4 : Hid ((Instr.sliceAt 117 (.slice A3 (n + 1) c3) (some (.int .i64 (k : Int))) none none).run Try.prog w3.drew = .ok v4 w3.drew) := hide hrun4
      have HR5 : Hid ((Instr.mapUpdate 106 (.map (some cm)) (.int .i64 c) v4).run Try.prog w3.drew = .ok () w5) := hide hrun5
      have hw1 : IntKind.i64.wrap ((n : Int) + 1 - rm) = (n : Int) + 1 - rm := by rw [IntKind.wrap_i64]; omega
      have hw2 : wrap64 ((n : Int) + 1 - rm) = (n : Int) + 1 - rm := by unfold wrap64; omega
      clear hsg3 hf3 ho3 hml hm3 hv2 hgne hcne ho3g hkk hkv hsd hrun4 hsg4 hown4 hmp3 hrun5 hmp5 hf5 hRA z0 z1 hlk
      go_wp2_with fail
      refine wp_stl 15 (by kernel_rfl) (by kernel_rfl) ?_
      simp only [List.take_succ_cons, List.take_zero, List.drop_succ_cons, List.drop_zero]
      repeat (first | (refine wpStill_slice (u := v4) (v := .slice A3 (n + 1) c3) (l' := some (.int .i64 (k : Int))) (h' := none) rfl 117 (.tmp 71) (some (.tmp 79)) none rfl rfl rfl rfl HR4.out ?_) | still_step)
      refine wpStill_nil ?_
      go_wp2_with (refine wpList_mapup (w' := w5) rfl 106 (.tmp 69) (.tmp 70) (.tmp 80) rfl rfl rfl rfl ?_ ?_; exact HR5.out)
      go_ret2
      exact ⟨rfl, by rw [← HM3.out]; exact HRES.out⟩
    · have hnr' : ((n : Int) == rm) = false := by simpa using hnr
      clear hnr
      go_wp2_with fail
      refine HINS.out.mono ?_
      rintro e w3 ⟨v3, rfl, hsg3, hf3, ho3⟩
      have hml : (l.take i ++ (⟨id, true, ByteArray.empty⟩ : En) :: l.drop i).length = n + 1 := by
        rw [List.length_append, List.length_cons, List.length_take, List.length_drop, ← HN.out]
        omega
      obtain ⟨m3, hm3⟩ : ∃ m, m = l.take i ++ (⟨id, true, ByteArray.empty⟩ : En) :: l.drop i := ⟨_, rfl⟩
      rw [← hm3] at hsg3 hml
      have HM3 := hide hm3
      have hv2 := HV2.out
      have hgne : ¬ (Value.slice A n cc).ownBlock = some g := fun e => EK.sg_ne (hv2.sg c) hv2.o (by decide) g (by rw [HE1.out]; exact e) rfl
      have hcne : ¬ (Value.slice A n cc).ownBlock = some cm := fun e => by
        obtain ⟨es, k, h3⟩ := MK.mp_obj hv2.mp
        obtain ⟨-, -, cs, h7⟩ := EK.sg_typed (hv2.sg c) (k := cm) (by rw [HE1.out]; exact e)
        rw [h3] at h7
        cases h7
      have ho3g := hf3.obj hv2.o hgne
      have y0 := obj_cell ho3g 0
      have y1 := obj_cell ho3g 1
      simp only [List.getElem?_toArray, List.getElem?_cons_zero, List.getElem?_cons_succ, ← HRM.out] at y0 y1
      obtain ⟨k, hkk⟩ : ∃ k, k = m3.length - rm.toNat := ⟨_, rfl⟩
      have hkv : (k : Int) = max ((n : Int) + 1 - rm) 0 := by rw [hkk, hml]; omega
      have hmx := fun ts ty => run_mx ts ty ((n : Int) + 1 - rm) 0 (k : Int) hkv
      have hsd := EK.sg_below hsg3 (show Below w3.heap.size w3 w3.drew from (Below.refl _ _).drew)
      obtain ⟨v4, hrun4, hsg4, hown4⟩ := EK.sg_tail hsd (k := k) (by rw [hkk, hml]; omega)
      have hmp3 := MK.mp_fr hv2.mp hf3 hcne
      obtain ⟨w5, hrun5, hmp5, hf5, -⟩ := MK.run_put (show kR.mp w3.drew cm f from hmp3) c v4
      have hRA := hv2.turn2 c (v' := v4) (w' := w3.drew) (l := m3.drop k) (by rw [HE1.out]; exact hf3.drew) hsg4 (by
          have := HTK.out.2
          unfold lastOf at this
          rw [← hm3, ← hkk] at this
          exact this) (by
          rw [hown4, HE1.out]
          exact ho3) hmp5 hf5 (by
          have := HTK.out.1
          unfold lastOf at this
          rw [← hm3, ← hkk, HRM.out] at this
          exact this)
      have HRES := hide (show RA w B g cm f ⟨rm, setL S.L c (lastOf rm m3)⟩ w5 from by
        obtain ⟨f', a1, a2, a3, a4⟩ := hRA
        unfold lastOf
        rw [← hkk, HRM.out]
        exact ⟨f', a1, a2, (Fr.of_below HBW.out).trans a3 (fun _ _ e => e), fun j e => (a4 j e).imp (fun x => x) (fun e => Nat.le_trans HBW.out.size e)⟩)
      obtain ⟨A3, c3, e3, -, -⟩ := EK.sg_slice hsg3
      rw [hml] at e3
      subst e3
      have HR4 : Hid ((Instr.sliceAt 117 (.slice A3 (n + 1) c3) (some (.int .i64 (k : Int))) none none).run Try.prog w3.drew = .ok v4 w3.drew) := hide hrun4
      have HR5 : Hid ((Instr.mapUpdate 106 (.map (some cm)) (.int .i64 c) v4).run Try.prog w3.drew = .ok () w5) := hide hrun5
      have hw1 : IntKind.i64.wrap ((n : Int) + 1 - rm) = (n : Int) + 1 - rm := by rw [IntKind.wrap_i64]; omega
      have hw2 : wrap64 ((n : Int) + 1 - rm) = (n : Int) + 1 - rm := by unfold wrap64; omega
      clear hsg3 hf3 ho3 hml hm3 hv2 hgne hcne ho3g hkk hkv hsd hrun4 hsg4 hown4 hmp3 hrun5 hmp5 hf5 hRA z0 z1 hlk
      go_wp2_with fail
      refine wp_stl 15 (by kernel_rfl) (by kernel_rfl) ?_
      simp only [List.take_succ_cons, List.take_zero, List.drop_succ_cons, List.drop_zero]
      repeat (first | (refine wpStill_slice (u := v4) (v := .slice A3 (n + 1) c3) (l' := some (.int .i64 (k : Int))) (h' := none) rfl 117 (.tmp 71) (some (.tmp 79)) none rfl rfl rfl rfl HR4.out ?_) | still_step)
      refine wpStill_nil ?_
      go_wp2_with (refine wpList_mapup (w' := w5) rfl 106 (.tmp 69) (.tmp 70) (.tmp 80) rfl rfl rfl rfl ?_ ?_; exact HR5.out)
      go_ret2
      exact ⟨rfl, by rw [← HM3.out]; exact HRES.out⟩
set_option maxHeartbeats 8000000 in
set_option maxRecDepth 100000 in
theorem takeR_any {w : World} {B g cm : Nat} {S : RS} {f : Int → Option Value} (h : RV w B g cm S f) (hk : ROk S) (c id : Int) :
    Calls Try.prog 37 #[.pointer (some ⟨g, 0, none⟩), .int .i64 c, .int .i64 id] w fun e w' => e = .returned (.tuple #[.int .i64 (rTake S c id).2.1, .string (rTake S c id).2.2]) ∧ RA w B g cm f (rTake S c id).1 w' := by
  by_cases hm : mayR c id
  rotate_left
  · have HMR := hide (fun W => mayR_any c id W)
    have HSELF := hide (h.self hk (Below.refl _ _))
    unfold rTake
    rw [if_neg hm]
    rw [decide_eq_false hm] at HMR
    simp only
    clear h hk hm
    go_enter Try.func37, Try.ntmps37
    go_wp2_with fail
    refine (HMR.out _).mono ?_
    rintro e w1 ⟨rfl, rfl⟩
    go_wp2
    go_ret2
    exact ⟨rfl, HSELF.out⟩
  by_cases hn : ∀ e, (S.L c)[ahd (S.L c) id]? = some e → e.id ≠ id
  · exact takeR_new h hk c id hm hn
  obtain ⟨e, e0, hid⟩ : ∃ e, (S.L c)[ahd (S.L c) id]? = some e ∧ e.id = id := by
    rcases e1 : (S.L c)[ahd (S.L c) id]? with _ | e
    · exact absurd (fun e h => by rw [e1] at h; cases h) hn
    · refine ⟨e, rfl, Classical.not_not.1 (fun hc => hn (fun e' h => ?_))⟩
      rw [e1] at h
      cases h
      exact hc
  have HMR := hide (fun W => mayR_any c id W)
  rw [decide_eq_true hm] at HMR
  have HSELF := hide (fun (W : World) (hb : Below w.heap.size w W) => h.self hk hb)
  have HFI := hide (findR_any h hk c id (by have := hm.2.2; omega))
  rw [isAt_some e0, show (e.id == id) = true by simpa using hid] at HFI
  have heq : rTake S c id = if e.busy = true then (S, 3, ByteArray.empty) else (S, 2, e.rep) := by
    unfold rTake
    rw [if_pos hm, e0]
    simp only
    rw [if_pos hid]
  rw [heq]
  have HV := hide h
  obtain ⟨i, hi⟩ : ∃ i, i = ahd (S.L c) id := ⟨_, rfl⟩
  rw [← hi] at HFI e0
  have HL := hide (List.getElem?_eq_some_iff.1 e0)
  clear h hk hm e0 hid hn heq hi
  by_cases hb : e.busy = true
  · rw [if_pos hb]
    simp only
    have HBY := hide hb
    clear hb
    go_enter Try.func37, Try.ntmps37
    go_wp2_with fail
    refine (HMR.out _).mono ?_
    rintro e w1 ⟨rfl, rfl⟩
    go_wp2_with fail
    refine HFI.out.mono ?_
    rintro e' w1 ⟨rfl, hb1⟩
    have hv1 := HV.out.below hb1
    have z1 := obj_cell hv1.o 1
    simp only [List.getElem?_toArray, List.getElem?_cons_zero, List.getElem?_cons_succ] at z1
    have hlk := hv1.look c
    obtain ⟨hin, hel⟩ := HL.out
    obtain ⟨b, o, c', e1, hc1, hc2, -, -, hcell⟩ := EK.sg_cells (hv1.sg c) hin
    rw [e1] at hlk
    simp only [maxLen] at hc2
    have q1 := hcell 1 (by decide)
    rw [hel] at q1
    simp only [kE, eC, List.getElem?_cons_zero, List.getElem?_cons_succ, HBY.out] at q1
    obtain ⟨n, hn⟩ : ∃ n, n = (S.L c).length := ⟨_, rfl⟩
    have hin2 : i < n := by rw [hn]; exact hin
    rw [← hn] at hlk hc1
    have hini : (i : Int) < (n : Int) := by omega
    have HB1 := hide hb1
    clear hb1 hv1 e1 hcell hn hin hel
    go_wp2
    go_ret2
    exact ⟨rfl, HSELF.out _ HB1.out⟩
  · rw [if_neg hb]
    simp only
    have HBY := hide (show e.busy = false from by simpa using hb)
    clear hb
    go_enter Try.func37, Try.ntmps37
    go_wp2_with fail
    refine (HMR.out _).mono ?_
    rintro e w1 ⟨rfl, rfl⟩
    go_wp2_with fail
    refine HFI.out.mono ?_
    rintro e' w1 ⟨rfl, hb1⟩
    have hv1 := HV.out.below hb1
    have z1 := obj_cell hv1.o 1
    simp only [List.getElem?_toArray, List.getElem?_cons_zero, List.getElem?_cons_succ] at z1
    have hlk := hv1.look c
    obtain ⟨hin, hel⟩ := HL.out
    obtain ⟨b, o, c', e1, hc1, hc2, -, -, hcell⟩ := EK.sg_cells (hv1.sg c) hin
    rw [e1] at hlk
    simp only [maxLen] at hc2
    have q1 := hcell 1 (by decide)
    have q2 := hcell 2 (by decide)
    rw [hel] at q1 q2
    simp only [kE, eC, List.getElem?_cons_zero, List.getElem?_cons_succ, HBY.out] at q1 q2
    obtain ⟨n, hn⟩ : ∃ n, n = (S.L c).length := ⟨_, rfl⟩
    have hin2 : i < n := by rw [hn]; exact hin
    rw [← hn] at hlk hc1
    have hini : (i : Int) < (n : Int) := by omega
    have HB1 := hide hb1
    clear hb1 hv1 e1 hcell hn hin hel
    go_wp2_with fail
    go_quiet (fail)
    go_wp2
    go_ret2
    exact ⟨rfl, HSELF.out _ (below_drewN HB1.out _)⟩
end Go.Proofs.Ythcnoamgkkbkcaa
