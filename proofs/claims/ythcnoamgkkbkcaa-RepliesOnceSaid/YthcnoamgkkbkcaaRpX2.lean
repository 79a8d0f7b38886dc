/- Chapter 15, replies: the walk of RepliesOnce. -/
import Derived.Test.YthcnoamgkkbkcaaRpX1
namespace Go.Proofs.Ythcnoamgkkbkcaa
open Go.RowKit

def OnR (w : World) (g cm n : Nat) (room : Int) (wr : World) (iv : Value) : Prop :=
  ∃ (k : Nat) (S : RS), iv = .int .i64 (k : Int) ∧ k ≤ n ∧ S.room = min (max room 1) 16 ∧ RR w w.heap.size g cm S wr
set_option maxHeartbeats 32000000 in
set_option maxRecDepth 100000 in
theorem walk_repliesOnce (room : Int) (v : Value) (l : List RDeed) (w : World) (_hr : (Lit.int .i64 room).wf = true) (hv : RDeedArg w v l) (_hz : ∀ x ∈ l, x.wf) :
    Calls Try.prog 8 #[.int .i64 room, v] w fun e w' => e = .returned (.bool true) ∧ Below w.heap.size w w' := by
  have AW := hide (fun W => awake15 W)
  have HFW := hide (few15_any hv)
  obtain ⟨LA, lcap, rfl⟩ := hv.slice
  have hlm := hv.len
  simp only [maxLen] at hlm
  have HV := hide hv
  obtain ⟨ll, hll⟩ : ∃ ll, ll = l.length := ⟨_, rfl⟩
  rw [← hll] at hlm HV HFW ⊢
  have HLL := hide hll
  clear hv hll _hz _hr
  have HN := hide (new_rr room w)
  obtain ⟨m1, hm1⟩ : ∃ M, M = max room 1 := ⟨_, rfl⟩
  obtain ⟨m2, hm2⟩ : ∃ M, M = min m1 16 := ⟨_, rfl⟩
  have g1 := fun ts t => run_mx ts t room 1 m1 hm1
  have g2 := fun ts t => run_mn ts t m1 16 m2 hm2
  have HM1 := hide hm1
  have HM2 := hide hm2
  clear hm1 hm2
  go_enter Try.func8, Try.ntmps8
  go_wp2_with fail
  refine HFW.out.mono ?_
  rintro e w1 ⟨(rfl | ⟨rfl, hbig⟩), rfl⟩
  · go_wp2_with fail
    refine (AW.out _).mono ?_
    rintro e w2 ⟨rfl, hb⟩
    go_wp2
    go_ret
    exact ⟨rfl, hb⟩
  go_wp2_with fail
  refine HN.out.mono ?_
  rintro e w1 ⟨g, cm, rfl, h1⟩
  have HS := hide (show OnR w g cm ll room w1 (.int .i64 0) from ⟨0, _, rfl, Nat.zero_le _, rfl, h1⟩)
  clear h1 HN
  go_wp2_with fail
  go_loopw [6] (fun iv wr => OnR w g cm ll room wr iv) (fun iv _ => ll - (intOf iv).toNat)
  case atStart => exact HS.out
  case round =>
    obtain ⟨k, S, rfl, hk, hrm, hcr⟩ := hrel
    rcases Nat.lt_or_ge k ll with hkl | hkl
    · have hb := hcr.b
      obtain ⟨a0, cap0, e0, hc1, hc2, q0, q1, q2, q3⟩ := (HV.out.below hb).cells (k := k) (by have := HLL.out; omega)
      injection e0 with e0a e0b e0c
      subst e0a e0c
      simp only [maxLen] at hc2
      obtain ⟨d, hde⟩ : ∃ d, d = l[k]'(by have := HLL.out; omega) := ⟨_, rfl⟩
      rw [← hde] at q0 q1 q2 q3
      obtain ⟨kd, dc, di, dr⟩ := d
      simp only at q0 q1 q2 q3
      have hcapi : ll ≤ lcap := by have := HLL.out; omega
      have hkli : (k : Int) < (ll : Int) := by omega
      have hal := (Below.refl wr.heap.size wr).alloc (Nat.le_refl _) (.cells #[.int .i64 kd, .int .i64 dc, .int .i64 di, .string dr] 71)
      have oq := obj_new wr (.cells #[.int .i64 kd, .int .i64 dc, .int .i64 di, .string dr] 71)
      have HOM0 := hide oq
      have HC0 := hide (take_rr (hcr.below hal) dc di)
      have hok := hcr.ok
      have hcases := rTake_five S dc di
      have hfresh := fun h => rTake_fresh hok (c := dc) (id := di) h
      have helse := fun h => rTake_else (S := S) (c := dc) (id := di) h
      have hok1 := rTake_ok hok dc di
      have hrm1 := rTake_room S dc di
      obtain ⟨P1, hP1⟩ : ∃ P, P = rTake S dc di := ⟨_, rfl⟩
      have HP1 := hide hP1
      rw [← hP1] at HC0 hcases hfresh helse hok1 hrm1
      obtain ⟨S1, how, s⟩ := P1
      simp only at HC0 hcases hfresh helse hok1 hrm1
      rw [hrm] at hrm1
      have z1 := obj_cell oq 1
      have z2 := obj_cell oq 2
      simp only [List.getElem?_toArray, List.getElem?_cons_zero, List.getElem?_cons_succ] at z1 z2
      have HRM1 := hide hrm1
      have HOK1 := hide hok1
      clear hde hc1 hb hcr hal oq hok hP1 hok1 hrm1 hrm e0b
      have hput := rPut_cases S1 dc di dr
      have hthen := fun h => rPut_then HOK1.out (c := dc) (id := di) (s := dr) h
      have hprm := rPut_room S1 dc di dr
      have HPT := hide (fun (W : World) (h : RR w w.heap.size g cm S1 W) => put_rr h dc di dr)
      obtain ⟨P3, hP3⟩ : ∃ P, P = rPut S1 dc di dr := ⟨_, rfl⟩
      rw [← hP3] at HPT hput hthen hprm
      obtain ⟨S3, b3⟩ := P3
      simp only at HPT hthen hprm
      rw [HRM1.out] at hprm
      have hS3 : b3 = false → S3 = S1 := fun h => by
        rcases hput with h1 | ⟨-, -, x, -, -, -, h1⟩
        · exact (Prod.mk.inj h1).1
        · rw [h] at h1
          exact absurd (Prod.mk.inj h1).2 (by decide)
      clear hput hP3
      have HRM3 := hide hprm
      clear hprm
      have HC1 := hide (fun (W : World) (h : RR w w.heap.size g cm S1 W) => take_rr h dc di)
      have CASES : (how = 1 ∧ rTake S1 dc di = (S1, 3, ByteArray.empty)) ∨ ((how = 0 ∨ how = 2 ∨ how = 3 ∨ how = 4) ∧ rTake S1 dc di = (S1, how, s)) := by
        rcases hcases with h | h | h | h | h
        · exact .inr ⟨.inl h, by have := helse (by omega); rw [this]; rw [← HP1.out, this]⟩
        · exact .inl ⟨h, hfresh h⟩
        · exact .inr ⟨.inr (.inl h), by have := helse (by omega); rw [this]; rw [← HP1.out, this]⟩
        · exact .inr ⟨.inr (.inr (.inl h)), by have := helse (by omega); rw [this]; rw [← HP1.out, this]⟩
        · exact .inr ⟨.inr (.inr (.inr h)), by have := helse (by omega); rw [this]; rw [← HP1.out, this]⟩
      clear hcases hfresh helse HP1
      rcases CASES with ⟨h1, e1⟩ | ⟨h1, e1⟩
      · subst h1
        rw [show (S1, (3 : Int), ByteArray.empty) = (S1, (3 : Int), (⟨#[]⟩ : ByteArray)) from rfl] at e1
        simp only [e1] at HC1 hthen
        clear e1
        rcases hb3 : b3 with _ | _
        · subst hb3
          rw [hS3 rfl] at HPT
          clear hthen hS3
          have HRM := HRM1
          go_wp2_with fail
          refine HC0.out.mono ?_
          rintro e w3 ⟨rfl, hc3, hk3, -⟩
          have om3 := hk3 _ _ _ _ HOM0.out (by decide) (by decide)
          have y1 := obj_cell om3 1
          have y2 := obj_cell om3 2
          simp only [List.getElem?_toArray, List.getElem?_cons_zero, List.getElem?_cons_succ] at y1 y2
          have HOM3 := hide om3
          have HC3 := hide hc3
          clear hc3 hk3 om3 q0 q1 q2 q3
          go_wp2_with fail
          refine (HC1.out _ HC3.out).mono ?_
          rintro e w4 ⟨rfl, hc4, hk4, -⟩
          have om4 := hk4 _ _ _ _ HOM3.out (by decide) (by decide)
          have y1 := obj_cell om4 1
          have y2 := obj_cell om4 2
          have y3 := obj_cell om4 3
          simp only [List.getElem?_toArray, List.getElem?_cons_zero, List.getElem?_cons_succ] at y1 y2 y3
          have HOM := hide om4
          have HOM2 := hide om4
          have HC2 := hide hc4
          clear hc4 hk4 om4
          go_wp2_with fail
          refine (HPT.out _ HC2.out).mono ?_
          rintro e w5 ⟨rfl, hc5, hk5, -⟩
          have HC := hide hc5
          have HKP := hide hk5
          clear hc5 hk5 y1 y2 y3
          have om4 := HKP.out _ _ _ _ HOM.out (by decide) (by decide)
          have y1 := obj_cell om4 1
          simp only [List.getElem?_toArray, List.getElem?_cons_zero, List.getElem?_cons_succ] at y1
          have HID := hide (ids_rr HC.out dc)
          have hlen := HC.out.ok.len dc
          rw [HRM.out] at hlen
          obtain ⟨n1, hn1⟩ : ∃ n, n = (rIds S1 dc).length := ⟨_, rfl⟩
          have hn1i : (n1 : Int) ≤ m2 := by rw [hn1, HM2.out, HM1.out]; unfold rIds; rw [List.length_map]; exact hlen
          have hn1j : ¬ m2 < (n1 : Int) := by omega
          have HN1 := hide hn1
          clear om4 hlen hn1 hn1i
          go_wp2_with fail
          refine HID.out.mono ?_
          rintro e w8 ⟨ov, rfl, hr8, hc8, -⟩
          obtain ⟨A8, c8, rfl⟩ := EK.row_slice hr8
          rw [← HN1.out]
          have HRES := hide (show OnR w g cm ll room w8 (.int .i64 ((k : Int) + 1)) from ⟨k + 1, S1, rfl, hkl, HRM.out, hc8⟩)
          clear hr8 hc8
          go_wp2_with fail
          exact ⟨HRES.out, by simp only [intOf]; omega⟩
        · subst hb3
          have HT3 := hide (hthen rfl).2
          clear hthen hS3
          have HRM := HRM3
          go_wp2_with fail
          refine HC0.out.mono ?_
          rintro e w3 ⟨rfl, hc3, hk3, -⟩
          have om3 := hk3 _ _ _ _ HOM0.out (by decide) (by decide)
          have y1 := obj_cell om3 1
          have y2 := obj_cell om3 2
          simp only [List.getElem?_toArray, List.getElem?_cons_zero, List.getElem?_cons_succ] at y1 y2
          have HOM3 := hide om3
          have HC3 := hide hc3
          clear hc3 hk3 om3 q0 q1 q2 q3
          go_wp2_with fail
          refine (HC1.out _ HC3.out).mono ?_
          rintro e w4 ⟨rfl, hc4, hk4, -⟩
          have om4 := hk4 _ _ _ _ HOM3.out (by decide) (by decide)
          have y1 := obj_cell om4 1
          have y2 := obj_cell om4 2
          have y3 := obj_cell om4 3
          simp only [List.getElem?_toArray, List.getElem?_cons_zero, List.getElem?_cons_succ] at y1 y2 y3
          have HOM := hide om4
          have HOM2 := hide om4
          have HC2 := hide hc4
          clear hc4 hk4 om4
          have HTK := hide (fun (W : World) (h : RR w w.heap.size g cm S3 W) => take_rr h dc di)
          simp only [HT3.out] at HTK
          go_wp2_with fail
          refine (HPT.out _ HC2.out).mono ?_
          rintro e w5 ⟨rfl, hc5, hk5, -⟩
          have om5 := hk5 _ _ _ _ HOM2.out (by decide) (by decide)
          have y1 := obj_cell om5 1
          have y2 := obj_cell om5 2
          have y3 := obj_cell om5 3
          simp only [List.getElem?_toArray, List.getElem?_cons_zero, List.getElem?_cons_succ] at y1 y2 y3
          have HOM5 := hide om5
          have HC5 := hide hc5
          clear hc5 hk5 om5
          go_wp2_with fail
          refine (HTK.out _ HC5.out).mono ?_
          rintro e w6 ⟨rfl, hc6, hk6, -⟩
          have HC := hide hc6
          have HKP := hide hk6
          have om6 := hk6 _ _ _ _ HOM5.out (by decide) (by decide)
          have y3 := obj_cell om6 3
          simp only [List.getElem?_toArray, List.getElem?_cons_zero, List.getElem?_cons_succ] at y3
          clear hc6 hk6 om6 HOM HOM2
          have HOM := HOM5
          have om4 := HKP.out _ _ _ _ HOM.out (by decide) (by decide)
          have y1 := obj_cell om4 1
          simp only [List.getElem?_toArray, List.getElem?_cons_zero, List.getElem?_cons_succ] at y1
          have HID := hide (ids_rr HC.out dc)
          have hlen := HC.out.ok.len dc
          rw [HRM.out] at hlen
          obtain ⟨n1, hn1⟩ : ∃ n, n = (rIds S3 dc).length := ⟨_, rfl⟩
          have hn1i : (n1 : Int) ≤ m2 := by rw [hn1, HM2.out, HM1.out]; unfold rIds; rw [List.length_map]; exact hlen
          have hn1j : ¬ m2 < (n1 : Int) := by omega
          have HN1 := hide hn1
          clear om4 hlen hn1 hn1i
          go_wp2_with fail
          refine HID.out.mono ?_
          rintro e w8 ⟨ov, rfl, hr8, hc8, -⟩
          obtain ⟨A8, c8, rfl⟩ := EK.row_slice hr8
          rw [← HN1.out]
          have HRES := hide (show OnR w g cm ll room w8 (.int .i64 ((k : Int) + 1)) from ⟨k + 1, S3, rfl, hkl, HRM.out, hc8⟩)
          clear hr8 hc8
          go_wp2_with fail
          exact ⟨HRES.out, by simp only [intOf]; omega⟩
      · simp only [e1] at HC1 hthen
        clear e1
        rcases hb3 : b3 with _ | _
        · subst hb3
          rw [hS3 rfl] at HPT
          clear hthen hS3
          have HRM := HRM1
          rcases h1 with rfl | rfl | rfl | rfl
          all_goals (
            go_wp2_with fail
            refine HC0.out.mono ?_
            rintro e w3 ⟨rfl, hc3, hk3, -⟩
            have om3 := hk3 _ _ _ _ HOM0.out (by decide) (by decide)
            have y1 := obj_cell om3 1
            have y2 := obj_cell om3 2
            simp only [List.getElem?_toArray, List.getElem?_cons_zero, List.getElem?_cons_succ] at y1 y2
            have HOM3 := hide om3
            have HC3 := hide hc3
            clear hc3 hk3 om3 q0 q1 q2 q3
            go_wp2_with fail
            refine (HC1.out _ HC3.out).mono ?_
            rintro e w4 ⟨rfl, hc4, hk4, -⟩
            have om4 := hk4 _ _ _ _ HOM3.out (by decide) (by decide)
            have y1 := obj_cell om4 1
            have y2 := obj_cell om4 2
            have y3 := obj_cell om4 3
            simp only [List.getElem?_toArray, List.getElem?_cons_zero, List.getElem?_cons_succ] at y1 y2 y3
            have HOM := hide om4
            have HOM2 := hide om4
            have HC2 := hide hc4
            clear hc4 hk4 om4
            go_wp2_with fail
            refine (HPT.out _ HC2.out).mono ?_
            rintro e w5 ⟨rfl, hc5, hk5, -⟩
            have HC := hide hc5
            have HKP := hide hk5
            clear hc5 hk5 y1 y2 y3
            have om4 := HKP.out _ _ _ _ HOM.out (by decide) (by decide)
            have y1 := obj_cell om4 1
            simp only [List.getElem?_toArray, List.getElem?_cons_zero, List.getElem?_cons_succ] at y1
            have HID := hide (ids_rr HC.out dc)
            have hlen := HC.out.ok.len dc
            rw [HRM.out] at hlen
            obtain ⟨n1, hn1⟩ : ∃ n, n = (rIds S1 dc).length := ⟨_, rfl⟩
            have hn1i : (n1 : Int) ≤ m2 := by rw [hn1, HM2.out, HM1.out]; unfold rIds; rw [List.length_map]; exact hlen
            have hn1j : ¬ m2 < (n1 : Int) := by omega
            have HN1 := hide hn1
            clear om4 hlen hn1 hn1i
            go_wp2_with fail
            refine HID.out.mono ?_
            rintro e w8 ⟨ov, rfl, hr8, hc8, -⟩
            obtain ⟨A8, c8, rfl⟩ := EK.row_slice hr8
            rw [← HN1.out]
            have HRES := hide (show OnR w g cm ll room w8 (.int .i64 ((k : Int) + 1)) from ⟨k + 1, S1, rfl, hkl, HRM.out, hc8⟩)
            clear hr8 hc8
            go_wp2_with fail
            exact ⟨HRES.out, by simp only [intOf]; omega⟩
          )
        · subst hb3
          have h2 := hthen rfl
          have HT3 := hide h2.2
          have h3 : how = 3 := h2.1
          clear hthen hS3 h1 h2
          subst h3
          have HRM := HRM3
          go_wp2_with fail
          refine HC0.out.mono ?_
          rintro e w3 ⟨rfl, hc3, hk3, -⟩
          have om3 := hk3 _ _ _ _ HOM0.out (by decide) (by decide)
          have y1 := obj_cell om3 1
          have y2 := obj_cell om3 2
          simp only [List.getElem?_toArray, List.getElem?_cons_zero, List.getElem?_cons_succ] at y1 y2
          have HOM3 := hide om3
          have HC3 := hide hc3
          clear hc3 hk3 om3 q0 q1 q2 q3
          go_wp2_with fail
          refine (HC1.out _ HC3.out).mono ?_
          rintro e w4 ⟨rfl, hc4, hk4, -⟩
          have om4 := hk4 _ _ _ _ HOM3.out (by decide) (by decide)
          have y1 := obj_cell om4 1
          have y2 := obj_cell om4 2
          have y3 := obj_cell om4 3
          simp only [List.getElem?_toArray, List.getElem?_cons_zero, List.getElem?_cons_succ] at y1 y2 y3
          have HOM := hide om4
          have HOM2 := hide om4
          have HC2 := hide hc4
          clear hc4 hk4 om4
          have HTK := hide (fun (W : World) (h : RR w w.heap.size g cm S3 W) => take_rr h dc di)
          simp only [HT3.out] at HTK
          go_wp2_with fail
          refine (HPT.out _ HC2.out).mono ?_
          rintro e w5 ⟨rfl, hc5, hk5, -⟩
          have om5 := hk5 _ _ _ _ HOM2.out (by decide) (by decide)
          have y1 := obj_cell om5 1
          have y2 := obj_cell om5 2
          have y3 := obj_cell om5 3
          simp only [List.getElem?_toArray, List.getElem?_cons_zero, List.getElem?_cons_succ] at y1 y2 y3
          have HOM5 := hide om5
          have HC5 := hide hc5
          clear hc5 hk5 om5
          go_wp2_with fail
          refine (HTK.out _ HC5.out).mono ?_
          rintro e w6 ⟨rfl, hc6, hk6, -⟩
          have HC := hide hc6
          have HKP := hide hk6
          have om6 := hk6 _ _ _ _ HOM5.out (by decide) (by decide)
          have y3 := obj_cell om6 3
          simp only [List.getElem?_toArray, List.getElem?_cons_zero, List.getElem?_cons_succ] at y3
          clear hc6 hk6 om6 HOM HOM2
          have HOM := HOM5
          have om4 := HKP.out _ _ _ _ HOM.out (by decide) (by decide)
          have y1 := obj_cell om4 1
          simp only [List.getElem?_toArray, List.getElem?_cons_zero, List.getElem?_cons_succ] at y1
          have HID := hide (ids_rr HC.out dc)
          have hlen := HC.out.ok.len dc
          rw [HRM.out] at hlen
          obtain ⟨n1, hn1⟩ : ∃ n, n = (rIds S3 dc).length := ⟨_, rfl⟩
          have hn1i : (n1 : Int) ≤ m2 := by rw [hn1, HM2.out, HM1.out]; unfold rIds; rw [List.length_map]; exact hlen
          have hn1j : ¬ m2 < (n1 : Int) := by omega
          have HN1 := hide hn1
          clear om4 hlen hn1 hn1i
          go_wp2_with fail
          refine HID.out.mono ?_
          rintro e w8 ⟨ov, rfl, hr8, hc8, -⟩
          obtain ⟨A8, c8, rfl⟩ := EK.row_slice hr8
          rw [← HN1.out]
          have HRES := hide (show OnR w g cm ll room w8 (.int .i64 ((k : Int) + 1)) from ⟨k + 1, S3, rfl, hkl, HRM.out, hc8⟩)
          clear hr8 hc8
          go_wp2_with fail
          exact ⟨HRES.out, by simp only [intOf]; omega⟩
    · have hke : ll = k := by omega
      subst hke
      have HB2 := hide hcr.b
      clear hcr hrm
      go_wp2_with fail
      refine (AW.out _).mono ?_
      rintro e w9 ⟨rfl, hb9⟩
      have HB9 := hide (HB2.out.trans (hb9.mono HB2.out.size))
      clear hb9
      go_wp2
      go_ret
      exact ⟨rfl, HB9.out⟩
end Go.Proofs.Ythcnoamgkkbkcaa
