/- Chapter 14, calls: the walk of CallsOnce. -/
import Derived.Test.YthcnoamgkkbkcaaCaX1
namespace Go.Proofs.Ythcnoamgkkbkcaa
open Go.RowKit

theorem fnd_upd {g : Ck → Ck} (hg : ∀ k, (g k).id = k.id) (id : Int) : ∀ L : List Ck, fnd (upd L id g) id = (fnd L id).map g
  | [] => rfl
  | k :: l => by
    have ih := fnd_upd hg id l
    unfold fnd upd at ih ⊢
    rw [List.map_cons, List.find?_cons, List.find?_cons]
    by_cases h : k.id = id
    · rw [if_pos h, hg, h]
      simp
    · rw [if_neg h]
      have h2 : (k.id == id) = false := by simpa using h
      rw [h2]
      exact ih
/-- An answer that counts. -/
theorem ans_yes {S : CS} {x : List Tm} {m : Mg} (h : COk S x) (ha : (cAnswer S m).2 = true) :
    cState (cAnswer S m).1 m.id = (2, m.body) ∧ (opens (cAnswer S m).1.L).length + 1 = (opens S.L).length ∧ cAnswer (cAnswer S m).1 m = ((cAnswer S m).1, false) ∧ (cAnswer S m).1.next = S.next := by
  unfold cAnswer at ha ⊢
  by_cases h1 : m.kind = 2 ∧ m.dst = S.me
  · rw [if_pos h1] at ha ⊢
    rcases e : fnd S.L m.id with _ | k
    · rw [e] at ha
      cases ha
    · rw [e] at ha
      simp only at ha ⊢
      by_cases h2 : k.st = 1 ∧ k.dst = m.frm
      · rw [if_pos h2]
        obtain ⟨hk, hid⟩ := fnd_some e
        have e2 : fnd (upd S.L m.id (ansG m.body)) m.id = some (ansG m.body k) := by rw [fnd_upd (g := ansG m.body) (fun _ => rfl), e]; rfl
        obtain ⟨u1, u2⟩ := upd_tms (g := ansG m.body) h.ids hk h2.1
        rw [if_neg (show ¬ (ansG m.body k).st = 1 from (by decide : ¬ (2 : Int) = 1)), List.nil_append, hid] at u1
        rw [hid] at u2
        have l1 := u1.length_eq
        have l2 := u2.length_eq
        rw [tms_len] at l1 l2
        rw [List.length_cons] at l2
        refine ⟨?_, by show (opens (upd S.L m.id (ansG m.body))).length + 1 = _; omega, ?_, rfl⟩
        · unfold cState
          simp only
          rw [e2]
          rfl
        · simp only
          rw [if_pos h1, e2]
          simp only
          rw [if_neg (fun hh => by have := hh.1; simp [ansG] at this)]
      · rw [if_neg h2] at ha
        cases ha
  · rw [if_neg h1] at ha
    cases ha
theorem ans_no {S : CS} {m : Mg} (ha : (cAnswer S m).2 = false) : cAnswer S m = (S, false) := by
  unfold cAnswer at ha ⊢
  split at ha
  · rename_i h1
    rw [if_pos h1]
    rcases e : fnd S.L m.id with _ | k
    · rfl
    · rw [e] at ha
      simp only at ha ⊢
      split at ha
      · cases ha
      · rename_i h2
        rw [if_neg h2]
  · rename_i h1
    rw [if_neg h1]
theorem call_next (S : CS) (dst : Int) (body : ByteArray) (now : Int) : ((cCall S dst body now).2.2 = 0 ∧ (cCall S dst body now).2.1 = S.next ∧ (cCall S dst body now).1.next = S.next + 1) ∨ (0 < (cCall S dst body now).2.2 ∧ (cCall S dst body now).2.2 ≤ 5 ∧ (cCall S dst body now).1 = S) := by
  unfold cCall
  split
  · exact .inr ⟨(by decide : (0 : Int) < 1), (by decide : (1 : Int) ≤ 5), rfl⟩
  · split
    · exact .inr ⟨(by decide : (0 : Int) < 2), (by decide : (2 : Int) ≤ 5), rfl⟩
    · split
      · exact .inr ⟨(by decide : (0 : Int) < 5), (by decide : (5 : Int) ≤ 5), rfl⟩
      · exact .inl ⟨rfl, rfl, rfl⟩
def OnS (w : World) (g t p c cm ll : Nat) (wr : World) (nv iv : Value) : Prop :=
  ∃ (k : Nat) (S : CS), iv = .int .i64 (k : Int) ∧ k ≤ ll ∧ nv = .int .i64 S.next ∧ CR w w.heap.size g t p c cm S wr
set_option maxHeartbeats 16000000 in
set_option maxRecDepth 100000 in
theorem walk_callsOnce (v : Value) (l : List CDeed) (w : World) (hv : CDeedArg w v l) (_hz : ∀ x ∈ l, x.wf) :
    Calls Try.prog 5 #[v] w fun e w' => e = .returned (.bool true) ∧ Below w.heap.size w w' := by
  have AW := hide (fun W => awake14 W)
  obtain ⟨LA, lcap, rfl⟩ := hv.slice
  have hlm := hv.len
  simp only [maxLen] at hlm
  have HV := hide hv
  obtain ⟨ll, hll⟩ : ∃ ll, ll = l.length := ⟨_, rfl⟩
  rw [← hll] at hlm HV ⊢
  have HLL := hide hll
  clear hv hll _hz
  have HF := hide (fun (A : Option Addr) (c : Nat) (W : World) => few14_far A ll c W)
  have HFO := hide (fun (A : Option Addr) (c : Nat) (W : World) => few14_ok A ll c W)
  rcases Nat.lt_or_ge 150 ll with hbig | hbig
  · go_enter Try.func5, Try.ntmps5
    go_wp2_with fail
    refine (HF.out _ _ _ hbig).mono ?_
    rintro e w1 ⟨rfl, rfl⟩
    go_wp2_with fail
    refine (AW.out _).mono ?_
    rintro e w2 ⟨rfl, hb⟩
    go_wp2
    go_ret
    exact ⟨rfl, hb⟩
  have HN := hide (cnew_cr 5 100 w)
  have e0 : newC 5 100 = ⟨5, 100, []⟩ := by kernel_rfl
  rw [e0] at HN
  go_enter Try.func5, Try.ntmps5
  go_wp2_with fail
  refine (HFO.out _ _ _ hbig).mono ?_
  rintro e w1 ⟨rfl, rfl⟩
  go_wp2_with fail
  refine HN.out.mono ?_
  rintro e w1 ⟨g, t, p, c, cm, rfl, h1⟩
  have HS := hide (show OnS w g t p c cm ll w1 (.int .i64 100) (.int .i64 0) from ⟨0, _, rfl, Nat.zero_le _, rfl, h1⟩)
  clear h1 e0 HN
  go_wp2_with fail
  go_loopw [4, 5] (fun nv iv wr => OnS w g t p c cm ll wr nv iv) (fun _ iv _ => ll - (intOf iv).toNat)
  case atStart => exact HS.out
  case round =>
    obtain ⟨k, S, rfl, hk, rfl, hcr⟩ := hrel
    rcases Nat.lt_or_ge k ll with hkl | hkl
    · have hb := hcr.2.1
      obtain ⟨a0, cap0, e0, hc1, hc2, q0, q1, q2, q3, q4, q5, q6, q7, q8⟩ := (HV.out.below hb).cells (k := k) (by have := HLL.out; omega)
      injection e0 with e0a e0b e0c
      subst e0a e0c
      simp only [maxLen] at hc2
      obtain ⟨d, hde⟩ : ∃ d, d = l[k]'(by have := HLL.out; omega) := ⟨_, rfl⟩
      rw [← hde] at q0 q1 q2 q3 q4 q5 q6 q7 q8
      obtain ⟨kd, da, db, dbody, mk, mf, mt, mi, mb⟩ := d
      simp only at q0 q1 q2 q3 q4 q5 q6 q7 q8
      have hcapi : ll ≤ lcap := by have := HLL.out; omega
      have hkli : (k : Int) < (ll : Int) := by omega
      have hal := (Below.refl wr.heap.size wr).alloc (Nat.le_refl _) (.cells #[.int .i64 kd, .int .i64 da, .int .i64 db, .string dbody, .int .i64 mk, .int .i64 mf, .int .i64 mt, .int .i64 mi, .string mb] 34)
      have oq := obj_new wr (.cells #[.int .i64 kd, .int .i64 da, .int .i64 db, .string dbody, .int .i64 mk, .int .i64 mf, .int .i64 mt, .int .i64 mi, .string mb] 34)
      have HOM := hide oq
      have HC0 := hide (ccall_cr (hcr.below hal) da 0 dbody)
      obtain ⟨x0, hx0⟩ := hcr.ok
      have hnx := hx0.nxt
      obtain ⟨nx, hnxx⟩ : ∃ n, n = S.next := ⟨_, rfl⟩
      rw [← hnxx] at hnx
      have hcn := call_next S da dbody 0
      obtain ⟨P1, hP1⟩ : ∃ P, P = cCall S da dbody 0 := ⟨_, rfl⟩
      rw [← hP1] at HC0 hcn
      rw [← hnxx] at hcn
      obtain ⟨S1, id1, er1⟩ := P1
      simp only at HC0 hcn
      have z1 := obj_cell oq 1
      have z3 := obj_cell oq 3
      simp only [List.getElem?_toArray, List.getElem?_cons_zero, List.getElem?_cons_succ] at z1 z3
      have HNXX := hide hnxx
      rw [← hnxx]
      clear hde hc1 hb hcr hP1 e0b hal oq hx0 hnxx
      rcases hcn with ⟨e1, e2, e3⟩ | ⟨e1, e2, e3⟩
      · subst e1
        subst e2
        have HNX := hide e3.symm
        clear e3
        go_wp2_with fail
        refine HC0.out.mono ?_
        rintro e wc ⟨rfl, hc1, hkp, -⟩
        have HC1 := hide hc1
        have HKP := hide hkp
        clear hc1 hkp z1 z3 q0 q1 q2 q3 q4 q5 q6 q7 q8
        obtain ⟨S1x, hS1⟩ : ∃ s, s = S1 := ⟨_, rfl⟩
        have HOP := hide (copen_cr HC1.out)
        have om1 := HKP.out _ _ _ HOM.out (by decide) (by decide) (by decide) (by decide)
        have HOM1 := hide om1
        clear om1
        go_wp2_with fail
        refine HOP.out.mono ?_
        rintro e w2 ⟨ov, rfl, hr2, hc2, hb2⟩
        obtain ⟨x1, hx1⟩ := hc2.ok
        obtain ⟨A1, c1, rfl⟩ := EK.row_slice hr2
        obtain ⟨n1, hn1⟩ : ∃ n, n = (opens S1.L).length := ⟨_, rfl⟩
        have hn64 : n1 ≤ 64 := by rw [hn1]; exact hx1.few
        rw [← hn1]
        have HN1 := hide hn1
        have HX1 := hide hx1
        have om2 := obj_below HOM1.out hb2
        have y4 := obj_cell om2 4
        have y5 := obj_cell om2 5
        have y6 := obj_cell om2 6
        have y7 := obj_cell om2 7
        have y8 := obj_cell om2 8
        simp only [List.getElem?_toArray, List.getElem?_cons_zero, List.getElem?_cons_succ] at y4 y5 y6 y7 y8
        have HAN := hide (canswer_cr hc2 ⟨mk, mf, mt, mi, mb⟩)
        have HOM2 := hide om2
        obtain ⟨P2, hP2⟩ : ∃ P, P = cAnswer S1 ⟨mk, mf, mt, mi, mb⟩ := ⟨_, rfl⟩
        rw [← hP2] at HAN
        have HP2 := hide hP2
        unfold mgC at HAN
        obtain ⟨S2, b2⟩ := P2
        simp only at HAN
        clear hr2 hc2 hn1 hx1 om2 hb2 hP2
        rcases hb2 : b2 with _ | _
        · subst hb2
          have hno : S2 = S1 := by
            have h1 := ans_no (S := S1) (m := ⟨mk, mf, mt, mi, mb⟩) (by rw [← HP2.out])
            rw [← HP2.out] at h1
            exact (Prod.mk.inj h1).1
          subst hno
          go_wp2_with fail
          refine HAN.out.mono ?_
          rintro e w3 ⟨rfl, hc3, hk3, -⟩
          have HOP2 := hide (copen_cr hc3)
          clear hc3 hk3 y4 y5 y6 y7 y8
          go_wp2_with fail
          refine HOP2.out.mono ?_
          rintro e w4 ⟨ov, rfl, hr4, hc4, -⟩
          obtain ⟨A4, c4, rfl⟩ := EK.row_slice hr4
          rw [← HN1.out]
          have HRES := hide (show OnS w g t p c cm ll w4 (.int .i64 S2.next) (.int .i64 ((k : Int) + 1)) from ⟨k + 1, S2, rfl, hkl, rfl, hc4⟩)
          clear hr4 hc4
          rw [← HNX.out] at HRES
          go_wp2_with fail
          exact ⟨HRES.out, by simp only [intOf]; omega⟩
        · subst hb2
          obtain ⟨g1, g2, g3, g4⟩ := ans_yes (m := ⟨mk, mf, mt, mi, mb⟩) HX1.out (by rw [← HP2.out])
          rw [← HP2.out] at g1 g2 g3 g4
          simp only at g1 g2 g3 g4
          rw [← HN1.out] at g2
          obtain ⟨n2, hn2⟩ : ∃ n, n = (opens S2.L).length := ⟨_, rfl⟩
          rw [← hn2] at g2
          have HST := hide (fun (W : World) (h : CR w w.heap.size g t p c cm S2 W) => cstate_cr h mi)
          have HAN2 := hide (fun (W : World) (h : CR w w.heap.size g t p c cm S2 W) => canswer_cr h ⟨mk, mf, mt, mi, mb⟩)
          simp only [g1] at HST
          simp only [g3] at HAN2
          unfold mgC at HAN2
          simp only at HAN2
          have HOP2 := hide (fun (W : World) (h : CR w w.heap.size g t p c cm S2 W) => copen_cr h)
          have HN2 := hide hn2
          have HG4 := hide g4
          subst g2
          clear hn2 g1 g3 g4 hS1
          go_wp2_with fail
          refine HAN.out.mono ?_
          rintro e w3 ⟨rfl, hc3, hk3, -⟩
          have HC3 := hide hc3
          have om3 := hk3 _ _ _ HOM2.out (by decide) (by decide) (by decide) (by decide)
          have HOM3 := hide om3
          have y7 := obj_cell om3 7
          simp only [List.getElem?_toArray, List.getElem?_cons_zero, List.getElem?_cons_succ] at y7
          clear hc3 hk3 om3 y4 y5 y6 y8
          go_wp2_with fail
          refine (HST.out _ HC3.out).mono ?_
          rintro e w4 ⟨rfl, hc4, hb4⟩
          have HC4 := hide hc4
          have om4 := obj_below HOM3.out hb4
          have HOM4 := hide om4
          have y8 := obj_cell om4 8
          simp only [List.getElem?_toArray, List.getElem?_cons_zero, List.getElem?_cons_succ] at y8
          clear hc4 hb4 om4 y7
          go_wp2_with fail
          refine (HOP2.out _ HC4.out).mono ?_
          rintro e w5 ⟨ov, rfl, hr5, hc5, hb5⟩
          obtain ⟨A5, c5, rfl⟩ := EK.row_slice hr5
          rw [← HN2.out]
          have HC5 := hide hc5
          have om5 := obj_below HOM4.out hb5
          have y4 := obj_cell om5 4
          have y5 := obj_cell om5 5
          have y6 := obj_cell om5 6
          have y7 := obj_cell om5 7
          have y8 := obj_cell om5 8
          simp only [List.getElem?_toArray, List.getElem?_cons_zero, List.getElem?_cons_succ] at y4 y5 y6 y7 y8
          clear hr5 hc5 hb5 om5
          go_wp2_with fail
          refine (HAN2.out _ HC5.out).mono ?_
          rintro e w6 ⟨rfl, hc6, -⟩
          have HRES := hide (show OnS w g t p c cm ll w6 (.int .i64 S2.next) (.int .i64 ((k : Int) + 1)) from ⟨k + 1, S2, rfl, hkl, rfl, hc6⟩)
          clear hc6 y4 y5 y6 y7 y8
          rw [HG4.out, ← HNX.out] at HRES
          go_wp2_with fail
          exact ⟨HRES.out, by simp only [intOf]; omega⟩
      · have HNX := hide (show nx = S1.next from by rw [e3]; exact HNXX.out)
        have he0 : (er1 == 0) = false := by simp; omega
        clear e3
        go_wp2_with fail
        refine HC0.out.mono ?_
        rintro e wc ⟨rfl, hc1, hkp, -⟩
        have HC1 := hide hc1
        have HKP := hide hkp
        clear hc1 hkp z1 z3 q0 q1 q2 q3 q4 q5 q6 q7 q8
        obtain ⟨S1x, hS1⟩ : ∃ s, s = S1 := ⟨_, rfl⟩
        have HOP := hide (copen_cr HC1.out)
        have om1 := HKP.out _ _ _ HOM.out (by decide) (by decide) (by decide) (by decide)
        have HOM1 := hide om1
        clear om1
        go_wp2_with fail
        refine HOP.out.mono ?_
        rintro e w2 ⟨ov, rfl, hr2, hc2, hb2⟩
        obtain ⟨x1, hx1⟩ := hc2.ok
        obtain ⟨A1, c1, rfl⟩ := EK.row_slice hr2
        obtain ⟨n1, hn1⟩ : ∃ n, n = (opens S1.L).length := ⟨_, rfl⟩
        have hn64 : n1 ≤ 64 := by rw [hn1]; exact hx1.few
        rw [← hn1]
        have HN1 := hide hn1
        have HX1 := hide hx1
        have om2 := obj_below HOM1.out hb2
        have y4 := obj_cell om2 4
        have y5 := obj_cell om2 5
        have y6 := obj_cell om2 6
        have y7 := obj_cell om2 7
        have y8 := obj_cell om2 8
        simp only [List.getElem?_toArray, List.getElem?_cons_zero, List.getElem?_cons_succ] at y4 y5 y6 y7 y8
        have HAN := hide (canswer_cr hc2 ⟨mk, mf, mt, mi, mb⟩)
        have HOM2 := hide om2
        obtain ⟨P2, hP2⟩ : ∃ P, P = cAnswer S1 ⟨mk, mf, mt, mi, mb⟩ := ⟨_, rfl⟩
        rw [← hP2] at HAN
        have HP2 := hide hP2
        unfold mgC at HAN
        obtain ⟨S2, b2⟩ := P2
        simp only at HAN
        clear hr2 hc2 hn1 hx1 om2 hb2 hP2
        rcases hb2 : b2 with _ | _
        · subst hb2
          have hno : S2 = S1 := by
            have h1 := ans_no (S := S1) (m := ⟨mk, mf, mt, mi, mb⟩) (by rw [← HP2.out])
            rw [← HP2.out] at h1
            exact (Prod.mk.inj h1).1
          subst hno
          go_wp2_with fail
          refine HAN.out.mono ?_
          rintro e w3 ⟨rfl, hc3, hk3, -⟩
          have HOP2 := hide (copen_cr hc3)
          clear hc3 hk3 y4 y5 y6 y7 y8
          go_wp2_with fail
          refine HOP2.out.mono ?_
          rintro e w4 ⟨ov, rfl, hr4, hc4, -⟩
          obtain ⟨A4, c4, rfl⟩ := EK.row_slice hr4
          rw [← HN1.out]
          have HRES := hide (show OnS w g t p c cm ll w4 (.int .i64 S2.next) (.int .i64 ((k : Int) + 1)) from ⟨k + 1, S2, rfl, hkl, rfl, hc4⟩)
          clear hr4 hc4
          rw [← HNX.out] at HRES
          go_wp2_with fail
          exact ⟨HRES.out, by simp only [intOf]; omega⟩
        · subst hb2
          obtain ⟨g1, g2, g3, g4⟩ := ans_yes (m := ⟨mk, mf, mt, mi, mb⟩) HX1.out (by rw [← HP2.out])
          rw [← HP2.out] at g1 g2 g3 g4
          simp only at g1 g2 g3 g4
          rw [← HN1.out] at g2
          obtain ⟨n2, hn2⟩ : ∃ n, n = (opens S2.L).length := ⟨_, rfl⟩
          rw [← hn2] at g2
          have HST := hide (fun (W : World) (h : CR w w.heap.size g t p c cm S2 W) => cstate_cr h mi)
          have HAN2 := hide (fun (W : World) (h : CR w w.heap.size g t p c cm S2 W) => canswer_cr h ⟨mk, mf, mt, mi, mb⟩)
          simp only [g1] at HST
          simp only [g3] at HAN2
          unfold mgC at HAN2
          simp only at HAN2
          have HOP2 := hide (fun (W : World) (h : CR w w.heap.size g t p c cm S2 W) => copen_cr h)
          have HN2 := hide hn2
          have HG4 := hide g4
          subst g2
          clear hn2 g1 g3 g4 hS1
          go_wp2_with fail
          refine HAN.out.mono ?_
          rintro e w3 ⟨rfl, hc3, hk3, -⟩
          have HC3 := hide hc3
          have om3 := hk3 _ _ _ HOM2.out (by decide) (by decide) (by decide) (by decide)
          have HOM3 := hide om3
          have y7 := obj_cell om3 7
          simp only [List.getElem?_toArray, List.getElem?_cons_zero, List.getElem?_cons_succ] at y7
          clear hc3 hk3 om3 y4 y5 y6 y8
          go_wp2_with fail
          refine (HST.out _ HC3.out).mono ?_
          rintro e w4 ⟨rfl, hc4, hb4⟩
          have HC4 := hide hc4
          have om4 := obj_below HOM3.out hb4
          have HOM4 := hide om4
          have y8 := obj_cell om4 8
          simp only [List.getElem?_toArray, List.getElem?_cons_zero, List.getElem?_cons_succ] at y8
          clear hc4 hb4 om4 y7
          go_wp2_with fail
          refine (HOP2.out _ HC4.out).mono ?_
          rintro e w5 ⟨ov, rfl, hr5, hc5, hb5⟩
          obtain ⟨A5, c5, rfl⟩ := EK.row_slice hr5
          rw [← HN2.out]
          have HC5 := hide hc5
          have om5 := obj_below HOM4.out hb5
          have y4 := obj_cell om5 4
          have y5 := obj_cell om5 5
          have y6 := obj_cell om5 6
          have y7 := obj_cell om5 7
          have y8 := obj_cell om5 8
          simp only [List.getElem?_toArray, List.getElem?_cons_zero, List.getElem?_cons_succ] at y4 y5 y6 y7 y8
          clear hr5 hc5 hb5 om5
          go_wp2_with fail
          refine (HAN2.out _ HC5.out).mono ?_
          rintro e w6 ⟨rfl, hc6, -⟩
          have HRES := hide (show OnS w g t p c cm ll w6 (.int .i64 S2.next) (.int .i64 ((k : Int) + 1)) from ⟨k + 1, S2, rfl, hkl, rfl, hc6⟩)
          clear hc6 y4 y5 y6 y7 y8
          rw [HG4.out, ← HNX.out] at HRES
          go_wp2_with fail
          exact ⟨HRES.out, by simp only [intOf]; omega⟩
    · have hke : ll = k := by omega
      subst hke
      have HOP := hide (copen_cr hcr)
      obtain ⟨x1, hx1⟩ := hcr.ok
      obtain ⟨n1, hn1⟩ : ∃ n, n = (opens S.L).length := ⟨_, rfl⟩
      have hn64 : n1 ≤ 64 := by rw [hn1]; exact hx1.few
      have hn64i : (n1 : Int) ≤ 64 := by omega
      have HN1 := hide hn1
      clear hcr hx1 hn1
      go_wp2_with fail
      refine HOP.out.mono ?_
      rintro e w2 ⟨ov, rfl, hr2, hc2, -⟩
      obtain ⟨A1, c1, rfl⟩ := EK.row_slice hr2
      rw [← HN1.out]
      have HB2 := hide hc2.2.1
      clear hr2 hc2
      go_wp2_with fail
      refine (AW.out _).mono ?_
      rintro e w9 ⟨rfl, hb9⟩
      have HB9 := hide (HB2.out.trans (hb9.mono HB2.out.size))
      clear hb9
      go_wp2
      go_ret
      exact ⟨rfl, HB9.out⟩
end Go.Proofs.Ythcnoamgkkbkcaa
