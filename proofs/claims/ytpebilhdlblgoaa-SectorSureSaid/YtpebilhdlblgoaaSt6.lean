/- Chapter 09, sector: the walk of SectorSure. -/
import Derived.Test.YtpebilhdlblgoaaSt5
namespace Go.Proofs.Ytpebilhdlblgoaa
open Go.RowKit

theorem SDeedArg.at {w : World} {A : Option Addr} {n c : Nat} {l : List SDeed} (h : SDeedArg w (.slice A n c) l) {k : Nat} (hk : k < l.length) : ∃ a, A = some a ∧ l.length ≤ c ∧ c ≤ maxLen ∧ ∀ w', Below w.heap.size w w' →
    w'.cell? (a.add (k * 5)) = some (.int .i64 l[k].kind) ∧ w'.cell? ⟨(a.add (k * 5)).block, (a.add (k * 5)).off + 1, none⟩ = some (.int .i64 l[k].a) ∧ w'.cell? ⟨(a.add (k * 5)).block, (a.add (k * 5)).off + 3, none⟩ = some (.string l[k].s) := by
  obtain ⟨a, cap, e, h1, h2, q0, q1, q2, q3, q4⟩ := h.cells hk
  cases e
  exact ⟨a, rfl, h1, h2, fun w' hb => ⟨(hb.cell (World.block_lt_of_cell? _ _ q0)).trans q0, (hb.cell (World.block_lt_of_cell? _ _ q1)).trans q1, (hb.cell (World.block_lt_of_cell? _ _ q3)).trans q3⟩⟩
theorem wf_i64 {x : Int} (h : (Lit.int .i64 x).wf = true) : x ≤ 9223372036854775807 := by
  simp [Lit.wf, IntKind.min, IntKind.max, IntKind.signed, IntKind.bits] at h
  omega
def Sx1 (w : World) (g c r L ll : Nat) (wr : World) (iv : Value) : Prop :=
  ∃ (k : Nat) (D : Dev), iv = .int .i64 (k : Int) ∧ k ≤ ll ∧ DOk L D ∧ DV wr g c (.slice (some ⟨r, 0, none⟩) L L) D ∧ Below w.heap.size w wr
def Sx2 (w : World) (g c r L ll : Nat) (F : Dev) (wr : World) (iv : Value) : Prop :=
  ∃ (k : Nat) (D : Dev), iv = .int .i64 (k : Int) ∧ k ≤ ll ∧ DOk L D ∧ Since F D ∧ DV wr g c (.slice (some ⟨r, 0, none⟩) L L) D ∧ Below w.heap.size w wr
def Sx3 (w5 : World) (L : Nat) (Z : List Int) (wr : World) (kv iv : Value) : Prop :=
  ∃ i k : Nat, iv = .int .i64 (i : Int) ∧ kv = .int .i64 (k : Int) ∧ i ≤ L ∧ k ≤ Z.length ∧ (∀ q (hq : q < Z.length), q < k → Z[q] < (i : Int)) ∧ (∀ q (hq : q < Z.length), k ≤ q → (i : Int) ≤ Z[q]) ∧ Below w5.heap.size w5 wr
theorem loose_flush (D : Dev) : looseL D.flush = [] := by
  unfold looseL
  simp [Dev.flush]
theorem lrow_keep {w w' : World} {B g c r L cap : Nat} {lv : Value} {Z : List Int} {D : Dev} (h : kI.row w B lv Z) (hv : DV w g c (.slice (some ⟨r, 0, none⟩) L cap) D) (hf : Fr (fun j => j = c ∨ j = r) w w') : kI.row w' B lv Z := by
  refine EK.row_fr h hf (fun k hk e => ?_)
  rcases e with e | e
  · subst e
    obtain ⟨es, q, h6⟩ := MK.mp_obj hv.2.2
    obtain ⟨-, -, cs, h7⟩ := EK.row_typed h hk
    rw [h6] at h7
    cases h7
  · subst e
    obtain ⟨-, -, c1, h6⟩ := EK.row_typed hv.2.1 (k := k) rfl
    obtain ⟨-, -, cs, h7⟩ := EK.row_typed h hk
    rw [h6] at h7
    simp only [Option.some.injEq, Obj.cells.injEq] at h7
    exact absurd h7.2.1 (by decide)
set_option maxHeartbeats 16000000 in
set_option maxRecDepth 100000 in
theorem walk_sectorSure (n : Int) (v : Value) (l : List SDeed) (keep : Int) (w : World) (_w0 : (Lit.int .i64 n).wf = true) (hv : SDeedArg w v l) (hz : ∀ x ∈ l, x.wf) (_w2 : (Lit.int .u64 keep).wf = true) :
    Calls Try.prog 6 #[.int .i64 n, v, .int .u64 keep] w fun e w' => e = .returned (.bool true) ∧ Below w.heap.size w w' := by
  have HFW := hide (few09 n v l w hv)
  have AW := hide awake09
  obtain ⟨A, cap, rfl⟩ := hv.slice
  have hlm := hv.len
  simp only [maxLen] at hlm
  have HV := hide hv
  obtain ⟨ll, hll⟩ : ∃ ll, ll = l.length := ⟨_, rfl⟩
  rw [← hll] at hlm HV HFW ⊢
  have HLL := hide hll
  have HZ := hide hz
  clear hv hll hz
  go_enter Try.func6, Try.ntmps6
  go_wp2_with fail
  refine HFW.out.mono ?_
  rintro e w1 ⟨hor, rfl⟩
  rcases hor with rfl | ⟨rfl, hfew⟩
  · go_wp2_with fail
    refine (AW.out _).mono ?_
    rintro e w2 ⟨rfl, hb⟩
    go_wp2
    go_ret
    exact ⟨rfl, hb⟩
  have HFEW := hide hfew
  obtain ⟨L, hL⟩ : ∃ L, L = cntN n := ⟨_, rfl⟩
  have hLr := cntN_rng n
  rw [← hL] at hLr
  have HNEW := hide (show ∀ W : World, Calls Try.prog 20 #[.int .i64 n] W fun e w' => ∃ g c r, e = .returned (.pointer (some ⟨g, 0, none⟩)) ∧ DV w' g c (.slice (some ⟨r, 0, none⟩) L L) (newD n) ∧ Below W.heap.size W w' ∧ W.heap.size ≤ g ∧ W.heap.size ≤ c ∧ W.heap.size ≤ r from fun W => by rw [hL]; exact dnew_any n W)
  have HD0 := hide (show DOk L (newD n) from ⟨newD_ok n, by rw [newD_len, hL], rfl⟩)
  clear hL hfew
  go_wp2_with fail
  refine (HNEW.out _).mono ?_
  rintro e w2 ⟨g, c, r, rfl, hdv, hb1, hg, hc, hr⟩
  have HBL := hide (show w.heap.size ≤ g ∧ w.heap.size ≤ c ∧ w.heap.size ≤ r from ⟨hg, hc, hr⟩)
  have HS := hide (show Sx1 w g c r L ll w2 (.int .i64 0) from ⟨0, newD n, rfl, Nat.zero_le _, HD0.out, hdv, hb1⟩)
  clear hdv hb1 hg hc hr
  go_wp2_with fail
  go_loopw [8] (fun iv wr => Sx1 w g c r L ll wr iv) (fun iv _ => ll - (intOf iv).toNat)
  case atStart => exact HS.out
  case round =>
    obtain ⟨k, D, rfl, hk, hok, hdv, hb⟩ := hrel
    have HOK := hide hok
    have HDV := hide hdv
    have HB := hide hb
    rcases Nat.lt_or_ge k ll with hkl | hkl
    · obtain ⟨a, rfl, hc1, hc2, hcell⟩ := HV.out.at (k := k) (by have := HLL.out; omega)
      simp only [maxLen] at hc2
      obtain ⟨q0, q1, q3⟩ := hcell wr hb
      have hd := HZ.out _ (List.getElem_mem (show k < l.length by have := HLL.out; omega))
      have hts := HFEW.out.2.2 _ (List.getElem_mem (show k < l.length by have := HLL.out; omega))
      obtain ⟨d, hde⟩ : ∃ d, d = l[k]'(by have := HLL.out; omega) := ⟨_, rfl⟩
      rw [← hde] at q0 q1 q3 hd hts
      have hai := wf_i64 hd.2.1
      obtain ⟨kd, hkde⟩ : ∃ x, x = d.kind := ⟨_, rfl⟩
      obtain ⟨at_, hate⟩ : ∃ x, x = d.a := ⟨_, rfl⟩
      obtain ⟨tx, htxe⟩ : ∃ x, x = d.s := ⟨_, rfl⟩
      rw [← hkde] at q0
      rw [← hate] at q1 hai
      rw [← htxe] at q3 hts
      have hcapi : ll ≤ cap := by have := HLL.out; omega
      have hkli : (k : Int) < (ll : Int) := by omega
      clear hcell hd hde hkde hate htxe hc1
      have HRES0 := hide (show Sx1 w g c r L ll wr (.int .i64 ((k + 1 : Nat) : Int)) from ⟨k + 1, D, rfl, hkl, hok, hdv, hb⟩)
      clear hok hdv hb
      by_cases hkd : kd = 0
      · have hkd1 : (kd == 0) = true := by simp [hkd]
        have hkd2 : (kd != 0) = false := by simp [hkd]
        go_wp2_with fail
        refine wp_stl 11 (by kernel_rfl) (by kernel_rfl) ?_
        simp only [List.take_succ_cons, List.take_zero, List.drop_succ_cons, List.drop_zero]
        repeat still_step
        refine wpStill_nil ?_
        go_wp2_with fail
        refine (dwrite_gen (show DV wr.drew g c (.slice (some ⟨r, 0, none⟩) L L) D from HDV.out) HOK.out.len (by omega) at_ hai tx (by omega)).mono ?_
        rintro e w4 ⟨ec, rfl, hdv4, hf4'⟩
        have hf4 : Fr (fun j => j = c ∨ j = r) wr w4 := ⟨hf4'.os, hf4'.tape, hf4'.output, hf4'.size, hf4'.block⟩
        clear hf4'
        have HRES := hide (show Sx1 w g c r L ll w4 (.int .i64 ((k + 1 : Nat) : Int)) from ⟨k + 1, D.wr at_ tx, rfl, hkl, HOK.out.wr _ _, hdv4, HB.out.trans (hf4.below _ HB.out.size (fun j hj e => by have := HBL.out; omega))⟩)
        clear hdv4 hf4
        go_wp2
        exact ⟨HRES.out, by simp only [intOf]; omega⟩
      · have hkd1 : (kd == 0) = false := by simp [hkd]
        have hkd2 : (kd != 0) = true := by simp [hkd]
        go_wp2
        exact ⟨HRES0.out, by simp only [intOf]; omega⟩
    · have hke : ll = k := by omega
      subst hke
      obtain ⟨F, hF⟩ : ∃ F, F = D.flush := ⟨_, rfl⟩
      have HFO := hide (show DOk L F by rw [hF]; exact hok.flush)
      have HF0 := hide (show Since F F by rw [hF]; exact Since.start D)
      have HFL := hide (show looseL F = [] by rw [hF]; exact loose_flush D)
      have HFF := hide hF
      clear hok hdv hb hF
      go_wp2_with fail
      refine (flush_any HDV.out).mono ?_
      rintro e w4 ⟨rfl, hdv4, hf4, -⟩
      rw [← HFF.out] at hdv4
      have hb4 := HB.out.trans (hf4.below _ HB.out.size (fun j hj e => by have := HBL.out; omega))
      go_wp2_with fail
      refine (sectors_any hdv4).mono ?_
      rintro e w5 ⟨rfl, rfl⟩
      have HRD := hide (dread_ok hdv4 HFO.out.ok HFO.out.lost 0 L hLr.1 (by omega) (by omega) HFO.out.len)
      go_wp2_with fail
      refine HRD.out.mono ?_
      rintro e w5 ⟨rfl, hb5⟩
      obtain ⟨was, hwas⟩ : ∃ s, s = F.read 0 L := ⟨_, rfl⟩
      rw [← hwas]
      have HWAS := hide hwas
      have hdv5 := hdv4.below hb5
      have hB5 := hb4.trans (hb5.mono hb4.size)
      clear hwas hdv4 hf4 hb4 hb5
      have HLO := hide (dloose_any hdv5 HFO.out.ok (by rw [HFO.out.len]; omega))
      rw [HFL.out] at HLO
      go_wp2_with fail
      refine HLO.out.mono ?_
      rintro e w6 ⟨lv, rfl, hl6, hb6⟩
      obtain ⟨lA, lc, rfl⟩ := EK.row_slice hl6
      have hdv6 := hdv5.below hb6
      have HS2 := hide (show Sx2 w g c r L ll F w6 (.int .i64 0) from ⟨0, F, rfl, Nat.zero_le _, HFO.out, HF0.out, hdv6, hB5.trans (hb6.mono hB5.size)⟩)
      clear hl6 hb6 hdv5 hdv6 hB5
      simp only [List.length_nil]
      go_wp2_with fail
      go_loopw [11] (fun iv wr => Sx2 w g c r L ll F wr iv) (fun iv _ => ll - (intOf iv).toNat)
      case atStart => exact HS2.out
      case round =>
        obtain ⟨k, D, rfl, hk, hok, hsi, hdv, hb⟩ := hrel
        have HOK := hide hok
        have HSI := hide hsi
        have HDV := hide hdv
        have HB := hide hb
        rcases Nat.lt_or_ge k ll with hkl | hkl
        · obtain ⟨a, rfl, hc1, hc2, hcell⟩ := HV.out.at (k := k) (by have := HLL.out; omega)
          simp only [maxLen] at hc2
          obtain ⟨q0, q1, q3⟩ := hcell wr hb
          have hd := HZ.out _ (List.getElem_mem (show k < l.length by have := HLL.out; omega))
          have hts := HFEW.out.2.2 _ (List.getElem_mem (show k < l.length by have := HLL.out; omega))
          obtain ⟨d, hde⟩ : ∃ d, d = l[k]'(by have := HLL.out; omega) := ⟨_, rfl⟩
          rw [← hde] at q0 q1 q3 hd hts
          have hai := wf_i64 hd.2.1
          obtain ⟨kd, hkde⟩ : ∃ x, x = d.kind := ⟨_, rfl⟩
          obtain ⟨at_, hate⟩ : ∃ x, x = d.a := ⟨_, rfl⟩
          obtain ⟨tx, htxe⟩ : ∃ x, x = d.s := ⟨_, rfl⟩
          rw [← hkde] at q0
          rw [← hate] at q1 hai
          rw [← htxe] at q3 hts
          have hcapi : ll ≤ cap := by have := HLL.out; omega
          have hkli : (k : Int) < (ll : Int) := by omega
          clear hcell hd hde hkde hate htxe hc1
          have HRES0 := hide (show Sx2 w g c r L ll F wr (.int .i64 ((k + 1 : Nat) : Int)) from ⟨k + 1, D, rfl, hkl, hok, hsi, hdv, hb⟩)
          clear hok hdv hb hsi
          by_cases hkd : kd = 0
          · have hkd1 : (kd == 0) = true := by simp [hkd]
            have hkd2 : (kd != 0) = false := by simp [hkd]
            go_wp2
            exact ⟨HRES0.out, by simp only [intOf]; omega⟩
          · have hkd1 : (kd == 0) = false := by simp [hkd]
            have hkd2 : (kd != 0) = true := by simp [hkd]
            go_wp2_with fail
            refine wp_stl 11 (by kernel_rfl) (by kernel_rfl) ?_
            simp only [List.take_succ_cons, List.take_zero, List.drop_succ_cons, List.drop_zero]
            repeat still_step
            refine wpStill_nil ?_
            go_wp2_with fail
            refine (dwrite_gen (show DV wr.drew g c (.slice (some ⟨r, 0, none⟩) L L) D from HDV.out) HOK.out.len (by omega) at_ hai tx (by omega)).mono ?_
            rintro e w4 ⟨ec, rfl, hdv4, hf4'⟩
            have hf4 : Fr (fun j => j = c ∨ j = r) wr w4 := ⟨hf4'.os, hf4'.tape, hf4'.output, hf4'.size, hf4'.block⟩
            clear hf4'
            have HRES := hide (show Sx2 w g c r L ll F w4 (.int .i64 ((k + 1 : Nat) : Int)) from ⟨k + 1, D.wr at_ tx, rfl, hkl, HOK.out.wr _ _, HSI.out.wr _ _, hdv4, HB.out.trans (hf4.below _ HB.out.size (fun j hj e => by have := HBL.out; omega))⟩)
            clear hdv4 hf4
            go_wp2
            exact ⟨HRES.out, by simp only [intOf]; omega⟩
        · have hke : ll = k := by omega
          subst hke
          clear hok hsi hdv hb
          have HLO2 := hide (dloose_any HDV.out HOK.out.ok (by rw [HOK.out.len]; omega))
          go_wp2_with fail
          refine HLO2.out.mono ?_
          rintro e w7 ⟨lv2, rfl, hl7, hb7⟩
          obtain ⟨zA, zc, rfl⟩ := EK.row_slice hl7
          have hdv7 := HDV.out.below hb7
          have hB7 := HB.out.trans (hb7.mono HB.out.size)
          go_wp2_with fail
          refine (crash_any hdv7 HOK.out.ok (by omega) HOK.out.len keep 9).mono ?_
          rintro e w8 ⟨rfl, hdv8, hf8⟩
          have hl8 := lrow_keep hl7 hdv7 hf8
          have hB8 := hB7.trans (hf8.below _ hB7.size (fun j hj e => by have := HBL.out; omega))
          have HEO := hide (HOK.out.crash keep 9)
          clear hl7 hb7 hdv7 hB7 hf8
          go_wp2_with fail
          refine (sectors_any hdv8).mono ?_
          rintro e w9 ⟨rfl, rfl⟩
          have HRD2 := hide (dread_ok hdv8 HEO.out.ok HEO.out.lost 0 L hLr.1 (by omega) (by omega) HEO.out.len)
          go_wp2_with fail
          refine HRD2.out.mono ?_
          rintro e w9 ⟨rfl, hb9⟩
          obtain ⟨nw, hnw⟩ : ∃ s, s = (D.crash keep 9).read 0 L := ⟨_, rfl⟩
          rw [← hnw]
          have hdv9 := hdv8.below hb9
          have hl9 := EK.row_below hl8 hb9
          have HB9 := hide (hB8.trans (hb9.mono hB8.size))
          obtain ⟨Z, hZ⟩ : ∃ Z, Z = looseL D := ⟨_, rfl⟩
          rw [← hZ] at hl9 ⊢
          have hZr : Z.Pairwise (· < ·) := by rw [hZ]; exact looseL_rising D
          have hns : nw.size = L * 64 := by rw [hnw]; exact read_size HEO.out.ok (by have := HEO.out.len; omega)
          have hws : was.size = L * 64 := by rw [HWAS.out]; exact read_size HFO.out.ok (by have := HFO.out.len; omega)
          have hsec : ∀ i : Nat, i < L → (i : Int) ∉ Z → ∃ x : ByteArray, nw.extract (64 * i) (64 * i + 64) = x ∧ was.extract (64 * i) (64 * i + 64) = x := fun i hi hni => by
            have hs0 : D.sure (i : Int) = none := by
              rcases e : D.sure (i : Int) with _ | y
              · rfl
              · exact absurd ((looseL_mem HOK.out.ok _).2 (by rw [e]; rfl)) (by rw [← hZ]; exact hni)
            have e1 : (D.crash keep 9).now[i]? = F.now[i]? := by
              show (crN D keep 9 (looseL D).length).1[i]? = _
              rw [crN_else HOK.out.ok keep 9 hs0 _ (Nat.le_refl _), (HSI.out.2 i).1 hs0]
            have l1 : i < (D.crash keep 9).now.length := by rw [HEO.out.len]; exact hi
            have l2 : i < F.now.length := by rw [HFO.out.len]; exact hi
            refine ⟨F.now[i], ?_, ?_⟩
            · have h1 := catL_at (D.crash keep 9).now HEO.out.ok.sz i l1
              rw [hnw, ← HEO.out.len, read_all, h1]
              rw [List.getElem?_eq_getElem l1, List.getElem?_eq_getElem l2] at e1
              simpa using e1
            · rw [HWAS.out, ← HFO.out.len, read_all, catL_at F.now HFO.out.ok.sz i l2]
          have HSEC := hide hsec
          have HZR := hide hZr
          have hZl : Z.length ≤ 4096 := by rw [hZ]; exact Nat.le_trans (looseL_len D) (by rw [HOK.out.len]; omega)
          have HDV9 := hide hdv9
          have HL9 := hide hl9
          have hnsi : (nw.size : Int) = ((L * 64 : Nat) : Int) := by rw [hns]
          have HNS := hide hns
          have HWS := hide hws
          have hlen : ((nw.size : Int) != (was.size : Int)) = false := by rw [hns, hws]; simp
          obtain ⟨zl, hzl⟩ : ∃ zl, zl = Z.length := ⟨_, rfl⟩
          rw [← hzl] at hZl hl9 HL9 ⊢
          have HZL := hide hzl
          have HS3 := hide (show Sx3 w9 L Z w9 (.int .i64 0) (.int .i64 0) from ⟨0, 0, rfl, rfl, Nat.zero_le _, Nat.zero_le _, fun q hq h => by omega, fun q hq _ => by
            have h2 : (Z[q] : Int) ∈ looseL D := by
              have h1 : Z[q] ∈ Z := List.getElem_mem hq
              generalize Z[q] = y at h1 ⊢
              rw [hZ] at h1
              exact h1
            obtain ⟨y, hy⟩ := Option.isSome_iff_exists.1 ((looseL_mem HOK.out.ok _).1 h2)
            have := (HOK.out.ok.dom _ _ hy).2.1
            omega, Below.refl _ _⟩)
          clear hnw hl8 hb9 hdv8 hB8 hdv9 hl9 hZ hZr hsec hzl hnsi hns hws
          go_wp2_with fail
          go_loopw [15, 16] (fun kv iv wr => Sx3 w9 L Z wr kv iv) (fun _ iv _ => L - (intOf iv).toNat)
          case atStart => exact HS3.out
          case round =>
            obtain ⟨i, k, rfl, rfl, hi, hk, hlow, hhigh, hb⟩ := hrel
            have HBW := hide hb
            have HSEC2 := hide (sectors_any (HDV9.out.below hb))
            have HLOW := hide hlow
            have HHIGH := hide hhigh
            rw [← HZL.out] at hk
            have hii : (i : Int) ≤ 4096 := by omega
            have hki : (k : Int) ≤ 4096 := by omega
            rcases Nat.lt_or_ge i L with hiL | hiL
            · have hiLi : (i : Int) < (L : Int) := by omega
              rcases Nat.lt_or_ge k zl with hkz | hkz
              · have hkzi : (k : Int) < (zl : Int) := by omega
                have hkz' : k < Z.length := by have := HZL.out; omega
                obtain ⟨lr, lcp, e1, hz1, hz2, -, -, hcell⟩ := EK.row_cells (K := kI) (EK.row_below HL9.out hb) (k := k) hkz'
                injection e1 with e1a e1b e1c
                subst e1a
                subst e1c
                simp only [maxLen] at hz2
                have hzc : zl ≤ zc := by have := HZL.out; omega
                have q0 := hcell 0 (by decide)
                obtain ⟨zk, hzk⟩ : ∃ zk, zk = Z[k] := ⟨_, rfl⟩
                have q0' : wr.cell? ⟨lr, k, none⟩ = some (.int .i64 zk) := by
                  simp only [show kI.sz = 1 from rfl, Nat.mul_one, Nat.add_zero] at q0
                  rw [q0, hzk]
                  rfl
                have hge := hhigh k hkz' (Nat.le_refl _)
                rw [← hzk] at hge
                have HZK := hide hzk
                clear q0 hcell hb hlow hhigh e1b hz1 hzk
                by_cases hez : zk = (i : Int)
                · have hez1 : (zk == (i : Int)) = true := by simp [hez]
                  have HRES := hide (show Sx3 w9 L Z wr (.int .i64 ((k + 1 : Nat) : Int)) (.int .i64 ((i + 1 : Nat) : Int)) from ⟨i + 1, k + 1, rfl, rfl, hiL, hkz', fun q hq h => by
                    rcases (by omega : q < k ∨ q = k) with h | h
                    · have := HLOW.out q hq h
                      omega
                    · subst h
                      have := HZK.out
                      omega, fun q hq h => by
                    have h1 := (List.pairwise_iff_getElem.1 HZR.out) k q hkz' hq (by omega)
                    have := HZK.out
                    omega, HBW.out⟩)
                  go_wp2_with fail
                  refine HSEC2.out.mono ?_
                  rintro e w10 ⟨rfl, rfl⟩
                  go_wp2
                  exact ⟨HRES.out, by simp only [intOf]; omega⟩
                · have hez1 : (zk == (i : Int)) = false := by simp [hez]
                  obtain ⟨x, hx1, hx2⟩ := HSEC.out i hiL (fun hm => by
                    obtain ⟨q, hq, e⟩ := List.getElem_of_mem hm
                    rcases (by omega : q < k ∨ q = k ∨ k < q) with h | h | h
                    · have := HLOW.out q hq h
                      omega
                    · subst h
                      have := HZK.out
                      omega
                    · have h1 := (List.pairwise_iff_getElem.1 HZR.out) k q hkz' hq h
                      have := HZK.out
                      omega)
                  have hhi : ∀ q (hq : q < Z.length), k ≤ q → ((i + 1 : Nat) : Int) ≤ Z[q] := fun q hq h => by
                    rcases (by omega : q = k ∨ k < q) with h | h
                    · subst h
                      have := HZK.out
                      omega
                    · have h1 := (List.pairwise_iff_getElem.1 HZR.out) k q hkz' hq h
                      have := HZK.out
                      omega
                  have HHI := hide hhi
                  clear hhi
                  obtain ⟨p1, hp1⟩ : ∃ p1, p1 = 64 * i := ⟨_, rfl⟩
                  obtain ⟨p2, hp2⟩ : ∃ p2, p2 = 64 * i + 64 := ⟨_, rfl⟩
                  rw [← hp2, ← hp1] at hx1 hx2
                  have h64a : (64 : Int) * (i : Int) = (p1 : Int) := by omega
                  have h64b : (p1 : Int) + 64 = (p2 : Int) := by omega
                  have hw1 : IntKind.i64.wrap (p1 : Int) = (p1 : Int) := by rw [IntKind.wrap_i64]; omega
                  have hw3 : IntKind.i64.wrap (p2 : Int) = (p2 : Int) := by rw [IntKind.wrap_i64]; omega
                  have HSL1 : Hid (∀ W : World, (Instr.sliceAt 9 (.string nw) (some (.int .i64 (p1 : Int))) (some (.int .i64 (p2 : Int))) none).run Try.prog W = .ok (.string x) W) := hide (fun W => by
                    have u1 : p1 ≤ p2 := by omega
                    have u2 : p2 ≤ nw.size := by have := HNS.out; omega
                    simp [Instr.sliceAt, Instr.slice, Instr.sliceBounds, Instr.sliceBound, asIntOf, run_underlying Try.underlying9, u1, u2, hx1])
                  have HSL2 : Hid (∀ W : World, (Instr.sliceAt 9 (.string was) (some (.int .i64 (p1 : Int))) (some (.int .i64 (p2 : Int))) none).run Try.prog W = .ok (.string x) W) := hide (fun W => by
                    have u1 : p1 ≤ p2 := by omega
                    have u2 : p2 ≤ was.size := by have := HWS.out; omega
                    simp [Instr.sliceAt, Instr.slice, Instr.sliceBounds, Instr.sliceBound, asIntOf, run_underlying Try.underlying9, u1, u2, hx2])
                  have HRES := hide (show Sx3 w9 L Z wr.drew (.int .i64 (k : Int)) (.int .i64 ((i + 1 : Nat) : Int)) from ⟨i + 1, k, rfl, rfl, hiL, by have := HZL.out; omega, fun q hq h => by have := HLOW.out q hq h; omega, HHI.out, HBW.out.drew⟩)
                  clear hx1 hx2 hp1 hp2
                  go_wp2_with fail
                  refine HSEC2.out.mono ?_
                  rintro e w10 ⟨rfl, rfl⟩
                  go_wp2_with fail
                  refine wp_stl 14 (by kernel_rfl) (by kernel_rfl) ?_
                  simp only [List.take_succ_cons, List.take_zero, List.drop_succ_cons, List.drop_zero]
                  repeat (first | still_step | refine wpStill_slice rfl 9 (.tmp 130) (some (.tmp 132)) (some (.tmp 135)) rfl rfl rfl rfl (HSL1.out _) ?_ | refine wpStill_slice rfl 9 (.tmp 137) (some (.tmp 139)) (some (.tmp 142)) rfl rfl rfl rfl (HSL2.out _) ?_)
                  refine wpStill_nil ?_
                  go_wp2
                  exact ⟨HRES.out, by simp only [intOf]; omega⟩
              · have hkzi : ¬ (k : Int) < (zl : Int) := by omega
                obtain ⟨x, hx1, hx2⟩ := HSEC.out i hiL (fun hm => by
                  obtain ⟨q, hq, e⟩ := List.getElem_of_mem hm
                  have := HLOW.out q hq (by have := HZL.out; omega)
                  omega)
                have hhi : ∀ q (hq : q < Z.length), k ≤ q → ((i + 1 : Nat) : Int) ≤ Z[q] := fun q hq h => by have := HZL.out; omega
                clear hb hlow hhigh
                have HHI := hide hhi
                clear hhi
                obtain ⟨p1, hp1⟩ : ∃ p1, p1 = 64 * i := ⟨_, rfl⟩
                obtain ⟨p2, hp2⟩ : ∃ p2, p2 = 64 * i + 64 := ⟨_, rfl⟩
                rw [← hp2, ← hp1] at hx1 hx2
                have h64a : (64 : Int) * (i : Int) = (p1 : Int) := by omega
                have h64b : (p1 : Int) + 64 = (p2 : Int) := by omega
                have hw1 : IntKind.i64.wrap (p1 : Int) = (p1 : Int) := by rw [IntKind.wrap_i64]; omega
                have hw3 : IntKind.i64.wrap (p2 : Int) = (p2 : Int) := by rw [IntKind.wrap_i64]; omega
                have HSL1 : Hid (∀ W : World, (Instr.sliceAt 9 (.string nw) (some (.int .i64 (p1 : Int))) (some (.int .i64 (p2 : Int))) none).run Try.prog W = .ok (.string x) W) := hide (fun W => by
                  have u1 : p1 ≤ p2 := by omega
                  have u2 : p2 ≤ nw.size := by have := HNS.out; omega
                  simp [Instr.sliceAt, Instr.slice, Instr.sliceBounds, Instr.sliceBound, asIntOf, run_underlying Try.underlying9, u1, u2, hx1])
                have HSL2 : Hid (∀ W : World, (Instr.sliceAt 9 (.string was) (some (.int .i64 (p1 : Int))) (some (.int .i64 (p2 : Int))) none).run Try.prog W = .ok (.string x) W) := hide (fun W => by
                  have u1 : p1 ≤ p2 := by omega
                  have u2 : p2 ≤ was.size := by have := HWS.out; omega
                  simp [Instr.sliceAt, Instr.slice, Instr.sliceBounds, Instr.sliceBound, asIntOf, run_underlying Try.underlying9, u1, u2, hx2])
                have HRES := hide (show Sx3 w9 L Z wr.drew (.int .i64 (k : Int)) (.int .i64 ((i + 1 : Nat) : Int)) from ⟨i + 1, k, rfl, rfl, hiL, by have := HZL.out; omega, fun q hq h => by have := HLOW.out q hq h; omega, HHI.out, HBW.out.drew⟩)
                clear hx1 hx2 hp1 hp2
                go_wp2_with fail
                refine HSEC2.out.mono ?_
                rintro e w10 ⟨rfl, rfl⟩
                go_wp2_with fail
                refine wp_stl 14 (by kernel_rfl) (by kernel_rfl) ?_
                simp only [List.take_succ_cons, List.take_zero, List.drop_succ_cons, List.drop_zero]
                repeat (first | still_step | refine wpStill_slice rfl 9 (.tmp 130) (some (.tmp 132)) (some (.tmp 135)) rfl rfl rfl rfl (HSL1.out _) ?_ | refine wpStill_slice rfl 9 (.tmp 137) (some (.tmp 139)) (some (.tmp 142)) rfl rfl rfl rfl (HSL2.out _) ?_)
                refine wpStill_nil ?_
                go_wp2
                exact ⟨HRES.out, by simp only [intOf]; omega⟩
            · have hie : i = L := by omega
              subst hie
              go_wp2_with fail
              refine HSEC2.out.mono ?_
              rintro e w10 ⟨rfl, rfl⟩
              go_wp2_with fail
              refine (AW.out _).mono ?_
              rintro e w11 ⟨rfl, hb11⟩
              have HBF := hide (HB9.out.trans ((hb.trans (hb11.mono hb.size)).mono HB9.out.size))
              clear hb11 hb hlow hhigh
              go_wp2
              go_ret
              exact ⟨rfl, HBF.out⟩
end Go.Proofs.Ytpebilhdlblgoaa
