/- Chapter 09, sector: the walk of SectorKept. -/
import Derived.Test.YtpebilhdlblgoaaSt6
namespace Go.Proofs.Ytpebilhdlblgoaa
open Go.RowKit

theorem kb_zero (k : Nat) : kb 0 k = false := by
  unfold kb
  rw [Int.zero_ediv, show (bits .and .u64 0 1 == 1) = false by decide +kernel, Bool.and_false]
theorem kb_all : ∀ k : Nat, k < 64 → kb 18446744073709551615 k = true := by decide +kernel
theorem crN_all {D : Dev} (h : (looseL D).length ≤ 64) : ∀ k, k ≤ (looseL D).length → (crN D 18446744073709551615 0 k).1 = D.now
  | 0, _ => rfl
  | k + 1, hk => by rw [crN_kept (kb_all k (by omega)), crN_all h k (by omega)]
theorem crash_all {D : Dev} (h : (looseL D).length ≤ 64) (L : Nat) : (D.crash 18446744073709551615 0).read 0 L = D.read 0 L := by
  unfold Dev.read Dev.crash
  rw [crN_all h _ (Nat.le_refl _)]
theorem crN_back {D : Dev} (hd : Dok D) : ∀ k, k ≤ (looseL D).length → ∀ (q m : Nat), q < k → (looseL D)[q]? = some (m : Int) → (crN D 0 0 k).1[m]? = some (sureD D m)
  | 0, _, q, m, h, _ => by omega
  | k + 1, hk, q, m, hq, hm => by
    obtain ⟨m', x, h1, h2, h3, h4, h5, h6⟩ := loose_at hd (k := k) (by omega)
    have h7 : (crN D 0 0 k).2 = true := crN_stay (by rfl) k
    have hml : m' < (crN D 0 0 k).1.length := by rw [crN_len]; exact h3
    rw [crN_plain (kb_zero k) h7 h2 h6]
    rcases (by omega : q < k ∨ q = k) with h | h
    · have hne : m' ≠ m := fun e => by
        subst e
        have hql : q < (looseL D).length := by omega
        have hkl : k < (looseL D).length := by omega
        have hlt := (List.pairwise_iff_getElem.1 (looseL_rising D)) q k hql hkl h
        rw [(List.getElem?_eq_some_iff.1 hm).2, (List.getElem?_eq_some_iff.1 h1).2] at hlt
        omega
      rw [List.getElem?_set_ne hne]
      exact crN_back hd k (by omega) q m h hm
    · subst h
      rw [h1] at hm
      have e : m' = m := by have e0 : (m' : Int) = (m : Int) := by simpa using hm
                            omega
      subst e
      rw [List.getElem?_set_self hml, h6]
theorem crash_back {F D : Dev} (hd : Dok D) (hs : Since F D) (L : Nat) : (D.crash 0 0).read 0 L = F.read 0 L := by
  refine read_same (fun j _ _ => ?_)
  show (crN D 0 0 (looseL D).length).1[j]? = _
  rcases e : D.sure (j : Int) with _ | x
  · rw [crN_else hd 0 0 e _ (Nat.le_refl _), (hs.2 j).1 e]
  · have hm : (j : Int) ∈ looseL D := (looseL_mem hd _).2 (by rw [e]; rfl)
    obtain ⟨q, hq, hqe⟩ := List.getElem_of_mem hm
    rw [crN_back hd _ (Nat.le_refl _) q j hq (by rw [List.getElem?_eq_getElem hq, hqe]), (hs.2 j).2 x e]
    unfold sureD
    rw [e]
    rfl
theorem DV.apart {w w' : World} {g c r n cap x y : Nat} {D : Dev} (h : DV w g c (.slice (some ⟨r, 0, none⟩) n cap) D) (hf : Fr (fun j => j = x ∨ j = y) w w') (h1 : g ≠ x ∧ g ≠ y ∧ c ≠ x ∧ c ≠ y ∧ r ≠ x ∧ r ≠ y) : DV w' g c (.slice (some ⟨r, 0, none⟩) n cap) D :=
  h.fr hf (by rintro (e | e); exact h1.1 e; exact h1.2.1 e) (by rintro (e | e); exact h1.2.2.1 e; exact h1.2.2.2.1 e) (fun k hk => by
    cases hk
    rintro (e | e)
    · exact h1.2.2.2.2.1 e
    · exact h1.2.2.2.2.2 e)
def Sk1 (w : World) (ga ca ra gb cb rb L ll : Nat) (wr : World) (iv : Value) : Prop :=
  ∃ (k : Nat) (D : Dev), iv = .int .i64 (k : Int) ∧ k ≤ ll ∧ DOk L D ∧ DV wr ga ca (.slice (some ⟨ra, 0, none⟩) L L) D ∧ DV wr gb cb (.slice (some ⟨rb, 0, none⟩) L L) D ∧ Below w.heap.size w wr
def Sk2 (w : World) (ga ca ra gb cb rb L ll : Nat) (F : Dev) (wr : World) (iv : Value) : Prop :=
  ∃ (k : Nat) (D : Dev), iv = .int .i64 (k : Int) ∧ k ≤ ll ∧ DOk L D ∧ Since F D ∧ DV wr ga ca (.slice (some ⟨ra, 0, none⟩) L L) D ∧ DV wr gb cb (.slice (some ⟨rb, 0, none⟩) L L) D ∧ Below w.heap.size w wr
set_option maxHeartbeats 16000000 in
set_option maxRecDepth 100000 in
theorem walk_sectorKept (n : Int) (v : Value) (l : List SDeed) (v2 : Value) (l2 : List SDeed) (w : World) (_w0 : (Lit.int .i64 n).wf = true) (hv : SDeedArg w v l) (hz : ∀ x ∈ l, x.wf) (hv2 : SDeedArg w v2 l2) (hz2 : ∀ x ∈ l2, x.wf) :
    Calls Try.prog 7 #[.int .i64 n, v, v2] w fun e w' => e = .returned (.bool true) ∧ Below w.heap.size w w' := by
  have HFW := hide (few09 n v l w hv)
  have HFW2 := hide (few09 n v2 l2 w hv2)
  have AW := hide awake09
  obtain ⟨A, cap, rfl⟩ := hv.slice
  obtain ⟨A2, cap2, rfl⟩ := hv2.slice
  have hlm := hv.len
  have hlm2 := hv2.len
  simp only [maxLen] at hlm hlm2
  have HV := hide hv
  have HVB := hide hv2
  obtain ⟨ll, hll⟩ : ∃ ll, ll = l.length := ⟨_, rfl⟩
  obtain ⟨lm, hlmm⟩ : ∃ lm, lm = l2.length := ⟨_, rfl⟩
  rw [← hll] at hlm HV HFW ⊢
  rw [← hlmm] at hlm2 HVB HFW2 ⊢
  have HLL := hide hll
  have HLM := hide hlmm
  have HZ := hide hz
  have HZB := hide hz2
  clear hv hll hz hv2 hlmm hz2
  go_enter Try.func7, Try.ntmps7
  go_wp2_with fail
  refine HFW.out.mono ?_
  rintro e w1 ⟨hor, rfl⟩
  rcases hor with rfl | ⟨rfl, hfew⟩
  · go_wp2_with fail
    refine (AW.out _).mono ?_
    rintro e w2 ⟨rfl, hb⟩
    go_wp2
    go_ret
    exact ⟨rfl, hb⟩
  have HFEW := hide hfew
  clear hfew
  go_wp2_with fail
  refine HFW2.out.mono ?_
  rintro e w1 ⟨hor, rfl⟩
  rcases hor with rfl | ⟨rfl, hfew⟩
  · go_wp2_with fail
    refine (AW.out _).mono ?_
    rintro e w2 ⟨rfl, hb⟩
    go_wp2
    go_ret
    exact ⟨rfl, hb⟩
  have HFEWB := hide hfew
  obtain ⟨L, hL⟩ : ∃ L, L = cntN n := ⟨_, rfl⟩
  have hLr := cntN_rng n
  rw [← hL] at hLr
  have HNEW := hide (show ∀ W : World, Calls Try.prog 20 #[.int .i64 n] W fun e w' => ∃ g c r, e = .returned (.pointer (some ⟨g, 0, none⟩)) ∧ DV w' g c (.slice (some ⟨r, 0, none⟩) L L) (newD n) ∧ Below W.heap.size W w' ∧ W.heap.size ≤ g ∧ W.heap.size ≤ c ∧ W.heap.size ≤ r from fun W => by rw [hL]; exact dnew_any n W)
  have HD0 := hide (show DOk L (newD n) from ⟨newD_ok n, by rw [newD_len, hL], rfl⟩)
  clear hL hfew
  go_wp2_with fail
  refine (HNEW.out _).mono ?_
  rintro e w2 ⟨ga, ca, ra, rfl, hva, hb1, hga, hca, hra⟩
  go_wp2_with fail
  refine (HNEW.out _).mono ?_
  rintro e w3 ⟨gb, cb, rb, rfl, hvb, hb2, hgb, hcb, hrb⟩
  have hlt := hva.lt
  have hrlt := (EK.row_typed hva.2.1 (k := ra) rfl).2.1
  have HBL := hide (show w.heap.size ≤ ga ∧ w.heap.size ≤ ca ∧ w.heap.size ≤ ra ∧ w.heap.size ≤ gb ∧ w.heap.size ≤ cb ∧ w.heap.size ≤ rb from ⟨hga, hca, hra, by have := hb1.size; omega, by have := hb1.size; omega, by have := hb1.size; omega⟩)
  have HSEP := hide (show (ga ≠ cb ∧ ga ≠ rb ∧ ca ≠ cb ∧ ca ≠ rb ∧ ra ≠ cb ∧ ra ≠ rb) ∧ (gb ≠ ca ∧ gb ≠ ra ∧ cb ≠ ca ∧ cb ≠ ra ∧ rb ≠ ca ∧ rb ≠ ra) by omega)
  have HS := hide (show Sk1 w ga ca ra gb cb rb L ll w3 (.int .i64 0) from ⟨0, newD n, rfl, Nat.zero_le _, HD0.out, hva.below hb2, hvb, hb1.trans (hb2.mono hb1.size)⟩)
  clear hva hvb hb1 hb2 hga hca hra hgb hcb hrb hlt hrlt
  go_wp2_with fail
  go_loopw [9] (fun iv wr => Sk1 w ga ca ra gb cb rb L ll wr iv) (fun iv _ => ll - (intOf iv).toNat)
  case atStart => exact HS.out
  case round =>
    obtain ⟨k, D, rfl, hk, hok, hva, hvb, hb⟩ := hrel
    have HOK := hide hok
    have HVA := hide hva
    have HVBB := hide hvb
    have HB := hide hb
    rcases Nat.lt_or_ge k ll with hkl | hkl
    · obtain ⟨a, rfl, hc1, hc2, hcell⟩ := HV.out.at (k := k) (by have := HLL.out; omega)
      simp only [maxLen] at hc2
      obtain ⟨q0, q1, q3⟩ := hcell wr hb
      have hd := HZ.out _ (List.getElem_mem (show k < l.length by have := HLL.out; omega))
      have hts := HFEW.out.2.2 _ (List.getElem_mem (show k < l.length by have := HLL.out; omega))
      obtain ⟨d, hde⟩ : ∃ d, d = l[k]'(by have := HLL.out; omega) := ⟨_, rfl⟩
      rw [← hde] at q0 q1 q3 hd hts
      have hai := wf_i64 hd.2.1
      obtain ⟨at_, hate⟩ : ∃ x, x = d.a := ⟨_, rfl⟩
      obtain ⟨tx, htxe⟩ : ∃ x, x = d.s := ⟨_, rfl⟩
      rw [← hate] at q1 hai
      rw [← htxe] at q3 hts
      have HQ1 := hide (fun w' hb' => (hcell w' hb').2.1)
      have HQ3 := hide (fun w' hb' => (hcell w' hb').2.2)
      rw [← hde, ← hate] at HQ1
      rw [← hde, ← htxe] at HQ3
      have hcapi : ll ≤ cap := by have := HLL.out; omega
      have hkli : (k : Int) < (ll : Int) := by omega
      clear hcell hd hde hate htxe q0
      clear hok hva hvb hb
      go_wp2_with fail
      refine wp_stl 11 (by kernel_rfl) (by kernel_rfl) ?_
      simp only [List.take_succ_cons, List.take_zero, List.drop_succ_cons, List.drop_zero]
      repeat still_step
      refine wpStill_nil ?_
      go_wp2_with fail
      refine (dwrite_gen (show DV wr.drew ga ca (.slice (some ⟨ra, 0, none⟩) L L) D from HVA.out) HOK.out.len (by omega) at_ hai tx (by omega)).mono ?_
      rintro e w4 ⟨ec, rfl, hva4, hf4'⟩
      have hf4 : Fr (fun j => j = ca ∨ j = ra) wr w4 := ⟨hf4'.os, hf4'.tape, hf4'.output, hf4'.size, hf4'.block⟩
      have hvb4 := HVBB.out.apart hf4 HSEP.out.2
      have hb4 := HB.out.trans (hf4.below _ HB.out.size (fun j hj e => by have := HBL.out; omega))
      have p1 := HQ1.out w4 hb4
      have p3 := HQ3.out w4 hb4
      clear hf4' hf4
      go_wp2_with fail
      refine wp_stl 11 (by kernel_rfl) (by kernel_rfl) ?_
      simp only [List.take_succ_cons, List.take_zero, List.drop_succ_cons, List.drop_zero]
      repeat still_step
      refine wpStill_nil ?_
      go_wp2_with fail
      refine (dwrite_gen (show DV w4.drew gb cb (.slice (some ⟨rb, 0, none⟩) L L) D from hvb4) HOK.out.len (by omega) at_ hai tx (by omega)).mono ?_
      rintro e w5 ⟨ec2, rfl, hvb5, hf5'⟩
      have hf5 : Fr (fun j => j = cb ∨ j = rb) w4 w5 := ⟨hf5'.os, hf5'.tape, hf5'.output, hf5'.size, hf5'.block⟩
      have hva5 := hva4.apart hf5 HSEP.out.1
      have hb5 := hb4.trans (hf5.below _ hb4.size (fun j hj e => by have := HBL.out; omega))
      clear hf5' hf5 hva4 hvb4 hb4 p1 p3
      have HRES := hide (show Sk1 w ga ca ra gb cb rb L ll w5 (.int .i64 ((k + 1 : Nat) : Int)) from ⟨k + 1, D.wr at_ tx, rfl, hkl, HOK.out.wr _ _, hva5, hvb5, hb5⟩)
      clear hva5 hvb5 hb5
      go_wp2
      exact ⟨HRES.out, by simp only [intOf]; omega⟩
    · have hke : ll = k := by omega
      subst hke
      obtain ⟨F, hF⟩ : ∃ F, F = D.flush := ⟨_, rfl⟩
      have HFO := hide (show DOk L F by rw [hF]; exact hok.flush)
      have HF0 := hide (show Since F F by rw [hF]; exact Since.start D)
      have HFF := hide hF
      clear hok hva hvb hb hF
      go_wp2_with fail
      refine (flush_any HVA.out).mono ?_
      rintro e w4 ⟨rfl, hva4, hf4, -⟩
      rw [← HFF.out] at hva4
      have hvb4 := HVBB.out.apart (hf4.mono (fun _ _ e => .inl e) : Fr (fun j => j = ca ∨ j = ra) _ _) HSEP.out.2
      have hb4 := HB.out.trans (hf4.below _ HB.out.size (fun j hj e => by have := HBL.out; omega))
      go_wp2_with fail
      refine (flush_any hvb4).mono ?_
      rintro e w5 ⟨rfl, hvb5, hf5, -⟩
      rw [← HFF.out] at hvb5
      have hva5 := hva4.apart (hf5.mono (fun _ _ e => .inl e) : Fr (fun j => j = cb ∨ j = rb) _ _) HSEP.out.1
      have hb5 := hb4.trans (hf5.below _ hb4.size (fun j hj e => by have := HBL.out; omega))
      clear hva4 hvb4 hf4 hf5 hb4
      go_wp2_with fail
      refine (sectors_any hvb5).mono ?_
      rintro e w6 ⟨rfl, rfl⟩
      have HRD := hide (dread_ok hvb5 HFO.out.ok HFO.out.lost 0 L hLr.1 (by omega) (by omega) HFO.out.len)
      go_wp2_with fail
      refine HRD.out.mono ?_
      rintro e w6 ⟨rfl, hb6⟩
      obtain ⟨sure, hsure⟩ : ∃ s, s = F.read 0 L := ⟨_, rfl⟩
      rw [← hsure]
      have HSURE := hide hsure
      have HS2 := hide (show Sk2 w ga ca ra gb cb rb L lm F w6 (.int .i64 0) from ⟨0, F, rfl, Nat.zero_le _, HFO.out, HF0.out, hva5.below hb6, hvb5.below hb6, hb5.trans (hb6.mono hb5.size)⟩)
      clear hva5 hvb5 hb5 hb6 hsure
      go_wp2_with fail
      go_loopw [12] (fun iv wr => Sk2 w ga ca ra gb cb rb L lm F wr iv) (fun iv _ => lm - (intOf iv).toNat)
      case atStart => exact HS2.out
      case round =>
        obtain ⟨k, D, rfl, hk, hok, hsi, hva, hvb, hb⟩ := hrel
        have HOK := hide hok
        have HSI := hide hsi
        have HVA := hide hva
        have HVBB := hide hvb
        have HB := hide hb
        rcases Nat.lt_or_ge k lm with hkl | hkl
        · obtain ⟨a, rfl, hc1, hc2, hcell⟩ := HVB.out.at (k := k) (by have := HLM.out; omega)
          simp only [maxLen] at hc2
          obtain ⟨q0, q1, q3⟩ := hcell wr hb
          have hd := HZB.out _ (List.getElem_mem (show k < l2.length by have := HLM.out; omega))
          have hts := HFEWB.out.2.2 _ (List.getElem_mem (show k < l2.length by have := HLM.out; omega))
          obtain ⟨d, hde⟩ : ∃ d, d = l2[k]'(by have := HLM.out; omega) := ⟨_, rfl⟩
          rw [← hde] at q0 q1 q3 hd hts
          have hai := wf_i64 hd.2.1
          obtain ⟨at_, hate⟩ : ∃ x, x = d.a := ⟨_, rfl⟩
          obtain ⟨tx, htxe⟩ : ∃ x, x = d.s := ⟨_, rfl⟩
          rw [← hate] at q1 hai
          rw [← htxe] at q3 hts
          have HQ1 := hide (fun w' hb' => (hcell w' hb').2.1)
          have HQ3 := hide (fun w' hb' => (hcell w' hb').2.2)
          rw [← hde, ← hate] at HQ1
          rw [← hde, ← htxe] at HQ3
          have hcapi : lm ≤ cap2 := by have := HLM.out; omega
          have hkli : (k : Int) < (lm : Int) := by omega
          clear hcell hd hde hate htxe q0
          clear hok hsi hva hvb hb
          go_wp2_with fail
          refine wp_stl 11 (by kernel_rfl) (by kernel_rfl) ?_
          simp only [List.take_succ_cons, List.take_zero, List.drop_succ_cons, List.drop_zero]
          repeat still_step
          refine wpStill_nil ?_
          go_wp2_with fail
          refine (dwrite_gen (show DV wr.drew ga ca (.slice (some ⟨ra, 0, none⟩) L L) D from HVA.out) HOK.out.len (by omega) at_ hai tx (by omega)).mono ?_
          rintro e w4 ⟨ec, rfl, hva4, hf4'⟩
          have hf4 : Fr (fun j => j = ca ∨ j = ra) wr w4 := ⟨hf4'.os, hf4'.tape, hf4'.output, hf4'.size, hf4'.block⟩
          have hvb4 := HVBB.out.apart hf4 HSEP.out.2
          have hb4 := HB.out.trans (hf4.below _ HB.out.size (fun j hj e => by have := HBL.out; omega))
          have p1 := HQ1.out w4 hb4
          have p3 := HQ3.out w4 hb4
          clear hf4' hf4
          go_wp2_with fail
          refine wp_stl 11 (by kernel_rfl) (by kernel_rfl) ?_
          simp only [List.take_succ_cons, List.take_zero, List.drop_succ_cons, List.drop_zero]
          repeat still_step
          refine wpStill_nil ?_
          go_wp2_with fail
          refine (dwrite_gen (show DV w4.drew gb cb (.slice (some ⟨rb, 0, none⟩) L L) D from hvb4) HOK.out.len (by omega) at_ hai tx (by omega)).mono ?_
          rintro e w5 ⟨ec2, rfl, hvb5, hf5'⟩
          have hf5 : Fr (fun j => j = cb ∨ j = rb) w4 w5 := ⟨hf5'.os, hf5'.tape, hf5'.output, hf5'.size, hf5'.block⟩
          have hva5 := hva4.apart hf5 HSEP.out.1
          have hb5 := hb4.trans (hf5.below _ hb4.size (fun j hj e => by have := HBL.out; omega))
          clear hf5' hf5 hva4 hvb4 hb4 p1 p3
          have HRES := hide (show Sk2 w ga ca ra gb cb rb L lm F w5 (.int .i64 ((k + 1 : Nat) : Int)) from ⟨k + 1, D.wr at_ tx, rfl, hkl, HOK.out.wr _ _, HSI.out.wr _ _, hva5, hvb5, hb5⟩)
          clear hva5 hvb5 hb5
          go_wp2
          exact ⟨HRES.out, by simp only [intOf]; omega⟩
        · have hke : lm = k := by omega
          subst hke
          clear hok hsi hva hvb hb
          go_wp2_with fail
          refine (sectors_any HVA.out).mono ?_
          rintro e w7 ⟨rfl, rfl⟩
          have HRA := hide (dread_ok HVA.out HOK.out.ok HOK.out.lost 0 L hLr.1 (by omega) (by omega) HOK.out.len)
          go_wp2_with fail
          refine HRA.out.mono ?_
          rintro e w7 ⟨rfl, hb7⟩
          obtain ⟨was, hwas⟩ : ∃ s, s = D.read 0 L := ⟨_, rfl⟩
          rw [← hwas]
          have HWAS := hide hwas
          have hva7 := HVA.out.below hb7
          have hvb7 := HVBB.out.below hb7
          have hB7 := HB.out.trans (hb7.mono HB.out.size)
          clear hb7 hwas
          have HLO := hide (dloose_any hva7 HOK.out.ok (by rw [HOK.out.len]; omega))
          go_wp2_with fail
          refine HLO.out.mono ?_
          rintro e w8 ⟨lv, rfl, hl8, hb8⟩
          obtain ⟨zA, zc, rfl⟩ := EK.row_slice hl8
          have hva8 := hva7.below hb8
          have hvb8 := hvb7.below hb8
          have hB8 := hB7.trans (hb8.mono hB7.size)
          clear hva7 hvb7 hB7 hb8 hl8
          obtain ⟨zl, hzl⟩ : ∃ zl, zl = (looseL D).length := ⟨_, rfl⟩
          rw [← hzl]
          have hzb : zl ≤ 4096 := by rw [hzl]; exact Nat.le_trans (looseL_len D) (by rw [HOK.out.len]; omega)
          have HZL := hide hzl
          clear hzl
          go_wp2_with fail
          refine (crash_any hva8 HOK.out.ok (by omega) HOK.out.len 18446744073709551615 0).mono ?_
          rintro e w9 ⟨rfl, hva9, hf9⟩
          have hvb9 := hvb8.apart hf9 HSEP.out.2
          have hB9 := hB8.trans (hf9.below _ hB8.size (fun j hj e => by have := HBL.out; omega))
          clear hva8 hvb8 hB8 hf9
          go_wp2_with fail
          refine (crash_any hvb9 HOK.out.ok (by omega) HOK.out.len 0 0).mono ?_
          rintro e w10 ⟨rfl, hvb10, hf10⟩
          have hva10 := hva9.apart hf10 HSEP.out.1
          have hB10 := hB9.trans (hf10.below _ hB9.size (fun j hj e => by have := HBL.out; omega))
          clear hva9 hvb9 hB9 hf10
          have HEA := hide (HOK.out.crash 18446744073709551615 0)
          have HEB := hide (HOK.out.crash 0 0)
          go_wp2_with fail
          refine (sectors_any hva10).mono ?_
          rintro e w11 ⟨rfl, rfl⟩
          have HRX := hide (dread_ok hva10 HEA.out.ok HEA.out.lost 0 L hLr.1 (by omega) (by omega) HEA.out.len)
          go_wp2_with fail
          refine HRX.out.mono ?_
          rintro e w11 ⟨rfl, hb11⟩
          have hvb11 := hvb10.below hb11
          have hB11 := hB10.trans (hb11.mono hB10.size)
          clear hva10 hvb10 hB10 hb11
          obtain ⟨x, hx⟩ : ∃ s, s = (D.crash 18446744073709551615 0).read 0 L := ⟨_, rfl⟩
          rw [← hx]
          have HX := hide hx
          clear hx
          go_wp2_with fail
          refine (sectors_any hvb11).mono ?_
          rintro e w12 ⟨rfl, rfl⟩
          have HRY := hide (dread_ok hvb11 HEB.out.ok HEB.out.lost 0 L hLr.1 (by omega) (by omega) HEB.out.len)
          rw [crash_back HOK.out.ok HSI.out L, ← HSURE.out] at HRY
          go_wp2_with fail
          refine HRY.out.mono ?_
          rintro e w12 ⟨rfl, hb12⟩
          have HB12 := hide (hB11.trans (hb12.mono hB11.size))
          clear hvb11 hB11 hb12
          rcases Nat.lt_or_ge 64 zl with hmany | hmany
          · have hm1 : decide ((64 : Int) < (zl : Int)) = true := decide_eq_true (by omega)
            go_wp2_with fail
            refine (AW.out _).mono ?_
            rintro e w13 ⟨rfl, hb13⟩
            have HBF := hide (HB12.out.trans (hb13.mono HB12.out.size))
            clear hb13
            go_wp2
            go_ret
            exact ⟨rfl, HBF.out⟩
          · have hm1 : decide ((64 : Int) < (zl : Int)) = false := decide_eq_false (by omega)
            have hxw : x = was := by rw [HX.out, HWAS.out]; exact crash_all (by have := HZL.out; omega) L
            subst hxw
            go_wp2_with fail
            refine (AW.out _).mono ?_
            rintro e w13 ⟨rfl, hb13⟩
            have HBF := hide (HB12.out.trans (hb13.mono HB12.out.size))
            clear hb13
            go_wp2
            go_ret
            exact ⟨rfl, HBF.out⟩
end Go.Proofs.Ytpebilhdlblgoaa
