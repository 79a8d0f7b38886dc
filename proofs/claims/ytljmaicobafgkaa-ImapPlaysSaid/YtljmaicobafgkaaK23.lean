/- A join of 1 texts of this claim: ImW3. Conditions: none of their own. -/
import Derived.Test.YtljmaicobafgkaaK18
import Derived.Test.YtljmaicobafgkaaK20
import Derived.Test.YtljmaicobafgkaaK21
import Derived.Test.YtljmaicobafgkaaK22
section
/- Chapter 25, imap: the walk of ImapBack. -/
namespace Go.Proofs.Ytljmaicobafgkaa
open Go.RowKit

theorem textB25_congr {M M' : Nat → Spot} (h : entUp M' 256 = entUp M 256) : textB25 M' = textB25 M := by
  unfold textB25
  rw [h]
theorem FreeN.congr {M M' : Nat → Spot} {r : Nat} (hv : ∀ i, i < 256 → (M' i).ver = (M i).ver) (h : FreeN M' r) : FreeN M r := by
  rcases h with ⟨h0, h⟩ | ⟨a, b, c, h⟩
  · exact .inl ⟨h0, fun i h1 h2 => by rw [← hv i h2]; exact h i h1 h2⟩
  · exact .inr ⟨a, b, by rw [← hv r b]; exact c, fun i h1 h2 => by rw [← hv i (by omega)]; exact h i h1 h2⟩
set_option maxHeartbeats 8000000 in
set_option maxRecDepth 1000000 in
theorem walk_imapBack (v : Value) (l : List Deed) (s : ByteArray) (w : World) (h : DeedArg w v l) (_hwf : ∀ x ∈ l, x.wf) (hs : s.size ≤ 140737488351232) :
    Calls Try.prog 5 #[v, .string s] w fun e w' => e = .returned (.bool true) ∧ Below w.heap.size w w' := by
  have hlen : l.length ≤ 9223372036854775807 := Nat.le_trans h.len (by decide)
  obtain ⟨A, c, hv⟩ := h.slice
  subst hv
  have HD := hide h
  clear h
  rcases Nat.lt_or_ge 60 l.length with h60 | h60
  · have h60' : (60 : Int) < (l.length : Int) := by omega
    go_enter Try.func5, Try.ntmps5
    go_wp2_with fail
    refine (awake25 _).mono ?_
    rintro e w1 ⟨rfl, hb1⟩
    go_wp2
    go_ret
    exact ⟨rfl, hb1⟩
  have h60' : ¬ (60 : Int) < (l.length : Int) := by omega
  rcases Nat.lt_or_ge 10000 s.size with h10 | h10
  · have h10' : (10000 : Int) < (s.size : Int) := by omega
    go_enter Try.func5, Try.ntmps5
    go_wp2_with fail
    refine (awake25 _).mono ?_
    rintro e w1 ⟨rfl, hb1⟩
    go_wp2
    go_ret
    exact ⟨rfl, hb1⟩
  have h10' : ¬ (10000 : Int) < (s.size : Int) := by omega
  go_enter Try.func5, Try.ntmps5
  go_wp2_with fail
  refine (read25_any s _ (by omega)).mono ?_
  rintro e w1 ⟨hp, hb1⟩
  have HB1 := hide hb1
  unfold RdPost at hp
  rcases hr : rdOut s.data.toList with _ | M
  · rw [hr] at hp
    simp only at hp
    subst hp
    clear hb1
    go_wp2_with fail
    refine (rread_any s _ (by omega)).mono ?_
    rintro e w2 ⟨hq, hb2⟩
    unfold RRdPost at hq
    rw [hr] at hq
    simp only at hq
    obtain ⟨C, rC, rfl⟩ := hq
    have hbx := HB1.out.trans (hb2.mono HB1.out.size)
    have hsc := run_storeCells_new (P := Try.prog) w2 30 Try.zeroCells30 C (by rw [rC.1]; exact info30s) (by rw [rC.1, rep_z30.1]) rC.one
    have HBZ := hide (hbx.alloc hbx.size (.cells C 30))
    have hCs := rC.1
    go_wp2_with fail
    refine (new25_any _).mono ?_
    rintro e x1 ⟨rfl, hm1, hb1⟩
    obtain ⟨g, hg⟩ : ∃ g, g = (w2.alloc (.cells C 30)).heap.size := ⟨_, rfl⟩
    rw [← hg] at hm1 ⊢
    have HGW : Hid (w.heap.size ≤ g) := hide (by rw [hg]; exact HBZ.out.size)
    have HST : Hid (ImS w g l.length x1 (.int .i64 0)) := hide ⟨0, z25, rfl, Nat.zero_le _, hm1, mokN_zero, HBZ.out.trans (hb1.mono HBZ.out.size)⟩
    clear hm1 hb1 hg
    go_wp2_with fail
    go_loopw [10] (fun iv wr => ImS w g l.length wr iv) (fun iv _ => l.length - (intOf iv).toNat)
    case atStart => exact HST.out
    case round =>
      obtain ⟨k, M, rfl, hk, hM, hok, hb⟩ := hrel
      have HM := hide hM
      have HOK := hide hok
      have HB := hide hb
      clear hM hok hb
      rcases Nat.lt_or_ge k l.length with hkl | hkl
      · obtain ⟨a, cap, hv, hc1, hc2, c0, c1, c2, c3, c4, c5, c6, c7⟩ := (HD.out.below HB.out).cells hkl
        cases hv
        generalize l[k] = d at c0 c1 c2 c3 c4 c5 c6 c7
        clear c0 c7
        go_wp2_with fail
        refine wp_stl 16 (by kernel_rfl) (by kernel_rfl) ?_
        simp only [List.take_succ_cons, List.take_zero, List.drop_succ_cons, List.drop_zero]
        repeat still_step
        refine wpStill_nil ?_
        go_wp2_with fail
        refine (move_any g M d.inode d.ver d.sp wr.drew HM.out (HOK.out.ok (by omega))).mono ?_
        rintro e x3 ⟨rfl, hm3, hf3⟩
        have HST2 : Hid (ImS w g l.length x3 (.int .i64 ((k + 1 : Nat) : Int))) := hide ⟨k + 1, _, rfl, hkl, hm3, HOK.out.move _ _ _, HB.out.drew.trans (hf3.below _ HB.out.size (fun q hq e => by have := HGW.out; omega))⟩
        clear hm3 hf3
        go_wp2
        go_roundw
        case rel => exact HST2.out
        case measure => simp [intOf]; omega
      · obtain rfl : k = l.length := by omega
        have hMo := HOK.out.ok (by omega)
        obtain ⟨M', hr2, hMo2, hq, hve⟩ := rd_text hMo (fun i hi => by have := (HOK.out.2 i hi).2.1; omega)
        have HMO2 := hide hMo2
        have HMO1 := hide hMo
        have hent : entUp M' 256 = entUp M 256 := entUp_congr 256 (fun i hi => ⟨hve i hi, fun h => by rw [hq i hi, if_pos h]⟩)
        have htl : (textB25 M).length ≤ 1073741824 := Nat.le_trans (textB25_len hMo) (by decide)
        have HTE := hide (textB25_congr hent)
        have HEN := hide hent
        have HVE := hide hve
        have HR2X := hide hr2
        clear hMo hMo2 hq hve hent hr2
        go_wp2_with fail
        refine (mtext_any g M _ HM.out HMO1.out).mono ?_
        rintro e y1 ⟨rfl, hb1⟩
        have HMa := hide (HM.out.below hb1)
        have HBa := hide (HB.out.trans (hb1.mono HB.out.size))
        obtain ⟨o, ho⟩ : ∃ o, o = textB25 M := ⟨_, rfl⟩
        rw [← ho] at htl HTE HR2X ⊢
        have HO := hide ho
        clear hb1 ho
        go_wp2_with fail
        refine (read25_any ⟨o.toArray⟩ _ (by rw [str_size]; exact htl)).mono ?_
        rintro e y2 ⟨hp, hb2⟩
        unfold RdPost at hp
        rw [str_list, HR2X.out] at hp
        obtain ⟨g3, rfl, hI3, hg3⟩ := hp
        have HI3 := hide hI3
        have HMb := hide (HMa.out.below hb2)
        have HBb := hide (HBa.out.trans (hb2.mono HBa.out.size))
        clear hb2 hI3 hg3
        go_wp2_with fail
        refine (mtext_any g3 M' _ HI3.out HMO2.out).mono ?_
        rintro e y3 ⟨rfl, hb3⟩
        rw [HTE.out]
        have HIc := hide (HI3.out.below hb3)
        have HMc := hide (HMb.out.below hb3)
        have HBc := hide (HBb.out.trans (hb3.mono HBb.out.size))
        clear hb3
        go_wp2_with fail
        refine (mtext_any g M _ HMc.out HMO1.out).mono ?_
        rintro e y4 ⟨rfl, hb4⟩
        rw [← HO.out]
        have HId := hide (HIc.out.below hb4)
        have HMd := hide (HMc.out.below hb4)
        have HBd := hide (HBc.out.trans (hb4.mono HBc.out.size))
        clear hb4
        go_wp2_with fail
        refine (all_any g3 M' _ HId.out).mono ?_
        rintro e y5 ⟨v5, rfl, hO5, hb5⟩
        rw [HEN.out] at hO5
        have HO5 := hide (IntArg.of_row hO5)
        have HIe := hide (HId.out.below hb5)
        have HMe := hide (HMd.out.below hb5)
        have HBe := hide (HBd.out.trans (hb5.mono HBd.out.size))
        clear hb5 hO5
        go_wp2_with fail
        refine (all_any g M _ HMe.out).mono ?_
        rintro e y6 ⟨v6, rfl, hO6, hb6⟩
        have HO6 := hide (IntArg.of_row hO6)
        have HO5b := hide (HO5.out.below hb6)
        have HIf := hide (HIe.out.below hb6)
        have HMf := hide (HMe.out.below hb6)
        have HBf := hide (HBe.out.trans (hb6.mono HBe.out.size))
        clear hb6 hO6
        go_wp2_with fail
        refine (ints_yes _ _ (entUp M 256) _ (Nat.le_trans (entUp_len M 256) (by decide)) HO5b.out HO6.out).mono ?_
        rintro e y7 ⟨rfl, hb7⟩
        have HIg := hide (HIf.out.below hb7)
        have HMg := hide (HMf.out.below hb7)
        have HBg := hide (HBf.out.trans (hb7.mono HBf.out.size))
        clear hb7
        go_wp2_with fail
        refine (free_any g3 M' _ HIg.out).mono ?_
        rintro e y8 ⟨⟨r1, hr1, rfl⟩, rfl⟩
        go_wp2_with fail
        refine (free_any g M _ HMg.out).mono ?_
        rintro e y9 ⟨⟨r2, hr2, rfl⟩, rfl⟩
        obtain rfl := FreeN.uniq (FreeN.congr HVE.out hr1) hr2
        clear hr1 hr2
        go_wp2_with fail
        refine (awake25 _).mono ?_
        rintro e y10 ⟨rfl, hb10⟩
        go_wp2
        go_ret
        exact ⟨rfl, HBg.out.trans (hb10.mono HBg.out.size)⟩
  · rw [hr] at hp
    simp only at hp
    obtain ⟨g2, rfl, hI1, hg2⟩ := hp
    have HI1 := hide hI1
    clear hb1 hI1
    obtain ⟨ht, hMok, hMv⟩ := rd_inv hr
    go_wp2_with fail
    refine (rread_any s _ (by omega)).mono ?_
    rintro e w2 ⟨hq, hb2⟩
    unfold RRdPost at hq
    rw [hr] at hq
    simp only at hq
    obtain ⟨C, rC, rfl⟩ := hq
    have hbx := HB1.out.trans (hb2.mono HB1.out.size)
    have HBZ0 := hide (hbx.alloc hbx.size (.cells C 30))
    have HR3 := hide (rm_new rC w2)
    have HI3 := hide ((HI1.out.below hb2).below ((Below.refl _ _).alloc (Nat.le_refl _) (.cells C 30)))
    have hsc := run_storeCells_new (P := Try.prog) w2 30 Try.zeroCells30 C (by rw [rC.1]; exact info30s) (by rw [rC.1, rep_z30.1]) rC.one
    have hse : (⟨(textB25 M).toArray⟩ : ByteArray) = s := by rw [ht]
    have HSE := hide hse
    have HMO := hide hMok
    clear hb2 hbx hr ht hse hMok hMv
    have hCs := rC.1
    go_wp2_with fail
    refine (mtext_any g2 M _ HI3.out HMO.out).mono ?_
    rintro e w4 ⟨rfl, hb4⟩
    rw [HSE.out]
    have HR4 := hide (HR3.out.below hb4)
    have HBZ1 := hide (HBZ0.out.trans (hb4.mono HBZ0.out.size))
    clear hb4
    obtain ⟨C4, hC4, rC4⟩ := HR4.out
    have HL4 := hide (load30 rC4 hC4)
    have HRC := hide rC4
    clear hC4 rC4
    go_wp2_with fail
    refine wp_loadv 30 (.tmp 7) rfl rfl HL4.out ?_
    go_wp2_with fail
    refine (rtext_any C4 M HRC.out HMO.out _).mono ?_
    rintro e w5 ⟨rfl, hb5⟩
    rw [HSE.out]
    have HBZ := hide (HBZ1.out.trans (hb5.mono HBZ1.out.size))
    clear hb5
    go_wp2_with fail
    refine (new25_any _).mono ?_
    rintro e x1 ⟨rfl, hm1, hb1⟩
    obtain ⟨g, hg⟩ : ∃ g, g = w5.heap.size := ⟨_, rfl⟩
    rw [← hg] at hm1 ⊢
    have HGW : Hid (w.heap.size ≤ g) := hide (by rw [hg]; exact HBZ.out.size)
    have HST : Hid (ImS w g l.length x1 (.int .i64 0)) := hide ⟨0, z25, rfl, Nat.zero_le _, hm1, mokN_zero, HBZ.out.trans (hb1.mono HBZ.out.size)⟩
    clear hm1 hb1 hg
    go_wp2_with fail
    go_loopw [10] (fun iv wr => ImS w g l.length wr iv) (fun iv _ => l.length - (intOf iv).toNat)
    case atStart => exact HST.out
    case round =>
      obtain ⟨k, M, rfl, hk, hM, hok, hb⟩ := hrel
      have HM := hide hM
      have HOK := hide hok
      have HB := hide hb
      clear hM hok hb
      rcases Nat.lt_or_ge k l.length with hkl | hkl
      · obtain ⟨a, cap, hv, hc1, hc2, c0, c1, c2, c3, c4, c5, c6, c7⟩ := (HD.out.below HB.out).cells hkl
        cases hv
        generalize l[k] = d at c0 c1 c2 c3 c4 c5 c6 c7
        clear c0 c7
        go_wp2_with fail
        refine wp_stl 16 (by kernel_rfl) (by kernel_rfl) ?_
        simp only [List.take_succ_cons, List.take_zero, List.drop_succ_cons, List.drop_zero]
        repeat still_step
        refine wpStill_nil ?_
        go_wp2_with fail
        refine (move_any g M d.inode d.ver d.sp wr.drew HM.out (HOK.out.ok (by omega))).mono ?_
        rintro e x3 ⟨rfl, hm3, hf3⟩
        have HST2 : Hid (ImS w g l.length x3 (.int .i64 ((k + 1 : Nat) : Int))) := hide ⟨k + 1, _, rfl, hkl, hm3, HOK.out.move _ _ _, HB.out.drew.trans (hf3.below _ HB.out.size (fun q hq e => by have := HGW.out; omega))⟩
        clear hm3 hf3
        go_wp2
        go_roundw
        case rel => exact HST2.out
        case measure => simp [intOf]; omega
      · obtain rfl : k = l.length := by omega
        have hMo := HOK.out.ok (by omega)
        obtain ⟨M', hr2, hMo2, hq, hve⟩ := rd_text hMo (fun i hi => by have := (HOK.out.2 i hi).2.1; omega)
        have HMO2 := hide hMo2
        have HMO1 := hide hMo
        have hent : entUp M' 256 = entUp M 256 := entUp_congr 256 (fun i hi => ⟨hve i hi, fun h => by rw [hq i hi, if_pos h]⟩)
        have htl : (textB25 M).length ≤ 1073741824 := Nat.le_trans (textB25_len hMo) (by decide)
        have HTE := hide (textB25_congr hent)
        have HEN := hide hent
        have HVE := hide hve
        have HR2X := hide hr2
        clear hMo hMo2 hq hve hent hr2
        go_wp2_with fail
        refine (mtext_any g M _ HM.out HMO1.out).mono ?_
        rintro e y1 ⟨rfl, hb1⟩
        have HMa := hide (HM.out.below hb1)
        have HBa := hide (HB.out.trans (hb1.mono HB.out.size))
        obtain ⟨o, ho⟩ : ∃ o, o = textB25 M := ⟨_, rfl⟩
        rw [← ho] at htl HTE HR2X ⊢
        have HO := hide ho
        clear hb1 ho
        go_wp2_with fail
        refine (read25_any ⟨o.toArray⟩ _ (by rw [str_size]; exact htl)).mono ?_
        rintro e y2 ⟨hp, hb2⟩
        unfold RdPost at hp
        rw [str_list, HR2X.out] at hp
        obtain ⟨g3, rfl, hI3, hg3⟩ := hp
        have HI3 := hide hI3
        have HMb := hide (HMa.out.below hb2)
        have HBb := hide (HBa.out.trans (hb2.mono HBa.out.size))
        clear hb2 hI3 hg3
        go_wp2_with fail
        refine (mtext_any g3 M' _ HI3.out HMO2.out).mono ?_
        rintro e y3 ⟨rfl, hb3⟩
        rw [HTE.out]
        have HIc := hide (HI3.out.below hb3)
        have HMc := hide (HMb.out.below hb3)
        have HBc := hide (HBb.out.trans (hb3.mono HBb.out.size))
        clear hb3
        go_wp2_with fail
        refine (mtext_any g M _ HMc.out HMO1.out).mono ?_
        rintro e y4 ⟨rfl, hb4⟩
        rw [← HO.out]
        have HId := hide (HIc.out.below hb4)
        have HMd := hide (HMc.out.below hb4)
        have HBd := hide (HBc.out.trans (hb4.mono HBc.out.size))
        clear hb4
        go_wp2_with fail
        refine (all_any g3 M' _ HId.out).mono ?_
        rintro e y5 ⟨v5, rfl, hO5, hb5⟩
        rw [HEN.out] at hO5
        have HO5 := hide (IntArg.of_row hO5)
        have HIe := hide (HId.out.below hb5)
        have HMe := hide (HMd.out.below hb5)
        have HBe := hide (HBd.out.trans (hb5.mono HBd.out.size))
        clear hb5 hO5
        go_wp2_with fail
        refine (all_any g M _ HMe.out).mono ?_
        rintro e y6 ⟨v6, rfl, hO6, hb6⟩
        have HO6 := hide (IntArg.of_row hO6)
        have HO5b := hide (HO5.out.below hb6)
        have HIf := hide (HIe.out.below hb6)
        have HMf := hide (HMe.out.below hb6)
        have HBf := hide (HBe.out.trans (hb6.mono HBe.out.size))
        clear hb6 hO6
        go_wp2_with fail
        refine (ints_yes _ _ (entUp M 256) _ (Nat.le_trans (entUp_len M 256) (by decide)) HO5b.out HO6.out).mono ?_
        rintro e y7 ⟨rfl, hb7⟩
        have HIg := hide (HIf.out.below hb7)
        have HMg := hide (HMf.out.below hb7)
        have HBg := hide (HBf.out.trans (hb7.mono HBf.out.size))
        clear hb7
        go_wp2_with fail
        refine (free_any g3 M' _ HIg.out).mono ?_
        rintro e y8 ⟨⟨r1, hr1, rfl⟩, rfl⟩
        go_wp2_with fail
        refine (free_any g M _ HMg.out).mono ?_
        rintro e y9 ⟨⟨r2, hr2, rfl⟩, rfl⟩
        obtain rfl := FreeN.uniq (FreeN.congr HVE.out hr1) hr2
        clear hr1 hr2
        go_wp2_with fail
        refine (awake25 _).mono ?_
        rintro e y10 ⟨rfl, hb10⟩
        go_wp2
        go_ret
        exact ⟨rfl, HBg.out.trans (hb10.mono HBg.out.size)⟩
end Go.Proofs.Ytljmaicobafgkaa
end
