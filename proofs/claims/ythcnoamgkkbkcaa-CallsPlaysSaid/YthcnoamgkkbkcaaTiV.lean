/- Chapter 07, timers: container/heap's down, over a pile. -/
import Derived.Test.YthcnoamgkkbkcaaTiU
namespace Go.Proofs.Ythcnoamgkkbkcaa
open Go.RowKit

def DnQ (w : World) (B p c n i0 : Nat) (v : Value) (l : List Tm) (b : Bool) (w' : World) : Prop :=
  ∃ l', Sam n l l' ∧ PA w' B p c v l' ∧ Fr (fun k => v.ownBlock = some k ∨ k = c) w w' ∧ (b = true → HpI l' n) ∧ (b = false → l' = l ∧ UPre l n i0)
def DnS (w : World) (B p c n i0 : Nat) (v : Value) (l : List Tm) (wr : World) (iv : Value) : Prop :=
  ∃ (k : Nat) (l' : List Tm), iv = .int .i64 (k : Int) ∧ i0 ≤ k ∧ k ≤ 65536 ∧ DPre l' n k i0 ∧ Sam n l l' ∧ (k = i0 → l' = l) ∧ PA wr B p c v l' ∧ Fr (fun k => v.ownBlock = some k ∨ k = c) w wr
theorem dn_exit {w w' : World} {B p c n i0 k : Nat} {v : Value} {l l' : List Tm} (hk : i0 ≤ k) (hd : DPre l' n k i0) (hmin : ∀ q, 0 < q → q < n → (q - 1) / 2 = k → Tle (tat l' k) (tat l' q)) (hs : Sam n l l') (he : k = i0 → l' = l) (hp : PA w' B p c v l') (hf : Fr (fun k => v.ownBlock = some k ∨ k = c) w w') :
    DnQ w B p c n i0 v l (decide (i0 < k)) w' := by
  refine ⟨l', hs, hp, hf, fun h => ?_, fun h => ?_⟩
  · have : i0 < k := by simpa using h
    exact hd.done hmin (by omega)
  · have hki : k = i0 := by simp at h; omega
    have hl := he hki
    subst hl hki
    exact ⟨rfl, hd.done0 hmin⟩
set_option maxHeartbeats 8000000 in
set_option maxRecDepth 100000 in
theorem down_any {w : World} {B p c n : Nat} {v : Value} {l : List Tm} (h : PA w B p c v l) (hn : n ≤ l.length) (hm : l.length ≤ 65536) (i0 : Nat) (hi : i0 ≤ 65536) (hd : DPre l n i0 i0) :
    Calls Try.prog 99 #[.iface 141 (.pointer (some ⟨p, 0, none⟩)), .int .i64 (i0 : Int), .int .i64 (n : Int)] w fun e w' => ∃ b, e = .returned (.bool b) ∧ DnQ w B p c n i0 v l b w' := by
  have HS := hide (show DnS w B p c n i0 v l w (.int .i64 (i0 : Int)) from ⟨i0, l, rfl, Nat.le_refl _, hi, hd, Sam.refl _ _, fun _ => rfl, h, Fr.refl _ _⟩)
  have HN := hide (show n ≤ l.length ∧ l.length ≤ 65536 from ⟨hn, hm⟩)
  have hnb : (n : Int) ≤ 65536 := by omega
  clear h hd hn hm
  go_enter Try.func99, Try.ntmps99
  go_wp2_with fail
  go_loopw [7] (fun iv wr => DnS w B p c n i0 v l wr iv) (fun iv _ => n - (intOf iv).toNat)
  case atStart => exact HS.out
  case round =>
    obtain ⟨k, l', rfl, hik, hkb, hd, hs, he, hp, hf⟩ := hrel
    have hlen := hs.2.1
    have HIK := hide hik
    have HD := hide hd
    have HSM := hide hs
    have HE := hide he
    have HP := hide hp
    have HF := hide hf
    obtain ⟨b, hbb⟩ : ∃ b, b = decide (i0 < k) := ⟨_, rfl⟩
    have hbd : decide (i0 < k) = b := hbb.symm
    obtain ⟨j1, hj1⟩ : ∃ j1, j1 = 2 * k + 1 := ⟨_, rfl⟩
    have hj1i : 2 * (k : Int) + 1 = (j1 : Int) := by rw [hj1]; omega
    have HJ1 := hide hj1
    have hkbi : (k : Int) ≤ 65536 := by omega
    have HX := hide hbb
    clear hd hs he hp hf hik hbb
    rcases Nat.lt_or_ge j1 n with hjn | hjn
    · have hjd : decide (n ≤ j1) = false := by simpa using hjn
      obtain ⟨j2, hj2⟩ : ∃ j2, j2 = j1 + 1 := ⟨_, rfl⟩
      have hj2i : (j1 : Int) + 1 = (j2 : Int) := by rw [hj2]; omega
      have HJ2 := hide hj2
      have hj1b : (j1 : Int) ≤ 131074 := by omega
      have HL := hide (show k < n ∧ j1 < n ∧ n ≤ l'.length ∧ k < j1 from ⟨by omega, hjn, by have := HN.out; omega, by omega⟩)
      clear hj2 hjn hlen hj1
      rcases Nat.lt_or_ge j2 n with hj2n | hj2n
      · have hj2d : decide (j2 < n) = true := by simpa using hj2n
        have HL2 := hide hj2n
        clear hj2n
        have HLS := hide (pless_pa HP.out j2 j1 (by have := HL.out; have := HL2.out; omega) (by have := HL.out; omega))
        rcases hb1 : tlt (tat l' j2) (tat l' j1) with _ | _
        · rw [hb1] at HLS
          have HC := hide (show k < j1 ∧ j1 < n ∧ (j1 - 1) / 2 = k ∧ ∀ q, 0 < q → q < n → (q - 1) / 2 = k → Tle (tat l' j1) (tat l' q) from ⟨HL.out.2.2.2, HL.out.2.1, by have := HJ1.out; omega, fun q h1 h2 h3 => by
            rcases (by have := HJ1.out; have := HJ2.out; omega : q = j1 ∨ q = j2) with e | e
            · rw [e]; exact Tle.refl _
            · rw [e]; exact (tlt_not _ _).1 hb1⟩)
          clear hb1
          go_wp2_with fail
          refine upon_meth 142 (.pointer (some ⟨p, 0, none⟩)) (by kernel_rfl) ?_
          go_wp2_with fail
          refine HLS.out.mono ?_
          rintro e w7 ⟨rfl, hb7⟩
          have HP7 := hide (HP.out.below hb7)
          have HF7 := hide (HF.out.trans (Fr.of_below hb7) (fun _ _ e => e))
          clear hb7
          have HLT := hide (pless_pa HP7.out j1 k (by have := HC.out; have := HL.out; omega) (by have := HL.out; omega))
          rcases hb2 : tlt (tat l' j1) (tat l' k) with _ | _
          · rw [hb2] at HLT
            have HT := hide (show Tle (tat l' k) (tat l' j1) from (tlt_not _ _).1 hb2)
            clear hb2
            go_wp2_with fail
            refine upon_meth 142 (.pointer (some ⟨p, 0, none⟩)) (by kernel_rfl) ?_
            go_wp2_with fail
            refine HLT.out.mono ?_
            rintro e w8 ⟨rfl, hb8⟩
            have HQ := hide (show DnQ w B p c n i0 v l b w8 from by
              rw [HX.out]
              exact dn_exit HIK.out HD.out (fun q h1 h2 h3 => HT.out.trans (HC.out.2.2.2 q h1 h2 h3)) HSM.out HE.out (HP7.out.below hb8) (HF7.out.trans (Fr.of_below hb8) (fun _ _ e => e)))
            clear hb8
            go_wp2_with fail
            go_ret
            exact ⟨b, rfl, HQ.out⟩
          · rw [hb2] at HLT
            have HT := hide (show Tlt (tat l' j1) (tat l' k) from (tlt_iff _ _).1 hb2)
            clear hb2
            go_wp2_with fail
            refine upon_meth 142 (.pointer (some ⟨p, 0, none⟩)) (by kernel_rfl) ?_
            go_wp2_with fail
            refine HLT.out.mono ?_
            rintro e w8 ⟨rfl, hb8⟩
            have HSW := hide (swap_pa (HP7.out.below hb8) k j1 (by have := HL.out; omega) (by have := HC.out; have := HL.out; omega))
            have HF8 := hide (HF7.out.trans (Fr.of_below hb8) (fun _ _ e => e))
            clear hb8
            go_wp2_with fail
            refine upon_meth 145 (.pointer (some ⟨p, 0, none⟩)) (by kernel_rfl) ?_
            go_wp2_with fail
            refine HSW.out.mono ?_
            rintro e w9 ⟨rfl, hp9, hf9⟩
            have HRES := hide (show DnS w B p c n i0 v l w9 (.int .i64 (j1 : Int)) from ⟨j1, swp l' k j1, rfl, by have := HC.out; have := HIK.out; omega, by have := HC.out; have := HL.out; have := HN.out; have := HSM.out.2.1; omega,
              HD.out.step HL.out.2.2.1 HC.out.2.1 HC.out.2.2.1 (by have := HC.out; omega) HT.out HC.out.2.2.2 HIK.out, HSM.out.swp HL.out.1 HC.out.2.1 HN.out.1, fun e => by have := HC.out; have := HIK.out; omega, hp9, HF8.out.trans hf9 (fun _ _ e => e)⟩)
            have hdec : k < j1 ∧ j1 < n := ⟨HC.out.1, HC.out.2.1⟩
            clear hp9 hf9
            go_wp2_with fail
            exact ⟨HRES.out, by simp only [intOf]; omega⟩
        · rw [hb1] at HLS
          have HC := hide (show k < j2 ∧ j2 < n ∧ (j2 - 1) / 2 = k ∧ ∀ q, 0 < q → q < n → (q - 1) / 2 = k → Tle (tat l' j2) (tat l' q) from ⟨by have := HL.out; have := HJ2.out; omega, HL2.out, by have := HJ1.out; have := HJ2.out; omega, fun q h1 h2 h3 => by
            rcases (by have := HJ1.out; have := HJ2.out; omega : q = j1 ∨ q = j2) with e | e
            · rw [e]; exact Tle.of_lt ((tlt_iff _ _).1 hb1)
            · rw [e]; exact Tle.refl _⟩)
          clear hb1
          go_wp2_with fail
          refine upon_meth 142 (.pointer (some ⟨p, 0, none⟩)) (by kernel_rfl) ?_
          go_wp2_with fail
          refine HLS.out.mono ?_
          rintro e w7 ⟨rfl, hb7⟩
          have HP7 := hide (HP.out.below hb7)
          have HF7 := hide (HF.out.trans (Fr.of_below hb7) (fun _ _ e => e))
          clear hb7
          have HLT := hide (pless_pa HP7.out j2 k (by have := HC.out; have := HL.out; omega) (by have := HL.out; omega))
          rcases hb2 : tlt (tat l' j2) (tat l' k) with _ | _
          · rw [hb2] at HLT
            have HT := hide (show Tle (tat l' k) (tat l' j2) from (tlt_not _ _).1 hb2)
            clear hb2
            go_wp2_with fail
            refine upon_meth 142 (.pointer (some ⟨p, 0, none⟩)) (by kernel_rfl) ?_
            go_wp2_with fail
            refine HLT.out.mono ?_
            rintro e w8 ⟨rfl, hb8⟩
            have HQ := hide (show DnQ w B p c n i0 v l b w8 from by
              rw [HX.out]
              exact dn_exit HIK.out HD.out (fun q h1 h2 h3 => HT.out.trans (HC.out.2.2.2 q h1 h2 h3)) HSM.out HE.out (HP7.out.below hb8) (HF7.out.trans (Fr.of_below hb8) (fun _ _ e => e)))
            clear hb8
            go_wp2_with fail
            go_ret
            exact ⟨b, rfl, HQ.out⟩
          · rw [hb2] at HLT
            have HT := hide (show Tlt (tat l' j2) (tat l' k) from (tlt_iff _ _).1 hb2)
            clear hb2
            go_wp2_with fail
            refine upon_meth 142 (.pointer (some ⟨p, 0, none⟩)) (by kernel_rfl) ?_
            go_wp2_with fail
            refine HLT.out.mono ?_
            rintro e w8 ⟨rfl, hb8⟩
            have HSW := hide (swap_pa (HP7.out.below hb8) k j2 (by have := HL.out; omega) (by have := HC.out; have := HL.out; omega))
            have HF8 := hide (HF7.out.trans (Fr.of_below hb8) (fun _ _ e => e))
            clear hb8
            go_wp2_with fail
            refine upon_meth 145 (.pointer (some ⟨p, 0, none⟩)) (by kernel_rfl) ?_
            go_wp2_with fail
            refine HSW.out.mono ?_
            rintro e w9 ⟨rfl, hp9, hf9⟩
            have HRES := hide (show DnS w B p c n i0 v l w9 (.int .i64 (j2 : Int)) from ⟨j2, swp l' k j2, rfl, by have := HC.out; have := HIK.out; omega, by have := HC.out; have := HL.out; have := HN.out; have := HSM.out.2.1; omega,
              HD.out.step HL.out.2.2.1 HC.out.2.1 HC.out.2.2.1 (by have := HC.out; omega) HT.out HC.out.2.2.2 HIK.out, HSM.out.swp HL.out.1 HC.out.2.1 HN.out.1, fun e => by have := HC.out; have := HIK.out; omega, hp9, HF8.out.trans hf9 (fun _ _ e => e)⟩)
            have hdec : k < j2 ∧ j2 < n := ⟨HC.out.1, HC.out.2.1⟩
            clear hp9 hf9
            go_wp2_with fail
            exact ⟨HRES.out, by simp only [intOf]; omega⟩
      · have hj2d : decide (j2 < n) = false := by simpa using hj2n
        have HL2 := hide hj2n
        clear hj2n
        have HC := hide (show k < j1 ∧ j1 < n ∧ (j1 - 1) / 2 = k ∧ ∀ q, 0 < q → q < n → (q - 1) / 2 = k → Tle (tat l' j1) (tat l' q) from ⟨HL.out.2.2.2, HL.out.2.1, by have := HJ1.out; omega, fun q h1 h2 h3 => by
          rcases (by have := HJ1.out; have := HJ2.out; have := HL2.out; omega : q = j1) with e
          rw [e]; exact Tle.refl _⟩)
        have HLT := hide (pless_pa HP.out j1 k (by have := HC.out; have := HL.out; omega) (by have := HL.out; omega))
        rcases hb2 : tlt (tat l' j1) (tat l' k) with _ | _
        · rw [hb2] at HLT
          have HT := hide (show Tle (tat l' k) (tat l' j1) from (tlt_not _ _).1 hb2)
          clear hb2
          go_wp2_with fail
          refine upon_meth 142 (.pointer (some ⟨p, 0, none⟩)) (by kernel_rfl) ?_
          go_wp2_with fail
          refine HLT.out.mono ?_
          rintro e w8 ⟨rfl, hb8⟩
          have HQ := hide (show DnQ w B p c n i0 v l b w8 from by
            rw [HX.out]
            exact dn_exit HIK.out HD.out (fun q h1 h2 h3 => HT.out.trans (HC.out.2.2.2 q h1 h2 h3)) HSM.out HE.out (HP.out.below hb8) (HF.out.trans (Fr.of_below hb8) (fun _ _ e => e)))
          clear hb8
          go_wp2_with fail
          go_ret
          exact ⟨b, rfl, HQ.out⟩
        · rw [hb2] at HLT
          have HT := hide (show Tlt (tat l' j1) (tat l' k) from (tlt_iff _ _).1 hb2)
          clear hb2
          go_wp2_with fail
          refine upon_meth 142 (.pointer (some ⟨p, 0, none⟩)) (by kernel_rfl) ?_
          go_wp2_with fail
          refine HLT.out.mono ?_
          rintro e w8 ⟨rfl, hb8⟩
          have HSW := hide (swap_pa (HP.out.below hb8) k j1 (by have := HL.out; omega) (by have := HC.out; have := HL.out; omega))
          have HF8 := hide (HF.out.trans (Fr.of_below hb8) (fun _ _ e => e))
          clear hb8
          go_wp2_with fail
          refine upon_meth 145 (.pointer (some ⟨p, 0, none⟩)) (by kernel_rfl) ?_
          go_wp2_with fail
          refine HSW.out.mono ?_
          rintro e w9 ⟨rfl, hp9, hf9⟩
          have HRES := hide (show DnS w B p c n i0 v l w9 (.int .i64 (j1 : Int)) from ⟨j1, swp l' k j1, rfl, by have := HC.out; have := HIK.out; omega, by have := HC.out; have := HL.out; have := HN.out; have := HSM.out.2.1; omega,
            HD.out.step HL.out.2.2.1 HC.out.2.1 HC.out.2.2.1 (by have := HC.out; omega) HT.out HC.out.2.2.2 HIK.out, HSM.out.swp HL.out.1 HC.out.2.1 HN.out.1, fun e => by have := HC.out; have := HIK.out; omega, hp9, HF8.out.trans hf9 (fun _ _ e => e)⟩)
          have hdec : k < j1 ∧ j1 < n := ⟨HC.out.1, HC.out.2.1⟩
          clear hp9 hf9
          go_wp2_with fail
          exact ⟨HRES.out, by simp only [intOf]; omega⟩
    · have hjd : decide (n ≤ j1) = true := by simpa using hjn
      have HQ := hide (show DnQ w B p c n i0 v l b wr from by
        rw [HX.out]
        exact dn_exit HIK.out HD.out (fun q h1 h2 h3 => by have := HJ1.out; omega) HSM.out HE.out HP.out HF.out)
      clear hlen hjn hj1
      go_wp2_with fail
      go_ret
      exact ⟨b, rfl, HQ.out⟩
end Go.Proofs.Ythcnoamgkkbkcaa
