/- Chapter 09, sector: the chapter's example. -/
import Derived.Test.YtpebilhdlblgoaaSt1
import Derived.Test.YtpebilhdlblgoaaSd10
namespace Go.Proofs.Ytpebilhdlblgoaa
open Go.RowKit

theorem of_const (b : UInt8) (n : Int) (hn : (b.toNat : Int) = n) (w : World) : Calls Try.prog 27 #[.int .u8 n] w fun e w' => e = .returned (.string (ofS b)) ∧ Below w.heap.size w w' := by
  subst hn
  exact of_any b w
set_option maxHeartbeats 8000000 in
set_option maxRecDepth 100000 in
theorem awake09 (w : World) : Calls Try.prog 19 #[] w fun e w' => e = .returned (.bool true) ∧ Below w.heap.size w w' := by
  obtain ⟨sa, hsa⟩ : ∃ s, s = ofS 97 := ⟨_, rfl⟩
  obtain ⟨sb, hsb⟩ : ∃ s, s = ofS 98 := ⟨_, rfl⟩
  obtain ⟨sc, hsc⟩ : ∃ s, s = ofS 99 := ⟨_, rfl⟩
  obtain ⟨sd, hsd⟩ : ∃ s, s = ofS 100 := ⟨_, rfl⟩
  obtain ⟨s0, hs0⟩ : ∃ s, s = ofS 0 := ⟨_, rfl⟩
  obtain ⟨D1, hD1⟩ : ∃ D, D = (newD 3).puts 0 (ofS 97 ++ ofS 98) 2 := ⟨_, rfl⟩
  obtain ⟨D2, hD2⟩ : ∃ D, D = D1.crash 2 0 := ⟨_, rfl⟩
  have k1 : Dok D1 := by rw [hD1]; exact (newD_ok 3).puts (by decide) (by decide)
  have l1 : D1.now.length = 3 := by rw [hD1, puts_len]; rfl
  have t1 : D1.lost = false := by rw [hD1, puts_lost]; rfl
  have k2 : Dok D2 := by rw [hD2]; exact k1.crash 2 0
  have l2 : D2.now.length = 3 := by rw [hD2, crash_len]; exact l1
  have t2 : D2.lost = false := by rw [hD2]; exact t1
  have hloose : looseL D1 = [0, 1] := by rw [hD1]; decide +kernel
  have hread : D2.read 0 3 = (ofS 0 ++ ofS 98) ++ ofS 0 := by rw [hD2, hD1]; decide +kernel
  have CA := hide (show ∀ W : World, Calls Try.prog 27 #[.int .u8 97] W fun e w' => e = .returned (.string sa) ∧ Below W.heap.size W w' from fun W => by rw [hsa]; exact of_const 97 97 rfl W)
  have CB := hide (show ∀ W : World, Calls Try.prog 27 #[.int .u8 98] W fun e w' => e = .returned (.string sb) ∧ Below W.heap.size W w' from fun W => by rw [hsb]; exact of_const 98 98 rfl W)
  have CC := hide (show ∀ W : World, Calls Try.prog 27 #[.int .u8 99] W fun e w' => e = .returned (.string sc) ∧ Below W.heap.size W w' from fun W => by rw [hsc]; exact of_const 99 99 rfl W)
  have CD := hide (show ∀ W : World, Calls Try.prog 27 #[.int .u8 100] W fun e w' => e = .returned (.string sd) ∧ Below W.heap.size W w' from fun W => by rw [hsd]; exact of_const 100 100 rfl W)
  have C0 := hide (show ∀ W : World, Calls Try.prog 27 #[.int .u8 0] W fun e w' => e = .returned (.string s0) ∧ Below W.heap.size W w' from fun W => by rw [hs0]; exact of_const 0 0 rfl W)
  have zab : sa.size + sb.size ≤ 9223372036854775807 := by rw [hsa, hsb]; decide
  have zcd : sc.size + sd.size ≤ 9223372036854775807 := by rw [hsc, hsd]; decide
  have z0b : s0.size + sb.size ≤ 9223372036854775807 := by rw [hs0, hsb]; decide
  have z0b0 : (s0 ++ sb).size + s0.size ≤ 9223372036854775807 := by rw [hs0, hsb]; decide
  have HN := hide (show ∀ W : World, Calls Try.prog 20 #[.int .i64 3] W fun e w' => ∃ g c r, e = .returned (.pointer (some ⟨g, 0, none⟩)) ∧ DV w' g c (.slice (some ⟨r, 0, none⟩) 3 3) (newD 3) ∧ Below W.heap.size W w' ∧ W.heap.size ≤ g ∧ W.heap.size ≤ c ∧ W.heap.size ≤ r from fun W => dnew_any 3 W)
  have HW1 := hide (show ∀ (W : World) (g c r : Nat), DV W g c (.slice (some ⟨r, 0, none⟩) 3 3) (newD 3) → Calls Try.prog 21 #[.pointer (some ⟨g, 0, none⟩), .int .i64 0, .string (sa ++ sb)] W fun e w' => e = .returned (.int .i64 0) ∧ DV w' g c (.slice (some ⟨r, 0, none⟩) 3 3) D1 ∧ Fr (fun j => j = c ∨ j = r) W w' from fun W g c r h => by
    rw [hD1, hsa, hsb]
    exact dwrite_ok h rfl 0 2 (ofS 97 ++ ofS 98) (by decide) (by decide) (by decide) (by decide) rfl)
  have HL := hide (show ∀ (W : World) (g c r : Nat), DV W g c (.slice (some ⟨r, 0, none⟩) 3 3) D1 → Calls Try.prog 25 #[.pointer (some ⟨g, 0, none⟩)] W fun e w' => ∃ v', e = .returned v' ∧ kI.row w' W.heap.size v' [0, 1] ∧ Below W.heap.size W w' from fun W g c r h => by
    have := dloose_any h k1 (by rw [l1]; decide)
    rw [hloose] at this
    exact this)
  have HC := hide (show ∀ (W : World) (g c r : Nat), DV W g c (.slice (some ⟨r, 0, none⟩) 3 3) D1 → Calls Try.prog 26 #[.pointer (some ⟨g, 0, none⟩), .int .u64 2, .int .i64 0] W fun e w' => e = .returned (.tuple #[]) ∧ DV w' g c (.slice (some ⟨r, 0, none⟩) 3 3) D2 ∧ Fr (fun j => j = c ∨ j = r) W w' from fun W g c r h => by
    rw [hD2]
    exact crash_any h k1 (by decide) l1 2 0)
  have HR := hide (show ∀ (W : World) (g c r : Nat), DV W g c (.slice (some ⟨r, 0, none⟩) 3 3) D2 → Calls Try.prog 23 #[.pointer (some ⟨g, 0, none⟩), .int .i64 0, .int .i64 3] W fun e w' => e = .returned (.tuple #[.string ((s0 ++ sb) ++ s0), .int .i64 0]) ∧ Below W.heap.size W w' from fun W g c r h => by
    have := dread_ok h k2 t2 0 3 (by decide) (by decide) (by decide) l2
    rw [hread, ← hs0, ← hsb] at this
    exact this)
  have HW2 := hide (show ∀ (W : World) (g c r : Nat), DV W g c (.slice (some ⟨r, 0, none⟩) 3 3) D2 → Calls Try.prog 21 #[.pointer (some ⟨g, 0, none⟩), .int .i64 2, .string (sc ++ sd)] W fun e w' => e = .returned (.int .i64 5) ∧ W = w' from fun W g c r h => by
    rw [hsc, hsd]
    have h1 := h.1
    rw [t2] at h1
    exact dwrite_no h1 (by decide) 2 (by decide) (ofS 99 ++ ofS 100) 2 0 (by decide) (by decide) (by decide) true rfl (by decide))
  have HW3 := hide (show ∀ (W : World) (g c r : Nat), DV W g c (.slice (some ⟨r, 0, none⟩) 3 3) D2 → Calls Try.prog 21 #[.pointer (some ⟨g, 0, none⟩), .int .i64 0, .string ⟨#[120]⟩] W fun e w' => e = .returned (.int .i64 1) ∧ W = w' from fun W g c r h => by
    have h1 := h.1
    rw [t2] at h1
    exact dwrite_no h1 (by decide) 0 (by decide) ⟨#[120]⟩ 0 1 (by decide) (by decide) (by decide) false rfl (by decide))
  have HR2 := hide (show ∀ (W : World) (g c r : Nat), DV W g c (.slice (some ⟨r, 0, none⟩) 3 3) D2.lose → Calls Try.prog 23 #[.pointer (some ⟨g, 0, none⟩), .int .i64 0, .int .i64 1] W fun e w' => e = .returned (.tuple #[.string ⟨#[]⟩, .int .i64 8]) ∧ W = w' from fun W g c r h =>
    dread_no (lost := true) h.1 (by decide) 0 1 (by decide) (by decide) (by decide))
  clear hsa hsb hsc hsd hs0 hD1 hD2 k1 l1 t1 k2 l2 t2 hloose hread
  go_enter Try.func19, Try.ntmps19
  go_wp2_with fail
  refine (HN.out _).mono ?_
  rintro e w1 ⟨g, c, r, rfl, hv1, hB1, hg, hc, hr⟩
  go_wp2_with fail
  refine (CA.out _).mono ?_
  rintro e w2 ⟨rfl, hb2⟩
  have hv2 := hv1.below hb2
  have hB2 := hB1.trans (hb2.mono hB1.size)
  clear hv1 hB1 hb2
  go_wp2_with fail
  refine (CB.out _).mono ?_
  rintro e w3 ⟨rfl, hb3⟩
  have hv3 := hv2.below hb3
  have hB3 := hB2.trans (hb3.mono hB2.size)
  clear hv2 hB2 hb3
  go_wp2_with fail
  refine (HW1.out _ g c r hv3).mono ?_
  rintro e w4 ⟨rfl, hv4, hf4⟩
  have hB4 := hB3.trans (hf4.below _ hB3.size (fun k hk e => by omega))
  clear hv3 hf4 hB3
  go_wp2_with fail
  refine (HL.out _ g c r hv4).mono ?_
  rintro e w5 ⟨lv, rfl, hl5, hb5⟩
  have hv5 := hv4.below hb5
  have hB5 := hB4.trans (hb5.mono hB4.size)
  have hbase := hB4.size
  clear hv4 hb5 hB4
  go_wp2_with fail
  refine (HC.out _ g c r hv5).mono ?_
  rintro e w6 ⟨rfl, hv6, hf6⟩
  have hl6 : kI.row w6 w.heap.size lv [0, 1] := by
    refine EK.row_fr (EK.row_base hl5 hbase) hf6 (fun k hk e => ?_)
    rcases e with e | e
    · subst e
      obtain ⟨es, q, h6⟩ := MK.mp_obj hv5.2.2
      obtain ⟨-, -, cs, h7⟩ := EK.row_typed hl5 hk
      rw [h6] at h7
      cases h7
    · subst e
      obtain ⟨-, -, c1, h6⟩ := EK.row_typed hv5.2.1 (k := k) rfl
      obtain ⟨-, -, cs, h7⟩ := EK.row_typed hl5 hk
      rw [h6] at h7
      simp only [Option.some.injEq, Obj.cells.injEq] at h7
      exact absurd h7.2.1 (by decide)
  have hB6 := hB5.trans (hf6.below _ hB5.size (fun k hk e => by omega))
  clear hv5 hf6 hB5 hl5
  go_wp2_with fail
  refine (HR.out _ g c r hv6).mono ?_
  rintro e w7 ⟨rfl, hb7⟩
  have hv7 := hv6.below hb7
  have hl7 := EK.row_below hl6 hb7
  have hB7 := hB6.trans (hb7.mono hB6.size)
  clear hv6 hb7 hB6 hl6
  go_wp2_with fail
  refine (CC.out _).mono ?_
  rintro e w8 ⟨rfl, hb8⟩
  have hv8 := hv7.below hb8
  have hl8 := EK.row_below hl7 hb8
  have hB8 := hB7.trans (hb8.mono hB7.size)
  clear hv7 hb8 hB7 hl7
  go_wp2_with fail
  refine (CD.out _).mono ?_
  rintro e w9 ⟨rfl, hb9⟩
  have hv9 := hv8.below hb9
  have hl9 := EK.row_below hl8 hb9
  have hB9 := hB8.trans (hb9.mono hB8.size)
  clear hv8 hb9 hB8 hl8
  go_wp2_with fail
  refine (HW2.out _ g c r hv9).mono ?_
  rintro e w10 ⟨rfl, rfl⟩
  go_wp2_with fail
  refine (HW3.out _ g c r hv9).mono ?_
  rintro e w11 ⟨rfl, rfl⟩
  go_wp2_with fail
  refine (lose_any hv9).mono ?_
  rintro e w12 ⟨rfl, hv12, hf12⟩
  have hl12 : kI.row w12 w.heap.size lv [0, 1] := by
    refine EK.row_fr hl9 hf12 (fun k hk e => ?_)
    rcases e with e | e
    · subst e
      obtain ⟨es, q, h6⟩ := MK.mp_obj hv9.2.2
      obtain ⟨-, -, cs, h7⟩ := EK.row_typed hl9 hk
      rw [h6] at h7
      cases h7
    · subst e
      have h6 := hv9.1
      obtain ⟨-, -, cs, h7⟩ := EK.row_typed hl9 hk
      rw [h6] at h7
      simp only [Option.some.injEq, Obj.cells.injEq] at h7
      exact absurd h7.2.1 (by decide)
  have hB12 := hB9.trans (hf12.below _ hB9.size (fun k hk e => by omega))
  clear hv9 hf12 hB9 hl9
  go_wp2_with fail
  refine (HR2.out _ g c r hv12).mono ?_
  rintro e w13 ⟨rfl, rfl⟩
  have hb14 := (Below.refl w12.heap.size w12).alloc (Nat.le_refl _) (.cells #[.int .i64 0, .int .i64 1] 3)
  have HI := hide (ints_eq (EK.row_below hl12 hb14) (show kI.row (w12.alloc (.cells #[.int .i64 0, .int .i64 1] 3)) 0 (.slice (some ⟨w12.heap.size, 0, none⟩) 2 2) [0, 1] from ⟨rfl, .inr ⟨_, 2, _, rfl, Nat.zero_le _, obj_new _ _, Nat.le_refl _, by decide, rfl, rfl⟩⟩) (by decide))
  have hv14 := hv12.below hb14
  have hB14 := hB12.trans (hb14.mono hB12.size)
  clear hv12 hB12 hb14 hl12
  go_wp2_with fail
  refine HI.out.mono ?_
  rintro e w15 ⟨rfl, hb15⟩
  have hv15 := hv14.below hb15
  have hB15 := hB14.trans (hb15.mono hB14.size)
  clear hv14 hb15 hB14
  go_wp2_with fail
  refine (C0.out _).mono ?_
  rintro e w16 ⟨rfl, hb16⟩
  have hv16 := hv15.below hb16
  have hB16 := hB15.trans (hb16.mono hB15.size)
  clear hv15 hb16 hB15
  go_wp2_with fail
  refine (CB.out _).mono ?_
  rintro e w17 ⟨rfl, hb17⟩
  have hv17 := hv16.below hb17
  have hB17 := hB16.trans (hb17.mono hB16.size)
  clear hv16 hb17 hB16
  go_wp2_with fail
  refine (C0.out _).mono ?_
  rintro e w18 ⟨rfl, hb18⟩
  have hv18 := hv17.below hb18
  have hB18 := hide (hB17.trans (hb18.mono hB17.size))
  clear hv17 hb18 hB17
  go_wp2_with fail
  refine (sectors_any hv18).mono ?_
  rintro e w19 ⟨rfl, rfl⟩
  go_wp2
  go_ret
  exact ⟨rfl, hB18.out⟩
end Go.Proofs.Ytpebilhdlblgoaa
