/- Chapter 31, segment: the walk of Open through its pieces. -/
import Derived.Test.YtljmaicobafgkaaSeg11
namespace Go.Proofs.Ytljmaicobafgkaa
open Go.RowKit

def OpS (w0 : World) (rg : Nat) (n : Nat) (tl : Int) (tot : List Ent × Option (List UInt8) × Int) (w : World) (ov av iv : Value) : Prop :=
  ∃ (k : Nat) (p : Int) (σ : Option (List UInt8)) (acc : List Ent), iv = .int .i64 k ∧ k ≤ n ∧ av = .int .i64 p ∧ 0 ≤ p ∧ p ≤ tl ∧ Rdr w rg σ ∧ (∀ l, σ = some l → l.length ≤ 65536) ∧ acc.length = k ∧ OwE w w0.heap.size ov acc ∧
    segRd tl (n - k) σ p acc = tot ∧ Below w0.heap.size w0 w ∧ w0.heap.size ≤ rg
/-- What Open gives of what was read. -/
def segRes (tl : Int) (tot : List Ent × Option (List UInt8) × Int) : List Ent × Int := if rDone tot.2.1 = 0 ∧ tot.2.2 = tl then (tot.1, 0) else ([], 3)
theorem segRes_ok {tl : Int} {tot : List Ent × Option (List UInt8) × Int} (h : rDone tot.2.1 = 0) (h2 : tot.2.2 = tl) : segRes tl tot = (tot.1, 0) := if_pos ⟨h, h2⟩
theorem segRes_no {tl : Int} {tot : List Ent × Option (List UInt8) × Int} (h : ¬ (rDone tot.2.1 = 0 ∧ tot.2.2 = tl)) : segRes tl tot = ([], 3) := if_neg h
def SegPost (w : World) (tl : Int) (tot : List Ent × Option (List UInt8) × Int) (e : Ending) (w' : World) : Prop :=
  ∃ v, e = .returned (.tuple #[v, .int .i64 (segRes tl tot).2]) ∧ OwE w' w.heap.size v (segRes tl tot).1 ∧ Below w.heap.size w w'
theorem SegPost.no {w w' : World} {tl : Int} {tot : List Ent × Option (List UInt8) × Int} (h : ¬ (rDone tot.2.1 = 0 ∧ tot.2.2 = tl)) (hb : Below w.heap.size w w') :
    SegPost w tl tot (.returned (.tuple #[.slice none 0 0, .int .i64 3])) w' := by
  refine ⟨.slice none 0 0, ?_, ?_, hb⟩
  · rw [segRes_no h]
  · rw [segRes_no h]
    exact World.ownsRow_nil _ _ _ _
theorem SegPost.yes {w w' : World} {v : Value} {tl : Int} {tot : List Ent × Option (List UInt8) × Int} (h : rDone tot.2.1 = 0) (h2 : tot.2.2 = tl) (hO : OwE w' w.heap.size v tot.1) (hb : Below w.heap.size w w') :
    SegPost w tl tot (.returned (.tuple #[v, .int .i64 0])) w' := by
  refine ⟨v, ?_, ?_, hb⟩
  · rw [segRes_ok h h2]
  · rw [segRes_ok h h2]
    exact hO
theorem rDone_two (σ : Option (List UInt8)) : rDone σ = 0 ∨ rDone σ = 3 := by
  unfold rDone
  split
  · exact .inl rfl
  · exact .inr rfl
set_option maxHeartbeats 4000000 in
set_option maxRecDepth 1000000 in
theorem segOpen_read (s body idx : ByteArray) (t : List UInt8) (cnt : Nat) (σ1 : Option (List UInt8)) (tot : List Ent × Option (List UInt8) × Int) (w : World) (h4 : 4 ≤ s.size) (hs : s.size ≤ 65536) (ho : openL s.data.toList = some t)
    (hp : ∀ w : World, Calls Try.prog 131 #[.string ⟨t.toArray⟩] w fun e w' => e = .returned (.tuple #[.string body, .string idx, .bool true]) ∧ Below w.heap.size w w')
    (hb : body.size ≤ 65536) (hi : idx.size ≤ 65536) (hn : rInt (some idx.data.toList) = ((cnt : Int), σ1)) (hc : cnt ≤ rLeft σ1) (ht : segRd body.size cnt σ1 0 [] = tot) :
    Calls Try.prog 62 #[.string s] w (SegPost w body.size tot) := by
  have hv : openV s.data.toList = .tuple #[.string ⟨t.toArray⟩, .int .i64 0] := by unfold openV; rw [ho]
  have hσ1 : ∀ l, σ1 = some l → l.length ≤ 65536 := fun l hl => rInt_len (σ := some idx.data.toList) (by rw [hn]; exact hl) (fun l' hl' => by
    cases hl'
    rw [← size_list]
    exact hi)
  have hcl : cnt ≤ 65536 := by
    unfold rLeft at hc
    rcases σ1 with _ | l
    · simp at hc
      omega
    · have := hσ1 l rfl
      simp at hc
      omega
  have hL : rLeft σ1 ≤ 65536 := by
    unfold rLeft
    rcases σ1 with _ | l
    · simp
    · exact hσ1 l rfl
  obtain ⟨lf, hlf⟩ : ∃ lf, lf = rLeft σ1 := ⟨_, rfl⟩
  rw [← hlf] at hc hL
  have hcn : ¬ (lf : Int) < (cnt : Int) := by omega
  have HV := hide hv
  have HP := hide hp
  have HN := hide hn
  have HS1 := hide hσ1
  have HT := hide ht
  have HO := hide ho
  have HLF := hide hlf
  clear hv hp hn hσ1 ht ho hlf hc
  go_enter Try.func62, Try.ntmps62
  go_wp2_with fail
  go_step3
  go_wp2_with fail
  refine (open_long s _ h4 (by omega)).mono ?_
  rintro e w1 ⟨rfl, hb1⟩
  rw [HV.out]
  go_wp2_with fail
  refine (HP.out w1).mono ?_
  rintro e w2 ⟨rfl, hb2⟩
  have HB2 := hide (hb1.trans (hb2.mono hb1.size))
  clear hb1 hb2
  go_wp2_with fail
  refine (newReader_any _ _).mono ?_
  rintro e w3 ⟨rfl, hr3, hb3⟩
  have HB3 := hide (HB2.out.trans (hb3.mono HB2.out.size))
  have HG := hide HB2.out.size
  have HR3 := hide hr3
  clear hb3 hr3
  go_wp2_with fail
  refine (rInt_any _ _ _ HR3.out (fun l hl => by cases hl; rw [← size_list]; omega)).mono ?_
  rintro e w4 ⟨rfl, hr4, hf4⟩
  rw [HN.out] at hr4 ⊢
  have HR4 := hide hr4
  have HB4 := hide (HB3.out.trans (hf4.below w.heap.size HB3.out.size (fun i hi e => by have := HG.out; omega)))
  clear hr4 hf4
  dsimp only
  go_wp2_with fail
  refine (rLeft_any _ _ _ HR4.out).mono ?_
  rintro e w5 ⟨rfl, hb5⟩
  rw [← HLF.out]
  have hstart : OpS w w2.heap.size cnt body.size tot w5 (.slice none 0 0) (.int .i64 0) (.int .i64 0) :=
    ⟨0, 0, σ1, [], rfl, Nat.zero_le _, rfl, Int.le_refl _, by omega, HR4.out.below hb5, HS1.out, rfl, World.ownsRow_nil _ _ _ _, HT.out, HB4.out.trans (hb5.mono HB4.out.size), HG.out⟩
  have HS := hide hstart
  clear hstart hb5
  go_wp2_with fail
  go_step3
  go_wp2_with fail
  have hcd : decide (lf < cnt) = false := decide_eq_false (by omega)
  simp only [hcd, Bool.or_false]
  go_loopw [11, 12, 47] (fun o a i wr => OpS w w2.heap.size cnt body.size tot wr o a i) (fun _ _ i _ => cnt - (intOf i).toNat)
  case atStart => exact HS.out
  case round =>
    obtain ⟨k, p, σ, acc, rfl, hk, rfl, hp0, hp1, hR, hl, hak, hO, ht, hB, hg⟩ := hrel
    subst hak
    obtain ⟨A, c, rfl⟩ := row_slice hO
    have HR := hide hR
    have HT' := hide ht
    have HOr := hide hO
    have HBr := hide hB
    have HLr := hide hl
    have hneg : ¬ ((-1 : Int) = (body.size : Int)) := by omega
    clear hR ht hO hB hl
    rcases Nat.lt_or_ge acc.length cnt with hkc | hkc
    · obtain ⟨m, hm⟩ : ∃ m, cnt - acc.length = m + 1 := ⟨cnt - acc.length - 1, by omega⟩
      have ht := HT'.out
      rw [hm] at ht
      have HT2 := hide ht
      clear ht HT'
      go_wp2_with fail
      refine (rByte_any _ _ _ HR.out (fun l h => by have := HLr.out l h; omega)).mono ?_
      rintro e w6 ⟨rfl, hr6, hf6⟩
      rw [show (rByte σ).1 = pcK σ from rfl]
      have HL6 := hide (fun l (h : (rByte σ).2 = some l) => rByte_len h HLr.out)
      have HR6 := hide hr6
      have HF6 := hide hf6
      clear hr6 hf6
      go_wp2_with fail
      refine (rInt_any _ _ _ HR6.out (fun l h => by have := HL6.out l h; omega)).mono ?_
      rintro e w7 ⟨rfl, hr7, hf7⟩
      rw [show (rInt (rByte σ).2).1 = pcI σ from rfl]
      have HL7 := hide (fun l (h : (rInt (rByte σ).2).2 = some l) => rInt_len h HL6.out)
      have HR7 := hide hr7
      have HF7 := hide (HF6.out.trans hf7 (fun _ _ h => h))
      clear hr7 hf7
      go_wp2_with fail
      refine (rInt_any _ _ _ HR7.out (fun l h => by have := HL7.out l h; omega)).mono ?_
      rintro e w8 ⟨rfl, hr8, hf8⟩
      rw [show (rInt (rInt (rByte σ).2).2).1 = pcB σ from rfl]
      have HL8 := hide (fun l (h : (rInt (rInt (rByte σ).2).2).2 = some l) => rInt_len h HL7.out)
      have HR8 := hide hr8
      have HF8 := hide (HF7.out.trans hf8 (fun _ _ h => h))
      clear hr8 hf8
      go_wp2_with fail
      refine (rInt_any _ _ _ HR8.out (fun l h => by have := HL8.out l h; omega)).mono ?_
      rintro e w9 ⟨rfl, hr9, hf9⟩
      rw [show (rInt (rInt (rInt (rByte σ).2).2).2).1 = pcL σ from rfl]
      rw [show (rInt (rInt (rInt (rByte σ).2).2).2).2 = pcS σ from rfl] at hr9
      have HL9 := hide (fun l (h : pcS σ = some l) => rInt_len h HL8.out)
      have HR9 := hide hr9
      have HF9 := hide (HF8.out.trans hf9 (fun _ _ h => h))
      clear hr9 hf9
      go_wp2_with fail
      refine (may_any _ _ _ _ _ _).mono ?_
      rintro e w10 ⟨rfl, hb10⟩
      have HE10 := hide (obj_below (obj_new w9 _) hb10)
      have HR10 := hide ((HR9.out.below ((Below.refl _ _).alloc (Nat.le_refl _) _)).below hb10)
      have HB9 : Hid (Below w.heap.size w w9) := hide (HBr.out.trans (HF9.out.below w.heap.size HBr.out.size (fun i hi e => by omega)))
      have HB10 := hide (below_step HB9.out HB9.out.size hb10)
      have HO10 := hide (row_below (row_below (row_fr HOr.out HF9.out (fun j hj h => by
        obtain ⟨_, cs, h89⟩ := row_typed HOr.out hj
        exact HR.out.ne h89 (by decide) h)) ((Below.refl _ _).alloc (Nat.le_refl _) _)) hb10)
      have HW := hide (show ∀ j, (Value.slice A acc.length c).ownBlock = some j → j < w9.heap.size from fun j hj => by
        obtain ⟨_, cs, h89⟩ := row_typed HOr.out hj
        have := obj_lt h89
        have := HF9.out.size
        omega)
      have z4 := obj_cell HE10.out 4
      have z0 := obj_cell HE10.out 0
      have z1 := obj_cell HE10.out 1
      have z2 := obj_cell HE10.out 2
      have z3 := obj_cell HE10.out 3
      have zl := obj_lt HE10.out
      simp only [List.getElem?_toArray, List.getElem?_cons_zero, List.getElem?_cons_succ] at z0 z1 z2 z3 z4
      clear hb10
      by_cases hok : pcOk σ p body.size
      · have ht := HT2.out
        rw [segRd_go hok] at ht
        have HT3 := hide ht
        clear ht HT2
        obtain ⟨hmay, hl0, hl1⟩ := hok
        rw [decide_eq_true hmay]
        have hl0' : ¬ pcL σ < 0 := by omega
        have hl1' : ¬ (body.size : Int) - p < pcL σ := by omega
        obtain ⟨v', w11, hrun, hO11, hf11, _⟩ := app_ent (w := w10.alloc (.cells (pcE σ p).cells.toArray 89)) (row_below HO10.out ((Below.refl _ _).alloc (Nat.le_refl _) _)) (pcE σ p) (g' := w10.heap.size) (obj_new w10 _) (by omega) (by have := HB10.out.size; simp; omega) 84
        obtain ⟨A2, c2, rfl⟩ := row_slice hO11
        have y4 := obj_cell (hf11.obj (obj_alloc HE10.out _) (fun h => by have := HW.out _ h; omega)) 4
        simp only [List.getElem?_toArray, List.getElem?_cons_zero, List.getElem?_cons_succ] at y4
        have hst : OpS w w2.heap.size cnt body.size tot w11 (.slice A2 (acc ++ [pcE σ p]).length c2) (.int .i64 (p + pcL σ)) (.int .i64 ((acc.length + 1 : Nat) : Int)) := by
          refine ⟨acc.length + 1, p + pcL σ, pcS σ, _, rfl, by omega, rfl, by omega, by omega, ?_, HL9.out, by simp, hO11, ?_, ?_, hg⟩
          · exact Rdr.fr (HR10.out.below ((Below.refl _ _).alloc (Nat.le_refl _) _)) hf11 (fun h => by
              obtain ⟨_, cs, h89⟩ := row_typed HOr.out h
              exact HR.out.ne h89 (by decide) rfl)
          · rw [show cnt - (acc.length + 1) = m from by omega]
            exact HT3.out
          · exact (HB10.out.alloc HB10.out.size _).trans (hf11.below _ (by have := HB10.out.size; simp; omega) (fun j hj h => by
              have := (row_typed HOr.out h).1
              omega))
        have HST := hide hst
        simp only [pcE, Ent.cells] at hrun
        clear hst hO11 hf11
        go_wp2_with (at_builtin; refine wpList_append_run rfl (.tmp 76) (.tmp 78) 84 84 rfl rfl rfl hrun ?_)
        go_wp2
        go_roundw
        case rel =>
          have hst := HST.out
          simp only [List.length_append, List.length_singleton] at hst
          exact hst
        case measure => simp [intOf]; omega
      · have ht := HT2.out
        rw [segRd_no hok] at ht
        have hno : ¬ (rDone tot.2.1 = 0 ∧ tot.2.2 = (body.size : Int)) := by
          rw [← ht]
          rintro ⟨_, h⟩
          exact hneg h
        have HNO := hide hno
        clear ht HT2 hno
        by_cases hmay : mayE (pcK σ) (pcI σ) (pcB σ)
        · rw [decide_eq_true hmay]
          by_cases hl0 : pcL σ < 0
          · go_wp2_with fail
            refine (rDone_any _ _ _ HR10.out).mono ?_
            rintro e w11 ⟨rfl, hb11⟩
            rcases rDone_two (pcS σ) with h | h
            all_goals
              rw [h]
              go_wp2
              unfold Exit.noGoto
              go_ret2
              exact SegPost.no HNO.out (HB10.out.trans (hb11.mono HB10.out.size))
          · have hl1 : (body.size : Int) - p < pcL σ := by
              by_cases hcc : (body.size : Int) - p < pcL σ
              · exact hcc
              · exact absurd ⟨hmay, by omega, by omega⟩ hok
            go_wp2_with fail
            refine (rDone_any _ _ _ HR10.out).mono ?_
            rintro e w11 ⟨rfl, hb11⟩
            rcases rDone_two (pcS σ) with h | h
            all_goals
              rw [h]
              go_wp2
              unfold Exit.noGoto
              go_ret2
              exact SegPost.no HNO.out (HB10.out.trans (hb11.mono HB10.out.size))
        · rw [decide_eq_false hmay]
          go_wp2_with fail
          refine (rDone_any _ _ _ HR10.out).mono ?_
          rintro e w11 ⟨rfl, hb11⟩
          rcases rDone_two (pcS σ) with h | h
          all_goals
            rw [h]
            go_wp2
            unfold Exit.noGoto
            go_ret2
            exact SegPost.no HNO.out (HB10.out.trans (hb11.mono HB10.out.size))
    · have ht := HT'.out
      rw [show cnt - acc.length = 0 from by omega] at ht
      have hkc' : ¬ (acc.length : Int) < (cnt : Int) := by omega
      go_wp2_with fail
      refine (rDone_any _ _ _ HR.out).mono ?_
      rintro e w11 ⟨rfl, hb11⟩
      have HBf := hide (HBr.out.trans (hb11.mono HBr.out.size))
      have HOf := hide (row_below HOr.out hb11)
      have HTf := hide ht
      clear ht hb11
      rcases rDone_two σ with h | h
      · rw [h]
        have HD := hide h
        by_cases hpe : p = (body.size : Int)
        · go_wp2
          unfold Exit.noGoto
          go_ret2
          refine SegPost.yes ?_ ?_ ?_ HBf.out
          · rw [← HTf.out]
            exact HD.out
          · rw [← HTf.out]
            exact hpe
          · rw [← HTf.out]
            exact HOf.out
        · go_wp2
          unfold Exit.noGoto
          go_ret2
          refine SegPost.no ?_ HBf.out
          rw [← HTf.out]
          exact fun hh => hpe hh.2
      · rw [h]
        have HD := hide h
        go_wp2
        unfold Exit.noGoto
        go_ret2
        refine SegPost.no ?_ HBf.out
        rw [← HTf.out]
        intro hh
        have := HD.out
        have := hh.1
        simp only [segRd] at this
        omega
end Go.Proofs.Ytljmaicobafgkaa
