/- A join of 5 texts of this claim: Seg10, Seg11, Seg12, SegLaw, Seg13. Conditions: none of their own. -/
import Derived.Test.YtljmaicobafgkaaQ15
import Derived.Test.YtljmaicobafgkaaQ2
import Derived.Test.YtljmaicobafgkaaQ11
section
/- Chapter 31, segment: what Open reads, plain. -/
namespace Go.Proofs.Ytljmaicobafgkaa
open Go.RowKit

/-- One piece read: its numbers, and what is left. -/
def pcK (σ : Option (List UInt8)) : Int := (rByte σ).1
def pcI (σ : Option (List UInt8)) : Int := (rInt (rByte σ).2).1
def pcB (σ : Option (List UInt8)) : Int := (rInt (rInt (rByte σ).2).2).1
def pcL (σ : Option (List UInt8)) : Int := (rInt (rInt (rInt (rByte σ).2).2).2).1
def pcS (σ : Option (List UInt8)) : Option (List UInt8) := (rInt (rInt (rInt (rByte σ).2).2).2).2
/-- Does the piece go? -/
def pcOk (σ : Option (List UInt8)) (pos tl : Int) : Prop := mayE (pcK σ) (pcI σ) (pcB σ) ∧ 0 ≤ pcL σ ∧ pcL σ ≤ tl - pos
instance (σ : Option (List UInt8)) (pos tl : Int) : Decidable (pcOk σ pos tl) := by unfold pcOk; infer_instance
def pcE (σ : Option (List UInt8)) (pos : Int) : Ent := ⟨pcK σ, pcI σ, pcB σ, pos, pcL σ⟩
/-- Pieces read, one behind the other: those that went, what is left, and where the next one would begin; -1: one did not go. -/
def segRd (tl : Int) : Nat → Option (List UInt8) → Int → List Ent → List Ent × Option (List UInt8) × Int
  | 0, σ, pos, out => (out, σ, pos)
  | n + 1, σ, pos, out => if pcOk σ pos tl then segRd tl n (pcS σ) (pos + pcL σ) (out ++ [pcE σ pos]) else (out, pcS σ, -1)
theorem segRd_go {tl : Int} {n : Nat} {σ : Option (List UInt8)} {pos : Int} {out : List Ent} (h : pcOk σ pos tl) : segRd tl (n + 1) σ pos out = segRd tl n (pcS σ) (pos + pcL σ) (out ++ [pcE σ pos]) := if_pos h
theorem segRd_no {tl : Int} {n : Nat} {σ : Option (List UInt8)} {pos : Int} {out : List Ent} (h : ¬ pcOk σ pos tl) : segRd tl (n + 1) σ pos out = (out, pcS σ, -1) := if_neg h
end Go.Proofs.Ytljmaicobafgkaa
end
section
/- Chapter 31, segment: the walk of Open. -/
namespace Go.Proofs.Ytljmaicobafgkaa
open Go.RowKit

def rLeft (σ : Option (List UInt8)) : Nat := (σ.getD []).length
theorem rLeft_any (g : Nat) (σ : Option (List UInt8)) (w : World) (h : Rdr w g σ) :
    Calls Try.prog 132 #[.pointer (some ⟨g, 0, none⟩)] w fun e w' => e = .returned (.int .i64 (rLeft σ)) ∧ Below w.heap.size w w' := by
  have c0 := obj_cell h 0
  clear h
  rcases σ with _ | l
  · simp only [rdrCells, List.getElem?_toArray, List.getElem?_cons_zero] at c0
    go_enter Try.func132, Try.ntmps132
    go_wp2
    go_ret
    exact ⟨rfl, Below.refl _ _⟩
  · simp only [rdrCells, List.getElem?_toArray, List.getElem?_cons_zero] at c0
    go_enter Try.func132, Try.ntmps132
    go_wp2
    go_ret
    exact ⟨rfl, Below.refl _ _⟩
set_option maxHeartbeats 4000000 in
set_option maxRecDepth 1000000 in
theorem segOpen_short (s : ByteArray) (w : World) (hs : s.size < 4) :
    Calls Try.prog 62 #[.string s] w fun e w' => e = .returned (.tuple #[.slice none 0 0, .int .i64 4]) ∧ Below w.heap.size w w' := by
  go_enter Try.func62, Try.ntmps62
  go_wp2_with fail
  go_step3
  go_wp2_with fail
  refine (open_short s _ hs).mono ?_
  rintro e w1 ⟨rfl, hb1⟩
  go_wp2
  unfold Exit.noGoto
  go_ret2
  exact ⟨rfl, hb1⟩
set_option maxHeartbeats 4000000 in
set_option maxRecDepth 1000000 in
theorem segOpen_sum (s : ByteArray) (w : World) (h4 : 4 ≤ s.size) (hs : s.size ≤ 1073741824) (ho : openL s.data.toList = none) :
    Calls Try.prog 62 #[.string s] w fun e w' => e = .returned (.tuple #[.slice none 0 0, .int .i64 4]) ∧ Below w.heap.size w w' := by
  have hv : openV s.data.toList = .tuple #[.string ⟨#[]⟩, .int .i64 4] := by unfold openV; rw [ho]
  have HV := hide hv
  clear hv ho
  go_enter Try.func62, Try.ntmps62
  go_wp2_with fail
  go_step3
  go_wp2_with fail
  refine (open_long s _ h4 (by omega)).mono ?_
  rintro e w1 ⟨rfl, hb1⟩
  rw [HV.out]
  go_wp2
  unfold Exit.noGoto
  go_ret2
  exact ⟨rfl, hb1⟩
end Go.Proofs.Ytljmaicobafgkaa
end
section
/- Chapter 31, segment: the walk of Open through its pieces. -/
namespace Go.Proofs.Ytljmaicobafgkaa
open Go.RowKit

def OpS (w0 : World) (rg : Nat) (n : Nat) (tl : Int) (tot : List Ent × Option (List UInt8) × Int) (w : World) (ov av iv : Value) : Prop :=
  ∃ (k : Nat) (p : Int) (σ : Option (List UInt8)) (acc : List Ent), iv = .int .i64 k ∧ k ≤ n ∧ av = .int .i64 p ∧ 0 ≤ p ∧ p ≤ tl ∧ Rdr w rg σ ∧ (∀ l, σ = some l → l.length ≤ 65536) ∧ acc.length = k ∧ OwE w w0.heap.size ov acc ∧
    segRd tl (n - k) σ p acc = tot ∧ Below w0.heap.size w0 w ∧ w0.heap.size ≤ rg
/-- What Open gives of what was read. -/
def segRes (tl : Int) (tot : List Ent × Option (List UInt8) × Int) : List Ent × Int := if rDone tot.2.1 = 0 ∧ tot.2.2 = tl then (tot.1, 0) else ([], 3)
theorem segRes_ok {tl : Int} {tot : List Ent × Option (List UInt8) × Int} (h : rDone tot.2.1 = 0) (h2 : tot.2.2 = tl) : segRes tl tot = (tot.1, 0) := if_pos ⟨h, h2⟩
theorem segRes_no {tl : Int} {tot : List Ent × Option (List UInt8) × Int} (h : ¬ (rDone tot.2.1 = 0 ∧ tot.2.2 = tl)) : segRes tl tot = ([], 3) := if_neg h
def SegPost (w : World) (tl : Int) (tot : List Ent × Option (List UInt8) × Int) (e : Ending) (w' : World) : Prop :=
  ∃ v, e = .returned (.tuple #[v, .int .i64 (segRes tl tot).2]) ∧ OwE w' w.heap.size v (segRes tl tot).1 ∧ Below w.heap.size w w'
theorem SegPost.no {w w' : World} {tl : Int} {tot : List Ent × Option (List UInt8) × Int} (h : ¬ (rDone tot.2.1 = 0 ∧ tot.2.2 = tl)) (hb : Below w.heap.size w w') :
    SegPost w tl tot (.returned (.tuple #[.slice none 0 0, .int .i64 3])) w' := by
  refine ⟨.slice none 0 0, ?_, ?_, hb⟩
  · rw [segRes_no h]
  · rw [segRes_no h]
    exact World.ownsRow_nil _ _ _ _
theorem SegPost.yes {w w' : World} {v : Value} {tl : Int} {tot : List Ent × Option (List UInt8) × Int} (h : rDone tot.2.1 = 0) (h2 : tot.2.2 = tl) (hO : OwE w' w.heap.size v tot.1) (hb : Below w.heap.size w w') :
    SegPost w tl tot (.returned (.tuple #[v, .int .i64 0])) w' := by
  refine ⟨v, ?_, ?_, hb⟩
  · rw [segRes_ok h h2]
  · rw [segRes_ok h h2]
    exact hO
theorem rDone_two (σ : Option (List UInt8)) : rDone σ = 0 ∨ rDone σ = 3 := by
  unfold rDone
  split
  · exact .inl rfl
  · exact .inr rfl
set_option maxHeartbeats 4000000 in
set_option maxRecDepth 1000000 in
theorem segOpen_read (s body idx : ByteArray) (t : List UInt8) (cnt : Nat) (σ1 : Option (List UInt8)) (tot : List Ent × Option (List UInt8) × Int) (w : World) (h4 : 4 ≤ s.size) (hs : s.size ≤ 65536) (ho : openL s.data.toList = some t)
    (hp : ∀ w : World, Calls Try.prog 131 #[.string ⟨t.toArray⟩] w fun e w' => e = .returned (.tuple #[.string body, .string idx, .bool true]) ∧ Below w.heap.size w w')
    (hb : body.size ≤ 65536) (hi : idx.size ≤ 65536) (hn : rInt (some idx.data.toList) = ((cnt : Int), σ1)) (hc : cnt ≤ rLeft σ1) (ht : segRd body.size cnt σ1 0 [] = tot) :
    Calls Try.prog 62 #[.string s] w (SegPost w body.size tot) := by
  have hv : openV s.data.toList = .tuple #[.string ⟨t.toArray⟩, .int .i64 0] := by unfold openV; rw [ho]
  have hσ1 : ∀ l, σ1 = some l → l.length ≤ 65536 := fun l hl => rInt_len (σ := some idx.data.toList) (by rw [hn]; exact hl) (fun l' hl' => by
    cases hl'
    rw [← size_list]
    exact hi)
  have hcl : cnt ≤ 65536 := by
    unfold rLeft at hc
    rcases σ1 with _ | l
    · simp at hc
      omega
    · have := hσ1 l rfl
      simp at hc
      omega
  have hL : rLeft σ1 ≤ 65536 := by
    unfold rLeft
    rcases σ1 with _ | l
    · simp
    · exact hσ1 l rfl
  obtain ⟨lf, hlf⟩ : ∃ lf, lf = rLeft σ1 := ⟨_, rfl⟩
  rw [← hlf] at hc hL
  have hcn : ¬ (lf : Int) < (cnt : Int) := by omega
  have HV := hide hv
  have HP := hide hp
  have HN := hide hn
  have HS1 := hide hσ1
  have HT := hide ht
  have HO := hide ho
  have HLF := hide hlf
  clear hv hp hn hσ1 ht ho hlf hc
  go_enter Try.func62, Try.ntmps62
  go_wp2_with fail
  go_step3
  go_wp2_with fail
  refine (open_long s _ h4 (by omega)).mono ?_
  rintro e w1 ⟨rfl, hb1⟩
  rw [HV.out]
  go_wp2_with fail
  refine (HP.out w1).mono ?_
  rintro e w2 ⟨rfl, hb2⟩
  have HB2 := hide (hb1.trans (hb2.mono hb1.size))
  clear hb1 hb2
  go_wp2_with fail
  refine (newReader_any _ _).mono ?_
  rintro e w3 ⟨rfl, hr3, hb3⟩
  have HB3 := hide (HB2.out.trans (hb3.mono HB2.out.size))
  have HG := hide HB2.out.size
  have HR3 := hide hr3
  clear hb3 hr3
  go_wp2_with fail
  refine (rInt_any _ _ _ HR3.out (fun l hl => by cases hl; rw [← size_list]; omega)).mono ?_
  rintro e w4 ⟨rfl, hr4, hf4⟩
  rw [HN.out] at hr4 ⊢
  have HR4 := hide hr4
  have HB4 := hide (HB3.out.trans (hf4.below w.heap.size HB3.out.size (fun i hi e => by have := HG.out; omega)))
  clear hr4 hf4
  dsimp only
  go_wp2_with fail
  refine (rLeft_any _ _ _ HR4.out).mono ?_
  rintro e w5 ⟨rfl, hb5⟩
  rw [← HLF.out]
  have hstart : OpS w w2.heap.size cnt body.size tot w5 (.slice none 0 0) (.int .i64 0) (.int .i64 0) :=
    ⟨0, 0, σ1, [], rfl, Nat.zero_le _, rfl, Int.le_refl _, by omega, HR4.out.below hb5, HS1.out, rfl, World.ownsRow_nil _ _ _ _, HT.out, HB4.out.trans (hb5.mono HB4.out.size), HG.out⟩
  have HS := hide hstart
  clear hstart hb5
  go_wp2_with fail
  go_step3
  go_wp2_with fail
  have hcd : decide (lf < cnt) = false := decide_eq_false (by omega)
  simp only [hcd, Bool.or_false]
  go_loopw [11, 12, 47] (fun o a i wr => OpS w w2.heap.size cnt body.size tot wr o a i) (fun _ _ i _ => cnt - (intOf i).toNat)
  case atStart => exact HS.out
  case round =>
    obtain ⟨k, p, σ, acc, rfl, hk, rfl, hp0, hp1, hR, hl, hak, hO, ht, hB, hg⟩ := hrel
    subst hak
    obtain ⟨A, c, rfl⟩ := row_slice hO
    have HR := hide hR
    have HT' := hide ht
    have HOr := hide hO
    have HBr := hide hB
    have HLr := hide hl
    have hneg : ¬ ((-1 : Int) = (body.size : Int)) := by omega
    clear hR ht hO hB hl
    rcases Nat.lt_or_ge acc.length cnt with hkc | hkc
    · obtain ⟨m, hm⟩ : ∃ m, cnt - acc.length = m + 1 := ⟨cnt - acc.length - 1, by omega⟩
      have ht := HT'.out
      rw [hm] at ht
      have HT2 := hide ht
      clear ht HT'
      go_wp2_with fail
      refine (rByte_any _ _ _ HR.out (fun l h => by have := HLr.out l h; omega)).mono ?_
      rintro e w6 ⟨rfl, hr6, hf6⟩
      rw [show (rByte σ).1 = pcK σ from rfl]
      have HL6 := hide (fun l (h : (rByte σ).2 = some l) => rByte_len h HLr.out)
      have HR6 := hide hr6
      have HF6 := hide hf6
      clear hr6 hf6
      go_wp2_with fail
      refine (rInt_any _ _ _ HR6.out (fun l h => by have := HL6.out l h; omega)).mono ?_
      rintro e w7 ⟨rfl, hr7, hf7⟩
      rw [show (rInt (rByte σ).2).1 = pcI σ from rfl]
      have HL7 := hide (fun l (h : (rInt (rByte σ).2).2 = some l) => rInt_len h HL6.out)
      have HR7 := hide hr7
      have HF7 := hide (HF6.out.trans hf7 (fun _ _ h => h))
      clear hr7 hf7
      go_wp2_with fail
      refine (rInt_any _ _ _ HR7.out (fun l h => by have := HL7.out l h; omega)).mono ?_
      rintro e w8 ⟨rfl, hr8, hf8⟩
      rw [show (rInt (rInt (rByte σ).2).2).1 = pcB σ from rfl]
      have HL8 := hide (fun l (h : (rInt (rInt (rByte σ).2).2).2 = some l) => rInt_len h HL7.out)
      have HR8 := hide hr8
      have HF8 := hide (HF7.out.trans hf8 (fun _ _ h => h))
      clear hr8 hf8
      go_wp2_with fail
      refine (rInt_any _ _ _ HR8.out (fun l h => by have := HL8.out l h; omega)).mono ?_
      rintro e w9 ⟨rfl, hr9, hf9⟩
      rw [show (rInt (rInt (rInt (rByte σ).2).2).2).1 = pcL σ from rfl]
      rw [show (rInt (rInt (rInt (rByte σ).2).2).2).2 = pcS σ from rfl] at hr9
      have HL9 := hide (fun l (h : pcS σ = some l) => rInt_len h HL8.out)
      have HR9 := hide hr9
      have HF9 := hide (HF8.out.trans hf9 (fun _ _ h => h))
      clear hr9 hf9
      go_wp2_with fail
      refine (may_any _ _ _ _ _ _).mono ?_
      rintro e w10 ⟨rfl, hb10⟩
      have HE10 := hide (obj_below (obj_new w9 _) hb10)
      have HR10 := hide ((HR9.out.below ((Below.refl _ _).alloc (Nat.le_refl _) _)).below hb10)
      have HB9 : Hid (Below w.heap.size w w9) := hide (HBr.out.trans (HF9.out.below w.heap.size HBr.out.size (fun i hi e => by omega)))
      have HB10 := hide (below_step HB9.out HB9.out.size hb10)
      have HO10 := hide (row_below (row_below (row_fr HOr.out HF9.out (fun j hj h => by
        obtain ⟨_, cs, h89⟩ := row_typed HOr.out hj
        exact HR.out.ne h89 (by decide) h)) ((Below.refl _ _).alloc (Nat.le_refl _) _)) hb10)
      have HW := hide (show ∀ j, (Value.slice A acc.length c).ownBlock = some j → j < w9.heap.size from fun j hj => by
        obtain ⟨_, cs, h89⟩ := row_typed HOr.out hj
        have := obj_lt h89
        have := HF9.out.size
        omega)
      have z4 := obj_cell HE10.out 4
      have z0 := obj_cell HE10.out 0
      have z1 := obj_cell HE10.out 1
      have z2 := obj_cell HE10.out 2
      have z3 := obj_cell HE10.out 3
      have zl := obj_lt HE10.out
      simp only [List.getElem?_toArray, List.getElem?_cons_zero, List.getElem?_cons_succ] at z0 z1 z2 z3 z4
      clear hb10
      by_cases hok : pcOk σ p body.size
      · have ht := HT2.out
        rw [segRd_go hok] at ht
        have HT3 := hide ht
        clear ht HT2
        obtain ⟨hmay, hl0, hl1⟩ := hok
        rw [decide_eq_true hmay]
        have hl0' : ¬ pcL σ < 0 := by omega
        have hl1' : ¬ (body.size : Int) - p < pcL σ := by omega
        obtain ⟨v', w11, hrun, hO11, hf11, _⟩ := app_ent (w := w10.alloc (.cells (pcE σ p).cells.toArray 89)) (row_below HO10.out ((Below.refl _ _).alloc (Nat.le_refl _) _)) (pcE σ p) (g' := w10.heap.size) (obj_new w10 _) (by omega) (by have := HB10.out.size; simp; omega) 84
        obtain ⟨A2, c2, rfl⟩ := row_slice hO11
        have y4 := obj_cell (hf11.obj (obj_alloc HE10.out _) (fun h => by have := HW.out _ h; omega)) 4
        simp only [List.getElem?_toArray, List.getElem?_cons_zero, List.getElem?_cons_succ] at y4
        have hst : OpS w w2.heap.size cnt body.size tot w11 (.slice A2 (acc ++ [pcE σ p]).length c2) (.int .i64 (p + pcL σ)) (.int .i64 ((acc.length + 1 : Nat) : Int)) := by
          refine ⟨acc.length + 1, p + pcL σ, pcS σ, _, rfl, by omega, rfl, by omega, by omega, ?_, HL9.out, by simp, hO11, ?_, ?_, hg⟩
          · exact Rdr.fr (HR10.out.below ((Below.refl _ _).alloc (Nat.le_refl _) _)) hf11 (fun h => by
              obtain ⟨_, cs, h89⟩ := row_typed HOr.out h
              exact HR.out.ne h89 (by decide) rfl)
          · rw [show cnt - (acc.length + 1) = m from by omega]
            exact HT3.out
          · exact (HB10.out.alloc HB10.out.size _).trans (hf11.below _ (by have := HB10.out.size; simp; omega) (fun j hj h => by
              have := (row_typed HOr.out h).1
              omega))
        have HST := hide hst
        simp only [pcE, Ent.cells] at hrun
        clear hst hO11 hf11
        go_wp2_with (at_builtin; refine wpList_append_run rfl (.tmp 76) (.tmp 78) 84 84 rfl rfl rfl hrun ?_)
        go_wp2
        go_roundw
        case rel =>
          have hst := HST.out
          simp only [List.length_append, List.length_singleton] at hst
          exact hst
        case measure => simp [intOf]; omega
      · have ht := HT2.out
        rw [segRd_no hok] at ht
        have hno : ¬ (rDone tot.2.1 = 0 ∧ tot.2.2 = (body.size : Int)) := by
          rw [← ht]
          rintro ⟨_, h⟩
          exact hneg h
        have HNO := hide hno
        clear ht HT2 hno
        by_cases hmay : mayE (pcK σ) (pcI σ) (pcB σ)
        · rw [decide_eq_true hmay]
          by_cases hl0 : pcL σ < 0
          · go_wp2_with fail
            refine (rDone_any _ _ _ HR10.out).mono ?_
            rintro e w11 ⟨rfl, hb11⟩
            rcases rDone_two (pcS σ) with h | h
            all_goals
              rw [h]
              go_wp2
              unfold Exit.noGoto
              go_ret2
              exact SegPost.no HNO.out (HB10.out.trans (hb11.mono HB10.out.size))
          · have hl1 : (body.size : Int) - p < pcL σ := by
              by_cases hcc : (body.size : Int) - p < pcL σ
              · exact hcc
              · exact absurd ⟨hmay, by omega, by omega⟩ hok
            go_wp2_with fail
            refine (rDone_any _ _ _ HR10.out).mono ?_
            rintro e w11 ⟨rfl, hb11⟩
            rcases rDone_two (pcS σ) with h | h
            all_goals
              rw [h]
              go_wp2
              unfold Exit.noGoto
              go_ret2
              exact SegPost.no HNO.out (HB10.out.trans (hb11.mono HB10.out.size))
        · rw [decide_eq_false hmay]
          go_wp2_with fail
          refine (rDone_any _ _ _ HR10.out).mono ?_
          rintro e w11 ⟨rfl, hb11⟩
          rcases rDone_two (pcS σ) with h | h
          all_goals
            rw [h]
            go_wp2
            unfold Exit.noGoto
            go_ret2
            exact SegPost.no HNO.out (HB10.out.trans (hb11.mono HB10.out.size))
    · have ht := HT'.out
      rw [show cnt - acc.length = 0 from by omega] at ht
      have hkc' : ¬ (acc.length : Int) < (cnt : Int) := by omega
      go_wp2_with fail
      refine (rDone_any _ _ _ HR.out).mono ?_
      rintro e w11 ⟨rfl, hb11⟩
      have HBf := hide (HBr.out.trans (hb11.mono HBr.out.size))
      have HOf := hide (row_below HOr.out hb11)
      have HTf := hide ht
      clear ht hb11
      rcases rDone_two σ with h | h
      · rw [h]
        have HD := hide h
        by_cases hpe : p = (body.size : Int)
        · go_wp2
          unfold Exit.noGoto
          go_ret2
          refine SegPost.yes ?_ ?_ ?_ HBf.out
          · rw [← HTf.out]
            exact HD.out
          · rw [← HTf.out]
            exact hpe
          · rw [← HTf.out]
            exact HOf.out
        · go_wp2
          unfold Exit.noGoto
          go_ret2
          refine SegPost.no ?_ HBf.out
          rw [← HTf.out]
          exact fun hh => hpe hh.2
      · rw [h]
        have HD := hide h
        go_wp2
        unfold Exit.noGoto
        go_ret2
        refine SegPost.no ?_ HBf.out
        rw [← HTf.out]
        intro hh
        have := HD.out
        have := hh.1
        simp only [segRd] at this
        omega
end Go.Proofs.Ytljmaicobafgkaa
end
section
/- Chapter 31, segment: what Open reads of what Seal wrote, plain. -/
namespace Go.Proofs.Ytljmaicobafgkaa
open Go.RowKit

/-- A piece, with its body. -/
structure Pc where
  kind : Int
  inode : Int
  block : Int
  body : ByteArray
def Pc.ok (x : Pc) : Prop := mayE x.kind x.inode x.block
def Pc.ent (x : Pc) (p : Nat) : Ent := ⟨x.kind, x.inode, x.block, p, x.body.size⟩
def entsAt : Nat → List Pc → List Ent
  | _, [] => []
  | p, x :: l => x.ent p :: entsAt (p + x.body.size) l
def pcText (l : List Pc) : List UInt8 := l.flatMap fun x => x.body.data.toList
theorem pcText_cons (x : Pc) (l : List Pc) : pcText (x :: l) = x.body.data.toList ++ pcText l := rfl
theorem pcText_snoc (l : List Pc) (x : Pc) : pcText (l ++ [x]) = pcText l ++ x.body.data.toList := by simp [pcText]
theorem entsAt_len : ∀ (p : Nat) (l : List Pc), (entsAt p l).length = l.length
  | _, [] => rfl
  | p, x :: l => by simp [entsAt, entsAt_len (p + x.body.size) l]
theorem entsAt_snoc : ∀ (l : List Pc) (p : Nat) (x : Pc), entsAt p (l ++ [x]) = entsAt p l ++ [x.ent (p + (pcText l).length)]
  | [], p, x => by simp [entsAt, pcText]
  | y :: l, p, x => by
    rw [List.cons_append, entsAt, entsAt_snoc l (p + y.body.size) x, entsAt, pcText_cons, List.length_append, ← size_list, Nat.add_assoc]
    rfl
theorem pc_enc (e : Ent) (r : List UInt8) (h : mayE e.kind e.inode e.block) (h0 : 0 ≤ e.len) (h1 : e.len ≤ 1073741824) :
    pcK (some (entB e ++ r)) = e.kind ∧ pcI (some (entB e ++ r)) = e.inode ∧ pcB (some (entB e ++ r)) = e.block ∧ pcL (some (entB e ++ r)) = e.len ∧ pcS (some (entB e ++ r)) = some r := by
  obtain ⟨a0, a1, b0, b1, c0, c1⟩ := h
  have hx : entB e ++ r = ub e.kind :: (num e.inode ++ (num e.block ++ (num e.len ++ r))) := by simp [entB]
  have h0 : rByte (some (entB e ++ r)) = (e.kind, some (num e.inode ++ (num e.block ++ (num e.len ++ r)))) := by
    rw [hx]
    show (((ub e.kind).toNat : Int), _) = _
    rw [ub_small (by omega) (by omega)]
  have h1 := rInt_num e.inode (num e.block ++ (num e.len ++ r)) (by omega) (by omega)
  have h2 := rInt_num e.block (num e.len ++ r) (by omega) (by omega)
  have h3 := rInt_num e.len r (by omega) (by omega)
  refine ⟨?_, ?_, ?_, ?_, ?_⟩
  · unfold pcK
    rw [h0]
  · unfold pcI
    rw [h0]
    dsimp only
    rw [h1]
  · unfold pcB
    rw [h0]
    dsimp only
    rw [h1]
    dsimp only
    rw [h2]
  · unfold pcL
    rw [h0]
    dsimp only
    rw [h1]
    dsimp only
    rw [h2]
    dsimp only
    rw [h3]
  · unfold pcS
    rw [h0]
    dsimp only
    rw [h1]
    dsimp only
    rw [h2]
    dsimp only
    rw [h3]
theorem segRd_enc (tl : Nat) (r : List UInt8) (ht : tl ≤ 1073741824) : ∀ (l : List Pc) (p : Nat) (out : List Ent), (∀ x ∈ l, x.ok) → p + (pcText l).length ≤ tl →
    segRd tl l.length (some ((entsAt p l).flatMap entB ++ r)) p out = (out ++ entsAt p l, some r, ((p + (pcText l).length : Nat) : Int))
  | [], p, out, _, _ => by simp [segRd, entsAt, pcText]
  | x :: l, p, out, hok, hp => by
    rw [pcText_cons, List.length_append, ← size_list] at hp
    have hx : x.ok := hok x (List.mem_cons_self ..)
    have hl : (entsAt p (x :: l)).flatMap entB ++ r = entB (x.ent p) ++ ((entsAt (p + x.body.size) l).flatMap entB ++ r) := by
      simp [entsAt]
    obtain ⟨e1, e2, e3, e4, e5⟩ := pc_enc (x.ent p) ((entsAt (p + x.body.size) l).flatMap entB ++ r) hx (by simp [Pc.ent]) (by simp only [Pc.ent]; omega)
    rw [hl, List.length_cons, segRd_go (by
      unfold pcOk
      rw [e1, e2, e3, e4]
      refine ⟨hx, ?_, ?_⟩ <;> simp only [Pc.ent] <;> omega)]
    rw [e5, e4]
    have hpe : pcE (some (entB (x.ent p) ++ ((entsAt (p + x.body.size) l).flatMap entB ++ r))) (p : Int) = x.ent p := by
      unfold pcE
      rw [e1, e2, e3, e4]
      rfl
    rw [hpe, show (p : Int) + (x.ent p).len = ((p + x.body.size : Nat) : Int) from by simp [Pc.ent]]
    rw [segRd_enc tl r ht l (p + x.body.size) (out ++ [x.ent p]) (fun y hy => hok y (List.mem_cons_of_mem _ hy)) (by omega)]
    rw [pcText_cons, List.length_append, ← size_list]
    simp [entsAt, Nat.add_assoc]
end Go.Proofs.Ytljmaicobafgkaa
end
section
/- Chapter 31, segment: Open of what Seal wrote. -/
namespace Go.Proofs.Ytljmaicobafgkaa
open Go.RowKit

theorem num_two {n : Int} (h0 : 0 ≤ n) (h1 : n < 8192) : (num n).length ≤ 2 := numN_length 1 _ (by unfold zz; rw [if_pos h0]; omega)
theorem num_three {n : Int} (h0 : 0 ≤ n) (h1 : n < 1048576) : (num n).length ≤ 3 := numN_length 2 _ (by unfold zz; rw [if_pos h0]; omega)
theorem num_five {n : Int} (h0 : 0 ≤ n) (h1 : n < 17179869184) : (num n).length ≤ 5 := numN_length 4 _ (by unfold zz; rw [if_pos h0]; omega)
theorem num_one {n : Int} (h0 : 0 ≤ n) (h1 : n < 64) : (num n).length ≤ 1 := numN_length 0 _ (by unfold zz; rw [if_pos h0]; omega)
theorem entB_short (e : Ent) (h : EntOk e) : (entB e).length ≤ 11 ∧ 1 ≤ (entB e).length := by
  obtain ⟨⟨_, _, b0, b1, c0, c1⟩, d0, d1, _, _⟩ := h
  have h1 := num_two b0 (by omega)
  have h2 := num_five c0 (by omega)
  have h3 := num_three d0 (by omega)
  unfold entB
  rw [List.length_cons, List.length_append, List.length_append]
  omega
theorem entsB_short : ∀ (l : List Ent), (∀ e ∈ l, EntOk e) → (l.flatMap entB).length ≤ 11 * l.length ∧ l.length ≤ (l.flatMap entB).length
  | [], _ => ⟨Nat.le_refl _, Nat.le_refl _⟩
  | e :: l, h => by
    have h1 := entB_short e (h e List.mem_cons_self)
    have h2 := entsB_short l (fun x hx => h x (List.mem_cons_of_mem _ hx))
    rw [List.flatMap_cons, List.length_append, List.length_cons]
    omega
/-- What holds of a segment's pieces after any Adds. -/
structure SegInv (size : Int) (l : List Pc) : Prop where
  ok : ∀ x ∈ l, x.ok
  fits : l = [] ∨ ((pcText l).length : Int) + over l.length ≤ size
theorem SegInv.nil (size : Int) : SegInv size [] := ⟨fun x hx => by simp at hx, .inl rfl⟩
theorem SegInv.snoc {size : Int} {l : List Pc} (h : SegInv size l) {x : Pc} (hx : x.ok) (hf : (x.body.size : Int) ≤ leftOf size (pcText l).length l.length) : SegInv size (l ++ [x]) := by
  refine ⟨fun y hy => ?_, .inr ?_⟩
  · rw [List.mem_append] at hy
    rcases hy with hy | hy
    · exact h.ok y hy
    · simp only [List.mem_singleton] at hy
      subst hy
      exact hx
  · rw [pcText_snoc, List.length_append, ← size_list, List.length_append, List.length_singleton]
    unfold leftOf at hf
    push_cast
    omega
theorem SegInv.bounds {size : Int} {l : List Pc} (h : SegInv size l) (h1 : size ≤ 65536) : (pcText l).length ≤ 65536 ∧ (l.length : Int) ≤ 2400 := by
  rcases h.fits with rfl | hf
  · simp [pcText]
  · unfold over at hf
    rw [if_neg (by omega)] at hf
    omega
theorem entsAt_mem : ∀ (l : List Pc) (p : Nat) (e : Ent), e ∈ entsAt p l → ∃ x ∈ l, e.kind = x.kind ∧ e.inode = x.inode ∧ e.block = x.block ∧ e.len = x.body.size ∧ (p : Int) ≤ e.pos ∧ e.pos + e.len ≤ ((p + (pcText l).length : Nat) : Int)
  | [], p, e, h => by simp [entsAt] at h
  | y :: l, p, e, h => by
    rw [entsAt, List.mem_cons] at h
    rw [pcText_cons, List.length_append, ← size_list]
    rcases h with rfl | h
    · exact ⟨y, List.mem_cons_self, rfl, rfl, rfl, rfl, by simp [Pc.ent], by simp only [Pc.ent]; omega⟩
    · obtain ⟨x, hx, h1, h2, h3, h4, h5, h6⟩ := entsAt_mem l _ e h
      exact ⟨x, List.mem_cons_of_mem _ hx, h1, h2, h3, h4, by omega, by omega⟩
theorem SegInv.ents {size : Int} {l : List Pc} (h : SegInv size l) (h1 : size ≤ 65536) : ∀ e ∈ entsAt 0 l, EntOk e := by
  intro e he
  obtain ⟨x, hx, e1, e2, e3, e4, e5, e6⟩ := entsAt_mem l 0 e he
  have hb := (h.bounds h1).1
  refine ⟨?_, by omega, by omega, by omega, by omega⟩
  rw [e1, e2, e3]
  exact h.ok x hx
/-- A segment's bytes. -/
def segB (l : List Pc) : List UInt8 := pcText l ++ (idxB (entsAt 0 l) ++ le4 ((idxB (entsAt 0 l)).length : Int))
def segS (l : List Pc) : ByteArray := sealS ⟨(segB l).toArray⟩
theorem segS_list (l : List Pc) : (segS l).data.toList = segB l ++ le4 (crc (segB l)) := by
  unfold segS
  rw [sealS_list]
theorem idxB_bound {size : Int} {l : List Pc} (h : SegInv size l) (h1 : size ≤ 65536) : (idxB (entsAt 0 l)).length ≤ 2 + 11 * l.length ∧ (l = [] → (idxB (entsAt 0 l)).length ≤ 1) := by
  have hb := h.bounds h1
  have h2 := (entsB_short _ (h.ents h1)).1
  rw [entsAt_len] at h2
  unfold idxB
  rw [List.length_append, entsAt_len]
  refine ⟨?_, ?_⟩
  · have := num_two (n := (l.length : Int)) (by omega) (by omega)
    omega
  · rintro rfl
    have := num_one (n := ((([] : List Pc).length : Nat) : Int)) (by simp) (by simp)
    simp [entsAt] at this ⊢
    exact this
theorem segS_size (l : List Pc) : (segS l).size = (pcText l).length + (idxB (entsAt 0 l)).length + 8 := by
  rw [size_list, segS_list, List.length_append, le4_length]
  unfold segB
  rw [List.length_append, List.length_append, le4_length]
  omega
theorem segS_bound {size : Int} {l : List Pc} (h : SegInv size l) (h0 : 16 ≤ size) (h1 : size ≤ 65536) : ((segS l).size : Int) ≤ size := by
  rw [segS_size]
  obtain ⟨h2, h3⟩ := idxB_bound h h1
  rcases h.fits with rfl | hf
  · have := h3 rfl
    simp [pcText]
    omega
  · unfold over at hf
    rw [if_neg (by omega)] at hf
    have := (h.bounds h1).2
    rcases l with _ | ⟨x, l⟩
    · have := h3 rfl
      simp [pcText] at *
      omega
    · simp only [List.length_cons] at *
      omega
theorem ext_mid (a b c : List UInt8) : (⟨(a ++ (b ++ c)).toArray⟩ : ByteArray).extract a.length (a.length + b.length) = ⟨b.toArray⟩ := by
  rw [extract_str]
  simp
theorem segOpen_seal (size : Int) (l : List Pc) (w : World) (h : SegInv size l) (h0 : 16 ≤ size) (h1 : size ≤ 65536) :
    Calls Try.prog 62 #[.string (segS l)] w fun e w' => ∃ A c, e = .returned (.tuple #[.slice A l.length c, .int .i64 0]) ∧ OwE w' w.heap.size (.slice A l.length c) (entsAt 0 l) ∧ Below w.heap.size w w' := by
  have hsz := segS_bound h h0 h1
  have hsz2 := segS_size l
  have hbd := h.bounds h1
  obtain ⟨T, hT⟩ : ∃ T, T = pcText l := ⟨_, rfl⟩
  obtain ⟨X, hX⟩ : ∃ X, X = idxB (entsAt 0 l) := ⟨_, rfl⟩
  have ho : openL (segS l).data.toList = some (segB l) := by
    rw [segS_list]
    exact openL_seal _
  have hB : segB l = T ++ (X ++ le4 (X.length : Int)) := by unfold segB; rw [← hT, ← hX]
  rw [← hT, ← hX] at hsz2
  have hXl : X.length < 4294967296 := by omega
  have hp : ∀ w : World, Calls Try.prog 131 #[.string ⟨(segB l).toArray⟩] w fun e w' => e = .returned (.tuple #[.string ⟨T.toArray⟩, .string ⟨X.toArray⟩, .bool true]) ∧ Below w.heap.size w w' := by
    intro w
    have hz : (⟨(segB l).toArray⟩ : ByteArray).size = (T.length + X.length) + 4 := by
      rw [str_size, hB]
      simp [le4]
      omega
    have h2 := parts_ok ⟨(segB l).toArray⟩ (T.length + X.length) X.length (ub (X.length : Int)) (ub ((X.length : Int) / 256)) (ub ((X.length : Int) / 65536)) (ub ((X.length : Int) / 16777216)) w (by omega) hz (by
      rw [extract_str, hz, hB, str_list, ← List.append_assoc, show T.length + X.length = (T ++ X).length from by simp, List.drop_left]
      simp [le4]) (by
      have := rd4_le4 (n := (X.length : Int)) (by omega) (by omega)
      omega) (by omega)
    rw [show T.length + X.length - X.length = T.length from by omega] at h2
    rw [show (⟨(segB l).toArray⟩ : ByteArray).extract 0 T.length = ⟨T.toArray⟩ from by rw [extract_str, hB]; simp, show (⟨(segB l).toArray⟩ : ByteArray).extract T.length (T.length + X.length) = ⟨X.toArray⟩ from by rw [hB]; exact ext_mid _ _ _] at h2
    exact h2
  have hn : rInt (some (⟨X.toArray⟩ : ByteArray).data.toList) = ((l.length : Int), some ((entsAt 0 l).flatMap entB)) := by
    rw [str_list, hX]
    unfold idxB
    rw [entsAt_len]
    exact rInt_num _ _ (by omega) (by omega)
  have hrd := segRd_enc T.length [] (by omega) l 0 [] h.ok (by rw [← hT]; omega)
  rw [List.append_nil, Nat.zero_add, List.nil_append, ← hT] at hrd
  have hsb : (⟨T.toArray⟩ : ByteArray).size = T.length := str_size T
  refine (segOpen_read (segS l) ⟨T.toArray⟩ ⟨X.toArray⟩ (segB l) l.length (some ((entsAt 0 l).flatMap entB)) (entsAt 0 l, some [], (T.length : Int)) w (by omega) (by omega) ho hp (by omega) (by rw [str_size]; omega) hn ?_ ?_).mono ?_
  · have := (entsB_short _ (h.ents h1)).2
    rw [entsAt_len] at this
    simpa [rLeft] using this
  · rw [hsb]
    exact hrd
  · rintro e w' ⟨v, rfl, hO, hbl⟩
    have hres : segRes ((⟨T.toArray⟩ : ByteArray).size : Int) (entsAt 0 l, some [], (T.length : Int)) = (entsAt 0 l, 0) := segRes_ok (by rfl) (by rw [hsb])
    rw [hres] at hO ⊢
    obtain ⟨A, c, rfl⟩ := row_slice hO
    rw [entsAt_len] at hO ⊢
    exact ⟨A, c, rfl, hO, hbl⟩
end Go.Proofs.Ytljmaicobafgkaa
end
