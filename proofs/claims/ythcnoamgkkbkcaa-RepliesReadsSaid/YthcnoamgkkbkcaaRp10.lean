/- Chapter 15, replies: one call read (96). -/
import Derived.Test.YthcnoamgkkbkcaaRp9
namespace Go.Proofs.Ythcnoamgkkbkcaa
open Go.RowKit

theorem wantY {c : Prop} [Decidable c] {p q : Prop} (h : c) (hp : p) : if c then p else q := by rw [if_pos h]; exact hp
theorem wantN {c : Prop} [Decidable c] {p q : Prop} (h : ¬ c) (hq : q) : if c then p else q := by rw [if_neg h]; exact hq
def oyA (n b4 : Nat) (u x : Nat → Value) : Act := ⟨#[u 0, u 1, .pointer (some ⟨n, 0, none⟩), x 11, .pointer (some ⟨b4, 0, none⟩), u 5, u 6, u 7, u 8, u 9, u 10, u 11, u 12, u 13, u 14, u 15, u 16, u 17, u 18, x 0, x 1, x 2, x 3, x 4, x 5, x 6, x 7, x 8, x 9], []⟩
def oyV (b4 : Nat) (id : Int) (bz : Bool) (rp : ByteArray) (qx : Nat) (qw : Value) : Prop :=
  match qx with
  | 0 => qw = .agg #[.int .i64 id, .bool bz, .string rp]
  | 1 => qw = .pointer (some ⟨b4, 0, none⟩)
  | 2 => qw = .int .i64 id
  | 3 => qw = .bool true
  | 4 => qw = .bool true
  | 5 => qw = .pointer (some ⟨b4, 2, none⟩)
  | 6 => qw = .string rp
  | 7 => qw = .int .i64 (rp.size : Int)
  | 8 => qw = .bool (decide ((rp.size : Int) ≤ 4096))
  | 9 => qw = .bool (decide ((rp.size : Int) ≤ 4096))
  | 11 => qw = .bool (decide ((rp.size : Int) ≤ 4096))
  | _ => True
def onA (n b4 : Nat) (u x : Nat → Value) : Act := ⟨#[u 0, u 1, .pointer (some ⟨n, 0, none⟩), x 11, .pointer (some ⟨b4, 0, none⟩), u 5, u 6, u 7, u 8, u 9, u 10, u 11, u 12, u 13, u 14, u 15, u 16, u 17, u 18, x 0, x 1, x 2, x 3, x 4, x 5, x 6, x 7, x 8, x 9], []⟩
def onV (b4 : Nat) (id : Int) (bz : Bool) (rp : ByteArray) (qx : Nat) (qw : Value) : Prop :=
  match qx with
  | 0 => qw = .agg #[.int .i64 id, .bool bz, .string rp]
  | 1 => qw = .pointer (some ⟨b4, 0, none⟩)
  | 2 => qw = .int .i64 id
  | 3 => qw = .bool false
  | 4 => qw = .bool false
  | 9 => qw = .bool false
  | 11 => qw = .bool false
  | _ => True
set_option maxHeartbeats 16000000 in
set_option maxRecDepth 100000 in
theorem oneR_any {w : World} {g : Nat} {σ : Option (List UInt8)} (h : Rdr w g σ) (hl : Shr σ) :
    Calls Try.prog 96 #[.pointer (some ⟨g, 0, none⟩)] w fun e w' => e = .returned (.tuple #[.agg (eC (oneR σ).1).toArray, .bool (oneR σ).2.1]) ∧ Rdr w' g (oneR σ).2.2 ∧ Fr (· = g) w w' := by
  have hgl := h.lt
  have hal := (Below.refl w.heap.size w).alloc (Nat.le_refl _) (.cells #[.int .i64 0, .bool false, .string ⟨#[]⟩] 116)
  have ob2 := obj_new w (.cells #[.int .i64 0, .bool false, .string ⟨#[]⟩] 116)
  obtain ⟨W1, hW1⟩ : ∃ W, W = w.alloc (.cells #[.int .i64 0, .bool false, .string ⟨#[]⟩] 116) := ⟨_, rfl⟩
  have hs1 : W1.heap.size = w.heap.size + 1 := by rw [hW1]; simp
  rw [← hW1] at hal ob2
  have HC1 := hide (rInt_any g σ W1 (h.below hal) (fun l e => by have := hl l e; omega))
  have hF1 : Fr (· = g) w W1 := Fr.of_below hal
  have hl1 := shr_int hl
  have hl2 := shr_byte hl1
  have hl3 := shr_text hl2
  unfold oneR
  obtain ⟨id, hid⟩ : ∃ id, id = (rInt σ).1 := ⟨_, rfl⟩
  obtain ⟨σ1, hσ1⟩ : ∃ s, s = (rInt σ).2 := ⟨_, rfl⟩
  rw [← hid, ← hσ1] at HC1 ⊢
  rw [← hσ1] at hl1 hl2 hl3
  obtain ⟨kb, hkb⟩ : ∃ k, k = (rByte σ1).1 := ⟨_, rfl⟩
  obtain ⟨σ2, hσ2⟩ : ∃ s, s = (rByte σ1).2 := ⟨_, rfl⟩
  rw [← hkb, ← hσ2]
  obtain ⟨R, hR⟩ : ∃ R : En × Bool × Option (List UInt8), R = (if kb = 1 then (⟨id, true, ByteArray.empty⟩, decide (mayR 0 id), σ2) else if kb = 0 then (⟨id, false, ⟨(rText σ2).1.toArray⟩⟩, decide (mayR 0 id ∧ (rText σ2).1.length ≤ 4096), (rText σ2).2) else (⟨id, false, ByteArray.empty⟩, false, σ2)) := ⟨_, rfl⟩
  rw [← hR]
  have HR := hide hR
  clear hR
  rw [← hσ2] at hl2 hl3
  have HC2 := hide (fun (W : World) (hr : Rdr W g σ1) => show Calls Try.prog 69 #[.pointer (some ⟨g, 0, none⟩)] W fun e w' => e = .returned (.int .i64 kb) ∧ Rdr w' g σ2 ∧ Fr (· = g) W w' from by
    rw [hkb, hσ2]
    exact rByte_any g σ1 W hr (fun l e => by have := hl1 l e; omega))
  have HC3 := hide (fun (W : World) (hr : Rdr W g σ2) => rText_any g σ2 W hr (fun l e => by have := hl2 l e; omega))
  have HF1 := hide hF1
  have HO2 := hide ob2
  have HS1 := hide hs1
  clear h hl hal ob2 hF1 hl1 hl2 hl3 hid hσ1 hkb hσ2 hs1
  rw [hW1] at HC1
  go_enter Try.func96, Try.ntmps96
  go_wp2_with fail
  refine HC1.out.mono ?_
  rintro e w1 ⟨rfl, hr1, hf1⟩
  rw [← hW1] at hf1
  have hF := HF1.out.trans hf1 (fun i hi e => e)
  have ho2 := hf1.obj HO2.out (by omega)
  have hsz := hf1.size
  rw [HS1.out] at hsz
  obtain ⟨b4, hb4⟩ : ∃ b, b = w1.heap.size := ⟨_, rfl⟩
  have hlt : w.heap.size < b4 := by omega
  have hal2 := (Below.refl w1.heap.size w1).alloc (Nat.le_refl _) (.cells #[.int .i64 0, .bool false, .string ⟨#[]⟩] 116)
  have ob4 := obj_new w1 (.cells #[.int .i64 0, .bool false, .string ⟨#[]⟩] 116)
  rw [← hb4] at ob4
  have HST := hide (store_whole (P := Try.prog) (ty := 116) ob4 (cells := #[.int .i64 id, .bool false, .string ⟨#[]⟩]) info116 rfl (by simp [Value.oneCell']))
  have F2 := setRow_fr' (w1.alloc (.cells #[.int .i64 0, .bool false, .string ⟨#[]⟩] 116)) b4 #[.int .i64 id, .bool false, .string ⟨#[]⟩]
  have HQ4 := hide (setRow_at' (C' := #[.int .i64 id, .bool false, .string ⟨#[]⟩]) ob4)
  have HQ2 := hide (F2.obj (obj_below ho2 hal2) (by omega))
  have HQR := hide ((hr1.below hal2).fr F2 (by omega))
  have HQF := hide ((hF.then_below hal2).trans F2 (fun i hi e => by omega))
  have HB4 := hide hb4
  have HLT := hide hlt
  clear hr1 hf1 hF ho2 hsz hal2 ob4 F2 hW1 HC1 HF1 HO2 HS1 hlt
  go_wp2_with (refine wpList_storev' (w' := (w1.alloc (.cells #[.int .i64 0, .bool false, .string ⟨#[]⟩] 116)).setRow b4 #[.int .i64 id, .bool false, .string ⟨#[]⟩]) rfl 116 (.tmp 4) (.tmp 7) rfl rfl rfl ?_ ?_; rw [← hb4]; exact HST.out)
  rw [← hb4]
  clear hb4
  have hlt := HLT.out
  go_wp2_with fail
  generalize (w1.alloc (.cells #[.int .i64 0, .bool false, .string ⟨#[]⟩] 116)).setRow b4 #[.int .i64 id, .bool false, .string ⟨#[]⟩] = w2 at HQ4 HQ2 HQR HQF ⊢
  refine (HC2.out w2 HQR.out).mono ?_
  rintro e w3 ⟨rfl, hr3, hf3⟩
  have q4 := hf3.obj HQ4.out (by omega)
  have q2 := hf3.obj HQ2.out (by omega)
  have qf := HQF.out.trans hf3 (fun i hi e => e)
  clear HQ4 HQ2 HQR HQF HC2 HST
  by_cases h1 : kb = 1
  · subst h1
    obtain ⟨bz, hbz⟩ : ∃ b, b = true := ⟨_, rfl⟩
    obtain ⟨rp, hrp⟩ : ∃ b : ByteArray, b = ⟨#[]⟩ := ⟨_, rfl⟩
    have hR := HR.out
    rw [if_pos rfl] at hR
    have hz : (w3.setCell ⟨b4, 1, none⟩ (.bool true)).heap[b4]? = some (.cells #[.int .i64 id, .bool bz, .string rp] 116 (0, 0)) := by
      rw [hbz, hrp]
      simpa using obj_set q4 1 (.bool true)
    have z1 := obj_cell q4 1
    have zf1 := obj_frozen q4 1
    simp only [List.getElem?_toArray, List.getElem?_cons_zero, List.getElem?_cons_succ] at z1
    have hf4 : Fr (· = b4) w3 (w3.setCell ⟨b4, 1, none⟩ (.bool true)) := Fr.setCell (F := fun x => x = b4) (Fr.refl _ _) (fun _ => rfl) _
    have HQ4 := hide hz
    have HQ2 := hide (hf4.obj q2 (by omega))
    have HQR := hide (show Rdr (w3.setCell ⟨b4, 1, none⟩ (.bool true)) g R.2.2 from by rw [hR]; exact hr3.fr hf4 (by omega))
    have HQF := hide (qf.trans hf4 (fun i hi e => by omega))
    have HRESY := hide (fun (hmay : mayR 0 id) => show Ending.returned (.tuple #[.agg #[.int .i64 id, .bool bz, .string rp], .bool (decide ((rp.size : Int) ≤ 4096))]) = Ending.returned (.tuple #[.agg (eC R.1).toArray, .bool R.2.1]) from by
      rw [hR, hbz, hrp, decide_eq_true hmay]
      rfl)
    have HRESN := hide (fun (hmay : ¬ mayR 0 id) => show Ending.returned (.tuple #[.agg #[.int .i64 id, .bool bz, .string rp], .bool false]) = Ending.returned (.tuple #[.agg (eC R.1).toArray, .bool R.2.1]) from by
      rw [hR, hbz, hrp, decide_eq_false hmay]
      rfl)
    clear hr3 hf3 q4 q2 qf hR hz hf4 HR HC3 hbz hrp
    go_wp2_with fail
    generalize w3.setCell ⟨b4, 1, none⟩ (.bool true) = wq at HQ4 HQ2 HQR HQF ⊢
    clear z1 zf1
    by_cases hmay : mayR 0 id
    · have HMAY := hide (fun (W : World) => show Calls Try.prog 55 #[.int .i64 0, .int .i64 id] W fun e w' => e = .returned (.bool true) ∧ W = w' from by have h9 := mayR_any 0 id W; rw [decide_eq_true hmay] at h9; exact h9)
      have h8 := HRESY.out hmay
      have HRESY := hide h8
      clear hmay h8
      refine wp_region_e (oyA w.heap.size b4) (fun j => #[19, 20, 21, 22, 23, 24, 25, 26, 27, 28, 0, 3].getD j 0) (fun d x w' => OsG wq w.heap.size 116 #[.int .i64 0, .bool false, .string ⟨#[]⟩] #[.int .i64 id, .bool bz, .string rp] (d 10) w') (fun qi qv => oyV b4 id bz rp qi qv) (by kernel_rfl) (by kernel_rfl) rfl (OsG.start HQ2.out) ?_ ?_ ?_
      · exact fun u => ⟨fun x v => rfl, fun x v => rfl, fun x v => rfl, fun x v => rfl, fun x v => rfl, fun x v => rfl, fun x v => rfl, fun x v => rfl, fun x v => rfl, fun x v => rfl, fun x v => rfl, fun x v => rfl, trivial⟩
      · refine fun u => ⟨?_, ?_, ?_, ?_, ?_, ?_, ?_, ?_, ?_, ?_, ?_, ?_, trivial⟩
        · intro d x w' hS hdi hv hp hcl K hK
          have hS1 : OsG wq w.heap.size 116 #[.int .i64 0, .bool false, .string ⟨#[]⟩] #[.int .i64 id, .bool bz, .string rp] (d 10) w' := hS
          have hN := hS1.fr.obj HQ4.out (by omega)
          have z0 := obj_cell hN 0
          have z1 := obj_cell hN 1
          have z2 := obj_cell hN 2
          simp only [List.getElem?_toArray, List.getElem?_cons_zero, List.getElem?_cons_succ] at z0 z1 z2
          refine wantY (rfl) ?_
          unfold oyA at hK ⊢
          go_wp2
          exact hK (.agg #[.int .i64 id, .bool bz, .string rp]) w' hS rfl
        · intro d x w' hS hdi hv hp hcl K hK
          refine wantY (rfl) ?_
          unfold oyA at hK ⊢
          go_wp2
          exact hK (.pointer (some ⟨b4, 0, none⟩)) w' hS rfl
        · intro d x w' hS hdi hv hp hcl K hK
          have d0 : x 1 = .pointer (some ⟨b4, 0, none⟩) := hv 1 (hp 1 (by kernel_rfl))
          have hS1 : OsG wq w.heap.size 116 #[.int .i64 0, .bool false, .string ⟨#[]⟩] #[.int .i64 id, .bool bz, .string rp] (d 10) w' := hS
          have hN := hS1.fr.obj HQ4.out (by omega)
          have z0 := obj_cell hN 0
          have z1 := obj_cell hN 1
          have z2 := obj_cell hN 2
          simp only [List.getElem?_toArray, List.getElem?_cons_zero, List.getElem?_cons_succ] at z0 z1 z2
          refine wantY (rfl) ?_
          unfold oyA at hK ⊢
          simp only [d0] at hK ⊢
          go_wp2
          exact hK (.int .i64 id) w' hS rfl
        · intro d x w' hS hdi hv hp hcl K hK
          have d0 : x 2 = .int .i64 id := hv 2 (hp 2 (by kernel_rfl))
          refine wantY (rfl) ?_
          unfold oyA at hK ⊢
          simp only [d0] at hK ⊢
          go_wp2_with fail
          refine (HMAY.out w').mono ?_
          rintro e w3 ⟨rfl, rfl⟩
          exact hK (.bool true) w' hS rfl
        · intro d x w' hS hdi hv hp hcl K hK
          have d0 : x 3 = .bool true := hv 3 (hp 3 (by kernel_rfl))
          refine wantY (rfl) ?_
          unfold oyA at hK ⊢
          simp only [d0] at hK ⊢
          go_wp2
          exact hK (.bool true) w' hS rfl
        · intro d x w' hS hdi hv hp hcl K hK
          have dg : x 4 = .bool true := hv 4 (hp 4 (by kernel_rfl))
          refine wantY (by unfold oyA; rw [dg]; rfl) ?_
          unfold oyA at hK ⊢
          simp only [dg] at hK ⊢
          go_wp2
          exact hK (.pointer (some ⟨b4, 2, none⟩)) w' hS rfl
        · intro d x w' hS hdi hv hp hcl K hK
          have d0 : x 5 = .pointer (some ⟨b4, 2, none⟩) := hv 5 (hp 5 (by kernel_rfl))
          have dg : x 4 = .bool true := hv 4 (hp 4 (by kernel_rfl))
          have hS1 : OsG wq w.heap.size 116 #[.int .i64 0, .bool false, .string ⟨#[]⟩] #[.int .i64 id, .bool bz, .string rp] (d 10) w' := hS
          have hN := hS1.fr.obj HQ4.out (by omega)
          have z0 := obj_cell hN 0
          have z1 := obj_cell hN 1
          have z2 := obj_cell hN 2
          simp only [List.getElem?_toArray, List.getElem?_cons_zero, List.getElem?_cons_succ] at z0 z1 z2
          refine wantY (by unfold oyA; rw [dg]; rfl) ?_
          unfold oyA at hK ⊢
          simp only [d0, dg] at hK ⊢
          go_wp2
          exact hK (.string rp) w' hS rfl
        · intro d x w' hS hdi hv hp hcl K hK
          have d0 : x 6 = .string rp := hv 6 (hp 6 (by kernel_rfl))
          have dg : x 4 = .bool true := hv 4 (hp 4 (by kernel_rfl))
          refine wantY (by unfold oyA; rw [dg]; rfl) ?_
          unfold oyA at hK ⊢
          simp only [d0, dg] at hK ⊢
          go_wp2
          exact hK (.int .i64 (rp.size : Int)) w' hS rfl
        · intro d x w' hS hdi hv hp hcl K hK
          have d0 : x 7 = .int .i64 (rp.size : Int) := hv 7 (hp 7 (by kernel_rfl))
          have dg : x 4 = .bool true := hv 4 (hp 4 (by kernel_rfl))
          refine wantY (by unfold oyA; rw [dg]; rfl) ?_
          unfold oyA at hK ⊢
          simp only [d0, dg] at hK ⊢
          go_wp2
          exact hK (.bool (decide ((rp.size : Int) ≤ 4096))) w' hS rfl
        · intro d x w' hS hdi hv hp hcl K hK
          have d0 : x 4 = .bool true := hv 4 (hp 4 (by kernel_rfl))
          have d1 : x 8 = .bool (decide ((rp.size : Int) ≤ 4096)) := hv 8 (hp 8 (by kernel_rfl))
          refine wantY (rfl) ?_
          unfold oyA at hK ⊢
          simp only [d0, d1] at hK ⊢
          go_wp2
          exact hK (.bool (decide ((rp.size : Int) ≤ 4096))) w' hS rfl
        · intro d x w' hS hdi hv hp hcl K hK
          have d0 : x 0 = .agg #[.int .i64 id, .bool bz, .string rp] := hv 0 (hp 0 (by kernel_rfl))
          have hS1 : OsG wq w.heap.size 116 #[.int .i64 0, .bool false, .string ⟨#[]⟩] #[.int .i64 id, .bool bz, .string rp] (d 10) w' := hS
          rw [hdi] at hS1
          obtain ⟨hrun, hS2⟩ := hS1.store (P := Try.prog) (ty := 116) info116 rfl (by simp [Value.oneCell'])
          refine wantY (rfl) ?_
          unfold oyA at hK ⊢
          simp only [d0] at hK ⊢
          refine wp_storev' 116 (.tmp 2) (.tmp 19) rfl rfl rfl hrun ?_
          exact hK undef _ (show OsG wq w.heap.size 116 #[.int .i64 0, .bool false, .string ⟨#[]⟩] #[.int .i64 id, .bool bz, .string rp] true _ from hS2) trivial
        · intro d x w' hS hdi hv hp hcl K hK
          have d0 : x 9 = .bool (decide ((rp.size : Int) ≤ 4096)) := hv 9 (hp 9 (by kernel_rfl))
          refine wantY (rfl) ?_
          unfold oyA at hK ⊢
          simp only [d0] at hK ⊢
          go_wp2
          exact hK (.bool (decide ((rp.size : Int) ≤ 4096))) w' hS rfl
      · intro u hu d x w' hS hd hv
        have hS1 : OsG wq w.heap.size 116 #[.int .i64 0, .bool false, .string ⟨#[]⟩] #[.int .i64 id, .bool bz, .string rp] (d 10) w' := hS
        rw [hd 10 (by decide)] at hS1
        have hO := hS1.o
        rw [if_pos rfl] at hO
        have HOO := hide hO
        have e11 : x 11 = .bool (decide ((rp.size : Int) ≤ 4096)) := hv 11 (by decide)
        have HFIN := hide (show Rdr w' g R.2.2 ∧ Fr (· = g) w w' from ⟨HQR.out.fr hS1.fr (by omega), HQF.out.trans hS1.fr (fun i hi e => by omega)⟩)
        clear hS hS1 hd hv hu hO
        unfold oyA
        simp only [e11]
        go_wp2
        refine bodyPost_ret (res_ct rfl _ _ w.heap.size 116 _ (0, 0) _ rfl HOO.out Try.underlying116 rfl info116) rfl ?_
        have HX := HFIN.out
        refine ⟨?_, HX⟩
        exact HRESY.out
    · have HMAY := hide (fun (W : World) => show Calls Try.prog 55 #[.int .i64 0, .int .i64 id] W fun e w' => e = .returned (.bool false) ∧ W = w' from by have h9 := mayR_any 0 id W; rw [decide_eq_false hmay] at h9; exact h9)
      have h8 := HRESN.out hmay
      have HRESN := hide h8
      clear hmay h8
      refine wp_region_e (onA w.heap.size b4) (fun j => #[19, 20, 21, 22, 23, 24, 25, 26, 27, 28, 0, 3].getD j 0) (fun d x w' => OsG wq w.heap.size 116 #[.int .i64 0, .bool false, .string ⟨#[]⟩] #[.int .i64 id, .bool bz, .string rp] (d 10) w') (fun qi qv => onV b4 id bz rp qi qv) (by kernel_rfl) (by kernel_rfl) rfl (OsG.start HQ2.out) ?_ ?_ ?_
      · exact fun u => ⟨fun x v => rfl, fun x v => rfl, fun x v => rfl, fun x v => rfl, fun x v => rfl, fun x v => rfl, fun x v => rfl, fun x v => rfl, fun x v => rfl, fun x v => rfl, fun x v => rfl, fun x v => rfl, trivial⟩
      · refine fun u => ⟨?_, ?_, ?_, ?_, ?_, ?_, ?_, ?_, ?_, ?_, ?_, ?_, trivial⟩
        · intro d x w' hS hdi hv hp hcl K hK
          have hS1 : OsG wq w.heap.size 116 #[.int .i64 0, .bool false, .string ⟨#[]⟩] #[.int .i64 id, .bool bz, .string rp] (d 10) w' := hS
          have hN := hS1.fr.obj HQ4.out (by omega)
          have z0 := obj_cell hN 0
          have z1 := obj_cell hN 1
          have z2 := obj_cell hN 2
          simp only [List.getElem?_toArray, List.getElem?_cons_zero, List.getElem?_cons_succ] at z0 z1 z2
          refine wantY (rfl) ?_
          unfold onA at hK ⊢
          go_wp2
          exact hK (.agg #[.int .i64 id, .bool bz, .string rp]) w' hS rfl
        · intro d x w' hS hdi hv hp hcl K hK
          refine wantY (rfl) ?_
          unfold onA at hK ⊢
          go_wp2
          exact hK (.pointer (some ⟨b4, 0, none⟩)) w' hS rfl
        · intro d x w' hS hdi hv hp hcl K hK
          have d0 : x 1 = .pointer (some ⟨b4, 0, none⟩) := hv 1 (hp 1 (by kernel_rfl))
          have hS1 : OsG wq w.heap.size 116 #[.int .i64 0, .bool false, .string ⟨#[]⟩] #[.int .i64 id, .bool bz, .string rp] (d 10) w' := hS
          have hN := hS1.fr.obj HQ4.out (by omega)
          have z0 := obj_cell hN 0
          have z1 := obj_cell hN 1
          have z2 := obj_cell hN 2
          simp only [List.getElem?_toArray, List.getElem?_cons_zero, List.getElem?_cons_succ] at z0 z1 z2
          refine wantY (rfl) ?_
          unfold onA at hK ⊢
          simp only [d0] at hK ⊢
          go_wp2
          exact hK (.int .i64 id) w' hS rfl
        · intro d x w' hS hdi hv hp hcl K hK
          have d0 : x 2 = .int .i64 id := hv 2 (hp 2 (by kernel_rfl))
          refine wantY (rfl) ?_
          unfold onA at hK ⊢
          simp only [d0] at hK ⊢
          go_wp2_with fail
          refine (HMAY.out w').mono ?_
          rintro e w3 ⟨rfl, rfl⟩
          exact hK (.bool false) w' hS rfl
        · intro d x w' hS hdi hv hp hcl K hK
          have d0 : x 3 = .bool false := hv 3 (hp 3 (by kernel_rfl))
          refine wantY (rfl) ?_
          unfold onA at hK ⊢
          simp only [d0] at hK ⊢
          go_wp2
          exact hK (.bool false) w' hS rfl
        · intro d x w' hS hdi hv hp hcl K hK
          have dg : x 4 = .bool false := hv 4 (hp 4 (by kernel_rfl))
          exact wantN (by unfold onA; rw [dg]; exact Bool.false_ne_true) (hK undef w' hS trivial)
        · intro d x w' hS hdi hv hp hcl K hK
          have dg : x 4 = .bool false := hv 4 (hp 4 (by kernel_rfl))
          exact wantN (by unfold onA; rw [dg]; exact Bool.false_ne_true) (hK undef w' hS trivial)
        · intro d x w' hS hdi hv hp hcl K hK
          have dg : x 4 = .bool false := hv 4 (hp 4 (by kernel_rfl))
          exact wantN (by unfold onA; rw [dg]; exact Bool.false_ne_true) (hK undef w' hS trivial)
        · intro d x w' hS hdi hv hp hcl K hK
          have dg : x 4 = .bool false := hv 4 (hp 4 (by kernel_rfl))
          exact wantN (by unfold onA; rw [dg]; exact Bool.false_ne_true) (hK undef w' hS trivial)
        · intro d x w' hS hdi hv hp hcl K hK
          have d0 : x 4 = .bool false := hv 4 (hp 4 (by kernel_rfl))
          refine wantY (rfl) ?_
          unfold onA at hK ⊢
          simp only [d0] at hK ⊢
          go_wp2
          exact hK (.bool false) w' hS rfl
        · intro d x w' hS hdi hv hp hcl K hK
          have d0 : x 0 = .agg #[.int .i64 id, .bool bz, .string rp] := hv 0 (hp 0 (by kernel_rfl))
          have hS1 : OsG wq w.heap.size 116 #[.int .i64 0, .bool false, .string ⟨#[]⟩] #[.int .i64 id, .bool bz, .string rp] (d 10) w' := hS
          rw [hdi] at hS1
          obtain ⟨hrun, hS2⟩ := hS1.store (P := Try.prog) (ty := 116) info116 rfl (by simp [Value.oneCell'])
          refine wantY (rfl) ?_
          unfold onA at hK ⊢
          simp only [d0] at hK ⊢
          refine wp_storev' 116 (.tmp 2) (.tmp 19) rfl rfl rfl hrun ?_
          exact hK undef _ (show OsG wq w.heap.size 116 #[.int .i64 0, .bool false, .string ⟨#[]⟩] #[.int .i64 id, .bool bz, .string rp] true _ from hS2) trivial
        · intro d x w' hS hdi hv hp hcl K hK
          have d0 : x 9 = .bool false := hv 9 (hp 9 (by kernel_rfl))
          refine wantY (rfl) ?_
          unfold onA at hK ⊢
          simp only [d0] at hK ⊢
          go_wp2
          exact hK (.bool false) w' hS rfl
      · intro u hu d x w' hS hd hv
        have hS1 : OsG wq w.heap.size 116 #[.int .i64 0, .bool false, .string ⟨#[]⟩] #[.int .i64 id, .bool bz, .string rp] (d 10) w' := hS
        rw [hd 10 (by decide)] at hS1
        have hO := hS1.o
        rw [if_pos rfl] at hO
        have HOO := hide hO
        have e11 : x 11 = .bool false := hv 11 (by decide)
        have HFIN := hide (show Rdr w' g R.2.2 ∧ Fr (· = g) w w' from ⟨HQR.out.fr hS1.fr (by omega), HQF.out.trans hS1.fr (fun i hi e => by omega)⟩)
        clear hS hS1 hd hv hu hO
        unfold onA
        simp only [e11]
        go_wp2
        refine bodyPost_ret (res_ct rfl _ _ w.heap.size 116 _ (0, 0) _ rfl HOO.out Try.underlying116 rfl info116) rfl ?_
        have HX := HFIN.out
        refine ⟨?_, HX⟩
        exact HRESN.out
  by_cases h0 : kb = 0
  · subst h0
    have hR := HR.out
    rw [if_neg h1, if_pos rfl] at hR
    go_wp2_with fail
    refine (HC3.out w3 hr3).mono ?_
    rintro e w4 ⟨rfl, hr4, hf4⟩
    obtain ⟨bz, hbz⟩ : ∃ b, b = false := ⟨_, rfl⟩
    obtain ⟨rp, hrp⟩ : ∃ b : ByteArray, b = ⟨(rText σ2).1.toArray⟩ := ⟨_, rfl⟩
    have hsz : rp.size = (rText σ2).1.length := by
      rw [hrp]
      rfl
    rw [← hrp] at hR ⊢
    rw [← hsz] at hR
    have q5 := hf4.obj q4 (by omega)
    have hz : (w4.setCell ⟨b4, 2, none⟩ (.string rp)).heap[b4]? = some (.cells #[.int .i64 id, .bool bz, .string rp] 116 (0, 0)) := by
      rw [hbz]
      simpa using obj_set q5 2 (.string rp)
    have z1 := obj_cell q5 2
    have zf1 := obj_frozen q5 2
    simp only [List.getElem?_toArray, List.getElem?_cons_zero, List.getElem?_cons_succ] at z1
    have hf5 : Fr (· = b4) w4 (w4.setCell ⟨b4, 2, none⟩ (.string rp)) := Fr.setCell (F := fun x => x = b4) (Fr.refl _ _) (fun _ => rfl) _
    have HQ4 := hide hz
    have HQ2 := hide (hf5.obj (hf4.obj q2 (by omega)) (by omega))
    have HQR := hide (show Rdr (w4.setCell ⟨b4, 2, none⟩ (.string rp)) g R.2.2 from by rw [hR]; exact hr4.fr hf5 (by omega))
    have HQF := hide ((qf.trans hf4 (fun i hi e => e)).trans hf5 (fun i hi e => by omega))
    have HRESY := hide (fun (hmay : mayR 0 id) => show Ending.returned (.tuple #[.agg #[.int .i64 id, .bool bz, .string rp], .bool (decide ((rp.size : Int) ≤ 4096))]) = Ending.returned (.tuple #[.agg (eC R.1).toArray, .bool R.2.1]) from by
      rw [hR, hbz]
      show _ = Ending.returned (.tuple #[.agg #[.int .i64 id, .bool false, .string rp], .bool (decide (mayR 0 id ∧ rp.size ≤ 4096))])
      rw [decide_eq_decide.2 (show (rp.size : Int) ≤ 4096 ↔ mayR 0 id ∧ rp.size ≤ 4096 from ⟨fun hh => ⟨hmay, by omega⟩, fun hh => by have := hh.2; omega⟩)])
    have HRESN := hide (fun (hmay : ¬ mayR 0 id) => show Ending.returned (.tuple #[.agg #[.int .i64 id, .bool bz, .string rp], .bool false]) = Ending.returned (.tuple #[.agg (eC R.1).toArray, .bool R.2.1]) from by
      rw [hR, hbz]
      show _ = Ending.returned (.tuple #[.agg #[.int .i64 id, .bool false, .string rp], .bool (decide (mayR 0 id ∧ rp.size ≤ 4096))])
      rw [decide_eq_false (fun hh : mayR 0 id ∧ rp.size ≤ 4096 => hmay hh.1)])
    clear hr3 hf3 q4 q2 qf hR hz hf4 HR HC3 hbz hrp hsz q5 hf5 hr4 h1
    go_wp2_with fail
    generalize w4.setCell ⟨b4, 2, none⟩ (.string rp) = wq at HQ4 HQ2 HQR HQF ⊢
    clear z1 zf1
    by_cases hmay : mayR 0 id
    · have HMAY := hide (fun (W : World) => show Calls Try.prog 55 #[.int .i64 0, .int .i64 id] W fun e w' => e = .returned (.bool true) ∧ W = w' from by have h9 := mayR_any 0 id W; rw [decide_eq_true hmay] at h9; exact h9)
      have h8 := HRESY.out hmay
      have HRESY := hide h8
      clear hmay h8
      refine wp_region_e (oyA w.heap.size b4) (fun j => #[19, 20, 21, 22, 23, 24, 25, 26, 27, 28, 0, 3].getD j 0) (fun d x w' => OsG wq w.heap.size 116 #[.int .i64 0, .bool false, .string ⟨#[]⟩] #[.int .i64 id, .bool bz, .string rp] (d 10) w') (fun qi qv => oyV b4 id bz rp qi qv) (by kernel_rfl) (by kernel_rfl) rfl (OsG.start HQ2.out) ?_ ?_ ?_
      · exact fun u => ⟨fun x v => rfl, fun x v => rfl, fun x v => rfl, fun x v => rfl, fun x v => rfl, fun x v => rfl, fun x v => rfl, fun x v => rfl, fun x v => rfl, fun x v => rfl, fun x v => rfl, fun x v => rfl, trivial⟩
      · refine fun u => ⟨?_, ?_, ?_, ?_, ?_, ?_, ?_, ?_, ?_, ?_, ?_, ?_, trivial⟩
        · intro d x w' hS hdi hv hp hcl K hK
          have hS1 : OsG wq w.heap.size 116 #[.int .i64 0, .bool false, .string ⟨#[]⟩] #[.int .i64 id, .bool bz, .string rp] (d 10) w' := hS
          have hN := hS1.fr.obj HQ4.out (by omega)
          have z0 := obj_cell hN 0
          have z1 := obj_cell hN 1
          have z2 := obj_cell hN 2
          simp only [List.getElem?_toArray, List.getElem?_cons_zero, List.getElem?_cons_succ] at z0 z1 z2
          refine wantY (rfl) ?_
          unfold oyA at hK ⊢
          go_wp2
          exact hK (.agg #[.int .i64 id, .bool bz, .string rp]) w' hS rfl
        · intro d x w' hS hdi hv hp hcl K hK
          refine wantY (rfl) ?_
          unfold oyA at hK ⊢
          go_wp2
          exact hK (.pointer (some ⟨b4, 0, none⟩)) w' hS rfl
        · intro d x w' hS hdi hv hp hcl K hK
          have d0 : x 1 = .pointer (some ⟨b4, 0, none⟩) := hv 1 (hp 1 (by kernel_rfl))
          have hS1 : OsG wq w.heap.size 116 #[.int .i64 0, .bool false, .string ⟨#[]⟩] #[.int .i64 id, .bool bz, .string rp] (d 10) w' := hS
          have hN := hS1.fr.obj HQ4.out (by omega)
          have z0 := obj_cell hN 0
          have z1 := obj_cell hN 1
          have z2 := obj_cell hN 2
          simp only [List.getElem?_toArray, List.getElem?_cons_zero, List.getElem?_cons_succ] at z0 z1 z2
          refine wantY (rfl) ?_
          unfold oyA at hK ⊢
          simp only [d0] at hK ⊢
          go_wp2
          exact hK (.int .i64 id) w' hS rfl
        · intro d x w' hS hdi hv hp hcl K hK
          have d0 : x 2 = .int .i64 id := hv 2 (hp 2 (by kernel_rfl))
          refine wantY (rfl) ?_
          unfold oyA at hK ⊢
          simp only [d0] at hK ⊢
          go_wp2_with fail
          refine (HMAY.out w').mono ?_
          rintro e w3 ⟨rfl, rfl⟩
          exact hK (.bool true) w' hS rfl
        · intro d x w' hS hdi hv hp hcl K hK
          have d0 : x 3 = .bool true := hv 3 (hp 3 (by kernel_rfl))
          refine wantY (rfl) ?_
          unfold oyA at hK ⊢
          simp only [d0] at hK ⊢
          go_wp2
          exact hK (.bool true) w' hS rfl
        · intro d x w' hS hdi hv hp hcl K hK
          have dg : x 4 = .bool true := hv 4 (hp 4 (by kernel_rfl))
          refine wantY (by unfold oyA; rw [dg]; rfl) ?_
          unfold oyA at hK ⊢
          simp only [dg] at hK ⊢
          go_wp2
          exact hK (.pointer (some ⟨b4, 2, none⟩)) w' hS rfl
        · intro d x w' hS hdi hv hp hcl K hK
          have d0 : x 5 = .pointer (some ⟨b4, 2, none⟩) := hv 5 (hp 5 (by kernel_rfl))
          have dg : x 4 = .bool true := hv 4 (hp 4 (by kernel_rfl))
          have hS1 : OsG wq w.heap.size 116 #[.int .i64 0, .bool false, .string ⟨#[]⟩] #[.int .i64 id, .bool bz, .string rp] (d 10) w' := hS
          have hN := hS1.fr.obj HQ4.out (by omega)
          have z0 := obj_cell hN 0
          have z1 := obj_cell hN 1
          have z2 := obj_cell hN 2
          simp only [List.getElem?_toArray, List.getElem?_cons_zero, List.getElem?_cons_succ] at z0 z1 z2
          refine wantY (by unfold oyA; rw [dg]; rfl) ?_
          unfold oyA at hK ⊢
          simp only [d0, dg] at hK ⊢
          go_wp2
          exact hK (.string rp) w' hS rfl
        · intro d x w' hS hdi hv hp hcl K hK
          have d0 : x 6 = .string rp := hv 6 (hp 6 (by kernel_rfl))
          have dg : x 4 = .bool true := hv 4 (hp 4 (by kernel_rfl))
          refine wantY (by unfold oyA; rw [dg]; rfl) ?_
          unfold oyA at hK ⊢
          simp only [d0, dg] at hK ⊢
          go_wp2
          exact hK (.int .i64 (rp.size : Int)) w' hS rfl
        · intro d x w' hS hdi hv hp hcl K hK
          have d0 : x 7 = .int .i64 (rp.size : Int) := hv 7 (hp 7 (by kernel_rfl))
          have dg : x 4 = .bool true := hv 4 (hp 4 (by kernel_rfl))
          refine wantY (by unfold oyA; rw [dg]; rfl) ?_
          unfold oyA at hK ⊢
          simp only [d0, dg] at hK ⊢
          go_wp2
          exact hK (.bool (decide ((rp.size : Int) ≤ 4096))) w' hS rfl
        · intro d x w' hS hdi hv hp hcl K hK
          have d0 : x 4 = .bool true := hv 4 (hp 4 (by kernel_rfl))
          have d1 : x 8 = .bool (decide ((rp.size : Int) ≤ 4096)) := hv 8 (hp 8 (by kernel_rfl))
          refine wantY (rfl) ?_
          unfold oyA at hK ⊢
          simp only [d0, d1] at hK ⊢
          go_wp2
          exact hK (.bool (decide ((rp.size : Int) ≤ 4096))) w' hS rfl
        · intro d x w' hS hdi hv hp hcl K hK
          have d0 : x 0 = .agg #[.int .i64 id, .bool bz, .string rp] := hv 0 (hp 0 (by kernel_rfl))
          have hS1 : OsG wq w.heap.size 116 #[.int .i64 0, .bool false, .string ⟨#[]⟩] #[.int .i64 id, .bool bz, .string rp] (d 10) w' := hS
          rw [hdi] at hS1
          obtain ⟨hrun, hS2⟩ := hS1.store (P := Try.prog) (ty := 116) info116 rfl (by simp [Value.oneCell'])
          refine wantY (rfl) ?_
          unfold oyA at hK ⊢
          simp only [d0] at hK ⊢
          refine wp_storev' 116 (.tmp 2) (.tmp 19) rfl rfl rfl hrun ?_
          exact hK undef _ (show OsG wq w.heap.size 116 #[.int .i64 0, .bool false, .string ⟨#[]⟩] #[.int .i64 id, .bool bz, .string rp] true _ from hS2) trivial
        · intro d x w' hS hdi hv hp hcl K hK
          have d0 : x 9 = .bool (decide ((rp.size : Int) ≤ 4096)) := hv 9 (hp 9 (by kernel_rfl))
          refine wantY (rfl) ?_
          unfold oyA at hK ⊢
          simp only [d0] at hK ⊢
          go_wp2
          exact hK (.bool (decide ((rp.size : Int) ≤ 4096))) w' hS rfl
      · intro u hu d x w' hS hd hv
        have hS1 : OsG wq w.heap.size 116 #[.int .i64 0, .bool false, .string ⟨#[]⟩] #[.int .i64 id, .bool bz, .string rp] (d 10) w' := hS
        rw [hd 10 (by decide)] at hS1
        have hO := hS1.o
        rw [if_pos rfl] at hO
        have HOO := hide hO
        have e11 : x 11 = .bool (decide ((rp.size : Int) ≤ 4096)) := hv 11 (by decide)
        have HFIN := hide (show Rdr w' g R.2.2 ∧ Fr (· = g) w w' from ⟨HQR.out.fr hS1.fr (by omega), HQF.out.trans hS1.fr (fun i hi e => by omega)⟩)
        clear hS hS1 hd hv hu hO
        unfold oyA
        simp only [e11]
        go_wp2
        refine bodyPost_ret (res_ct rfl _ _ w.heap.size 116 _ (0, 0) _ rfl HOO.out Try.underlying116 rfl info116) rfl ?_
        have HX := HFIN.out
        refine ⟨?_, HX⟩
        exact HRESY.out
    · have HMAY := hide (fun (W : World) => show Calls Try.prog 55 #[.int .i64 0, .int .i64 id] W fun e w' => e = .returned (.bool false) ∧ W = w' from by have h9 := mayR_any 0 id W; rw [decide_eq_false hmay] at h9; exact h9)
      have h8 := HRESN.out hmay
      have HRESN := hide h8
      clear hmay h8
      refine wp_region_e (onA w.heap.size b4) (fun j => #[19, 20, 21, 22, 23, 24, 25, 26, 27, 28, 0, 3].getD j 0) (fun d x w' => OsG wq w.heap.size 116 #[.int .i64 0, .bool false, .string ⟨#[]⟩] #[.int .i64 id, .bool bz, .string rp] (d 10) w') (fun qi qv => onV b4 id bz rp qi qv) (by kernel_rfl) (by kernel_rfl) rfl (OsG.start HQ2.out) ?_ ?_ ?_
      · exact fun u => ⟨fun x v => rfl, fun x v => rfl, fun x v => rfl, fun x v => rfl, fun x v => rfl, fun x v => rfl, fun x v => rfl, fun x v => rfl, fun x v => rfl, fun x v => rfl, fun x v => rfl, fun x v => rfl, trivial⟩
      · refine fun u => ⟨?_, ?_, ?_, ?_, ?_, ?_, ?_, ?_, ?_, ?_, ?_, ?_, trivial⟩
        · intro d x w' hS hdi hv hp hcl K hK
          have hS1 : OsG wq w.heap.size 116 #[.int .i64 0, .bool false, .string ⟨#[]⟩] #[.int .i64 id, .bool bz, .string rp] (d 10) w' := hS
          have hN := hS1.fr.obj HQ4.out (by omega)
          have z0 := obj_cell hN 0
          have z1 := obj_cell hN 1
          have z2 := obj_cell hN 2
          simp only [List.getElem?_toArray, List.getElem?_cons_zero, List.getElem?_cons_succ] at z0 z1 z2
          refine wantY (rfl) ?_
          unfold onA at hK ⊢
          go_wp2
          exact hK (.agg #[.int .i64 id, .bool bz, .string rp]) w' hS rfl
        · intro d x w' hS hdi hv hp hcl K hK
          refine wantY (rfl) ?_
          unfold onA at hK ⊢
          go_wp2
          exact hK (.pointer (some ⟨b4, 0, none⟩)) w' hS rfl
        · intro d x w' hS hdi hv hp hcl K hK
          have d0 : x 1 = .pointer (some ⟨b4, 0, none⟩) := hv 1 (hp 1 (by kernel_rfl))
          have hS1 : OsG wq w.heap.size 116 #[.int .i64 0, .bool false, .string ⟨#[]⟩] #[.int .i64 id, .bool bz, .string rp] (d 10) w' := hS
          have hN := hS1.fr.obj HQ4.out (by omega)
          have z0 := obj_cell hN 0
          have z1 := obj_cell hN 1
          have z2 := obj_cell hN 2
          simp only [List.getElem?_toArray, List.getElem?_cons_zero, List.getElem?_cons_succ] at z0 z1 z2
          refine wantY (rfl) ?_
          unfold onA at hK ⊢
          simp only [d0] at hK ⊢
          go_wp2
          exact hK (.int .i64 id) w' hS rfl
        · intro d x w' hS hdi hv hp hcl K hK
          have d0 : x 2 = .int .i64 id := hv 2 (hp 2 (by kernel_rfl))
          refine wantY (rfl) ?_
          unfold onA at hK ⊢
          simp only [d0] at hK ⊢
          go_wp2_with fail
          refine (HMAY.out w').mono ?_
          rintro e w3 ⟨rfl, rfl⟩
          exact hK (.bool false) w' hS rfl
        · intro d x w' hS hdi hv hp hcl K hK
          have d0 : x 3 = .bool false := hv 3 (hp 3 (by kernel_rfl))
          refine wantY (rfl) ?_
          unfold onA at hK ⊢
          simp only [d0] at hK ⊢
          go_wp2
          exact hK (.bool false) w' hS rfl
        · intro d x w' hS hdi hv hp hcl K hK
          have dg : x 4 = .bool false := hv 4 (hp 4 (by kernel_rfl))
          exact wantN (by unfold onA; rw [dg]; exact Bool.false_ne_true) (hK undef w' hS trivial)
        · intro d x w' hS hdi hv hp hcl K hK
          have dg : x 4 = .bool false := hv 4 (hp 4 (by kernel_rfl))
          exact wantN (by unfold onA; rw [dg]; exact Bool.false_ne_true) (hK undef w' hS trivial)
        · intro d x w' hS hdi hv hp hcl K hK
          have dg : x 4 = .bool false := hv 4 (hp 4 (by kernel_rfl))
          exact wantN (by unfold onA; rw [dg]; exact Bool.false_ne_true) (hK undef w' hS trivial)
        · intro d x w' hS hdi hv hp hcl K hK
          have dg : x 4 = .bool false := hv 4 (hp 4 (by kernel_rfl))
          exact wantN (by unfold onA; rw [dg]; exact Bool.false_ne_true) (hK undef w' hS trivial)
        · intro d x w' hS hdi hv hp hcl K hK
          have d0 : x 4 = .bool false := hv 4 (hp 4 (by kernel_rfl))
          refine wantY (rfl) ?_
          unfold onA at hK ⊢
          simp only [d0] at hK ⊢
          go_wp2
          exact hK (.bool false) w' hS rfl
        · intro d x w' hS hdi hv hp hcl K hK
          have d0 : x 0 = .agg #[.int .i64 id, .bool bz, .string rp] := hv 0 (hp 0 (by kernel_rfl))
          have hS1 : OsG wq w.heap.size 116 #[.int .i64 0, .bool false, .string ⟨#[]⟩] #[.int .i64 id, .bool bz, .string rp] (d 10) w' := hS
          rw [hdi] at hS1
          obtain ⟨hrun, hS2⟩ := hS1.store (P := Try.prog) (ty := 116) info116 rfl (by simp [Value.oneCell'])
          refine wantY (rfl) ?_
          unfold onA at hK ⊢
          simp only [d0] at hK ⊢
          refine wp_storev' 116 (.tmp 2) (.tmp 19) rfl rfl rfl hrun ?_
          exact hK undef _ (show OsG wq w.heap.size 116 #[.int .i64 0, .bool false, .string ⟨#[]⟩] #[.int .i64 id, .bool bz, .string rp] true _ from hS2) trivial
        · intro d x w' hS hdi hv hp hcl K hK
          have d0 : x 9 = .bool false := hv 9 (hp 9 (by kernel_rfl))
          refine wantY (rfl) ?_
          unfold onA at hK ⊢
          simp only [d0] at hK ⊢
          go_wp2
          exact hK (.bool false) w' hS rfl
      · intro u hu d x w' hS hd hv
        have hS1 : OsG wq w.heap.size 116 #[.int .i64 0, .bool false, .string ⟨#[]⟩] #[.int .i64 id, .bool bz, .string rp] (d 10) w' := hS
        rw [hd 10 (by decide)] at hS1
        have hO := hS1.o
        rw [if_pos rfl] at hO
        have HOO := hide hO
        have e11 : x 11 = .bool false := hv 11 (by decide)
        have HFIN := hide (show Rdr w' g R.2.2 ∧ Fr (· = g) w w' from ⟨HQR.out.fr hS1.fr (by omega), HQF.out.trans hS1.fr (fun i hi e => by omega)⟩)
        clear hS hS1 hd hv hu hO
        unfold onA
        simp only [e11]
        go_wp2
        refine bodyPost_ret (res_ct rfl _ _ w.heap.size 116 _ (0, 0) _ rfl HOO.out Try.underlying116 rfl info116) rfl ?_
        have HX := HFIN.out
        refine ⟨?_, HX⟩
        exact HRESN.out
  have hR := HR.out
  rw [if_neg h1, if_neg h0] at hR
  have z0 := obj_cell q4 0
  have z1 := obj_cell q4 1
  have z2 := obj_cell q4 2
  simp only [List.getElem?_toArray, List.getElem?_cons_zero, List.getElem?_cons_succ] at z0 z1 z2
  have HST := hide (store_whole (P := Try.prog) (ty := 116) q2 (cells := #[.int .i64 id, .bool false, .string ⟨#[]⟩]) info116 rfl (by simp [Value.oneCell']))
  have F2 := setRow_fr' w3 w.heap.size #[.int .i64 id, .bool false, .string ⟨#[]⟩]
  have HOO := hide (setRow_at' (C' := #[.int .i64 id, .bool false, .string ⟨#[]⟩]) q2)
  have HFIN := hide (show Rdr (w3.setRow w.heap.size #[.int .i64 id, .bool false, .string ⟨#[]⟩]) g R.2.2 ∧ Fr (· = g) w (w3.setRow w.heap.size #[.int .i64 id, .bool false, .string ⟨#[]⟩]) from ⟨by rw [hR]; exact hr3.fr F2 (by omega), qf.trans F2 (fun i hi e => by omega)⟩)
  have HRES := hide (show Ending.returned (.tuple #[.agg #[.int .i64 id, .bool false, .string ⟨#[]⟩], .bool false]) = Ending.returned (.tuple #[.agg (eC R.1).toArray, .bool R.2.1]) from by
    rw [hR]
    rfl)
  clear hr3 hf3 q4 q2 qf hR F2 HR HC3
  go_wp2_with (refine wpList_storev' (w' := w3.setRow w.heap.size #[.int .i64 id, .bool false, .string ⟨#[]⟩]) rfl 116 (.tmp 2) (.tmp 10) rfl rfl rfl ?_ ?_; exact HST.out)
  refine bodyPost_ret (res_ct rfl _ _ w.heap.size 116 _ (0, 0) _ rfl HOO.out Try.underlying116 rfl info116) rfl ?_
  have HX := HFIN.out
  refine ⟨?_, HX⟩
  exact HRES.out
end Go.Proofs.Ythcnoamgkkbkcaa
