/- Chapter 15, replies: one client's calls read (71). -/
import Derived.Test.YthcnoamgkkbkcaaRp11
namespace Go.Proofs.Ythcnoamgkkbkcaa
open Go.RowKit

def rdpA (g gr n j b9 : Nat) (c eid room : Int) (u x : Nat → Value) : Act := ⟨#[.pointer (some ⟨g, 0, none⟩), .pointer (some ⟨gr, 0, none⟩), .int .i64 c, undef, undef, undef, u 6, .int .i64 (n : Int), .int .i64 eid, .pointer (some ⟨b9, 0, none⟩), .bool true, .pointer (some ⟨gr, 0, none⟩), .int .i64 (n : Int), .int .i64 (n : Int), .bool (decide ((n : Int) < 1)), .bool (decide ((n : Int) < 1)), .int .i64 (n : Int), .pointer (some ⟨g, 0, none⟩), .pointer (some ⟨g, 0, none⟩), .pointer (some ⟨g, 0, none⟩), .int .i64 room, .bool (decide (room < (n : Int))), .bool (decide ((n : Int) < 1) || decide (room < (n : Int))), .int .i64 (n : Int), .int .i64 (j : Int), u 25, u 26, u 27, u 28, u 29, u 30, u 31, u 32, u 33, u 34, u 35, u 36, u 37, u 38, u 39, u 40, x 0, x 1, x 2, x 3, x 4, x 5, x 6, x 7, x 8, x 9, x 10, x 11, x 12, x 13, u 55], []⟩
def rdpV (g _b9 cm : Nat) (c eid : Int) (eb : Bool) (er : ByteArray) (v0 : Value) (qx : Nat) (qw : Value) : Prop :=
  match qx with
  | 0 => qw = .pointer (some ⟨g, 0, none⟩)
  | 1 => qw = .pointer (some ⟨g, 0, none⟩)
  | 2 => qw = .pointer (some ⟨g, 1, none⟩)
  | 3 => qw = .map (some cm)
  | 4 => qw = .int .i64 c
  | 5 => qw = .pointer (some ⟨g, 0, none⟩)
  | 6 => qw = .pointer (some ⟨g, 0, none⟩)
  | 7 => qw = .pointer (some ⟨g, 1, none⟩)
  | 8 => qw = .map (some cm)
  | 9 => qw = .int .i64 c
  | 10 => qw = v0
  | 11 => qw = .agg #[.int .i64 eid, .bool eb, .string er]
  | _ => True
/-- What is left behind, and the reader. -/
def RG (w : World) (B g cm : Nat) (f : Int → Option Value) (gr : Nat) (S' : RS) (w' : World) : Prop :=
  ∃ f', RV w' B g cm S' f' ∧ ROk S' ∧ Fr (fun j => Ow g cm f j ∨ j = gr) w w' ∧ ∀ j, Ow g cm f' j → Ow g cm f j ∨ w.heap.size ≤ j
def rdPost (w : World) (B g cm : Nat) (f : Int → Option Value) (gr : Nat) (S : RS) (c : Int) (o : Option (List En × Option (List UInt8))) (e : Ending) (w' : World) : Prop :=
  match o with
  | none => e = .returned (.bool false) ∧ ∃ S', RG w B g cm f gr S' w'
  | some p => e = .returned (.bool true) ∧ RG w B g cm f gr ⟨S.room, setL S.L c p.1⟩ w' ∧ Rdr w' gr p.2 ∧ Shr p.2
/-- The reader is none of the calls'. -/
theorem RV.noRdr {w : World} {B g cm gr : Nat} {S : RS} {f : Int → Option Value} {σ : Option (List UInt8)} (h : RV w B g cm S f) (hr : Rdr w gr σ) : ¬ Ow g cm f gr := by
  rintro (rfl | rfl | ⟨c, v, h1, h2⟩)
  · have := h.o
    rw [hr] at this
    simp only [Option.some.injEq, Obj.cells.injEq] at this
    exact absurd this.2.1 (by decide)
  · obtain ⟨es, k, h3⟩ := MK.mp_obj h.mp
    rw [hr] at h3
    cases h3
  · exact EK.sg_ne (h.yes c v h1).2 hr (by decide) gr h2 rfl
theorem RV.rdr {w w' : World} {B g cm gr : Nat} {S : RS} {f : Int → Option Value} {σ : Option (List UInt8)} (h : RV w B g cm S f) (hr : Rdr w gr σ) (hf : Fr (· = gr) w w') : RV w' B g cm S f := by
  have hn := h.noRdr hr
  refine ⟨hf.obj h.o (fun e => hn (.inl e.symm)), MK.mp_fr h.mp hf (fun e => hn (.inr (.inl e.symm))), h.no, fun c v e => ⟨(h.yes c v e).1, EK.sg_fr (h.yes c v e).2 hf (fun k e1 e2 => hn (.inr (.inr ⟨c, v, e, by rw [e1, e2]⟩)))⟩, h.sep, h.bg⟩
def RdL (w : World) (B g cm : Nat) (f : Int → Option Value) (gr : Nat) (S : RS) (c : Int) (n : Nat) (o : Option (List En × Option (List UInt8))) (lv iv : Value) (wr : World) : Prop :=
  ∃ (j : Nat) (acc : List En) (σ : Option (List UInt8)) (lst : Int), iv = .int .i64 (j : Int) ∧ lv = .int .i64 lst ∧ j ≤ n ∧ acc.length = j ∧ (∀ x ∈ acc, x.id ≤ lst) ∧ rdEs (n - j) lst σ acc = o ∧ RG w B g cm f gr ⟨S.room, setL S.L c acc⟩ wr ∧ Rdr wr gr σ ∧ Shr σ
theorem setL_id {L : Int → List En} {c : Int} {l : List En} (h : L c = l) : setL L c l = L := by
  funext j
  unfold setL
  split
  · next e => rw [e, h]
  · rfl
theorem setL_twice (L : Int → List En) (c : Int) (a b : List En) : setL (setL L c a) c b = setL L c b := by
  funext j
  unfold setL
  split <;> rfl
set_option maxHeartbeats 16000000 in
set_option maxRecDepth 100000 in
theorem readR_any {w : World} {B g cm gr : Nat} {S : RS} {f : Int → Option Value} {σ : Option (List UInt8)} {c : Int} (h : RV w B g cm S f) (hk : ROk S) (hr : Rdr w gr σ) (hs : Shr σ) (hc : 0 ≤ c ∧ c < 64) (hnil : S.L c = []) :
    Calls Try.prog 71 #[.pointer (some ⟨g, 0, none⟩), .pointer (some ⟨gr, 0, none⟩), .int .i64 c] w fun e w' => rdPost w B g cm f gr S c (rdC S.room σ) e w' := by
  have HC1 := hide (rInt_any gr σ w hr (fun l e => by have := hs l e; omega))
  have hs1 := shr_int hs
  obtain ⟨o, ho⟩ : ∃ o, o = rdC S.room σ := ⟨_, rfl⟩
  rw [← ho]
  unfold rdC at ho
  obtain ⟨N, hN⟩ : ∃ N, N = (rInt σ).1 := ⟨_, rfl⟩
  obtain ⟨σ1, hσ1⟩ : ∃ s, s = (rInt σ).2 := ⟨_, rfl⟩
  rw [← hN, ← hσ1] at ho HC1
  rw [← hσ1] at hs1
  have hroom := hk.room
  have HV := hide h
  have HR := hide hr
  have HS1 := hide hs1
  have HK := hide hk
  have HO := hide ho
  have HNIL := hide hnil
  have HC := hide hc
  clear h hr hs hk hs1 ho hN hσ1 hnil hc
  go_enter Try.func71, Try.ntmps71
  go_wp2_with fail
  refine HC1.out.mono ?_
  rintro e w1 ⟨rfl, hr1, hf1⟩
  have hv1 := HV.out.rdr HR.out hf1
  have HG1 := hide (show RG w B g cm f gr S w1 from ⟨f, hv1, HK.out, hf1.mono (fun j _ e => .inr e), fun j e => .inl e⟩)
  have z0 := obj_cell hv1.o 0
  simp only [List.getElem?_toArray, List.getElem?_cons_zero] at z0
  have HR1 := hide hr1
  clear hr1 hf1 hv1 HC1 HR HV
  by_cases h1 : N < 1
  · have HRES := hide (fun (e : Ending) (he : e = .returned (.bool false)) => show rdPost w B g cm f gr S c o e w1 from by
      rw [HO.out, if_pos (.inl h1)]
      exact ⟨he, S, HG1.out⟩)
    go_wp2
    go_ret
    exact HRES.out _ rfl
  by_cases h2 : S.room < N
  · have HRES := hide (fun (e : Ending) (he : e = .returned (.bool false)) => show rdPost w B g cm f gr S c o e w1 from by
      rw [HO.out, if_pos (.inr h2)]
      exact ⟨he, S, HG1.out⟩)
    go_wp2
    go_ret
    exact HRES.out _ rfl
  obtain ⟨n, rfl⟩ : ∃ n : Nat, N = (n : Int) := ⟨N.toNat, by omega⟩
  have hn16 : n ≤ 16 := by omega
  have HNR := hide (show ((n : Int) ≤ S.room) from by omega)
  have HOS := hide (show rdEs n (-1) σ1 [] = o from by
    rw [HO.out, if_neg (fun hh => hh.elim h1 h2)]
    rfl)
  have HL0 := hide (show RdL w B g cm f gr S c n o (.int .i64 (-1)) (.int .i64 0) w1 from ⟨0, [], σ1, -1, rfl, rfl, Nat.zero_le _, rfl, (fun x hx => by cases hx), HOS.out, by rw [setL_id HNIL.out]; exact HG1.out, HR1.out, HS1.out⟩)
  have hn0 : ¬ (n : Int) < 1 := h1
  have hnr : ¬ S.room < (n : Int) := h2
  clear HO HOS HG1 HR1 HS1 HNIL h1 h2
  go_wp2_with fail
  clear z0
  go_loopw [8, 24] (fun lv iv wr => RdL w B g cm f gr S c n o lv iv wr) (fun _ iv _ => n - (intOf iv).toNat)
  case atStart => exact HL0.out
  case round =>
    obtain ⟨j, acc, σj, lst, rfl, rfl, hj, hacc, hle, hrd, hg, hrr, hss⟩ := hrel
    rcases Nat.lt_or_ge j n with hjn | hjn
    · obtain ⟨m, hm⟩ : ∃ m, n - j = m + 1 := ⟨n - j - 1, by omega⟩
      rw [hm, rdEs] at hrd
      obtain ⟨f', hv, hkk, hfr, how⟩ := hg
      have hjni : (j : Int) < (n : Int) := by omega
      have HC9 := hide (oneR_any hrr hss)
      have hsn := shr_one hss
      have hgood := oneR_good (σ := σj)
      obtain ⟨⟨⟨eid, eb, er⟩, gd, σn⟩, hone⟩ : ∃ r, r = oneR σj := ⟨_, rfl⟩
      rw [← hone] at HC9 hsn hgood hrd
      unfold eC at HC9
      simp only at HC9 hsn hgood hrd
      rcases gd with _ | _
      · rw [if_neg (fun hh => Bool.false_ne_true hh.1)] at hrd
        have HRES := hide (fun (W : World) (e : Ending) (he : e = .returned (.bool false)) (hg : RG w B g cm f gr ⟨S.room, setL S.L c acc⟩ W) => show rdPost w B g cm f gr S c o e W from by
          rw [← hrd]
          exact ⟨he, _, hg⟩)
        have HKK := hide hkk
        have HOW := hide how
        clear hrd hgood hone hsn hkk how hacc hle hss
        go_wp2_with fail
        refine HC9.out.mono ?_
        rintro e w3 ⟨rfl, hrn, hf3⟩
        have hv3 := hv.rdr hrr hf3
        obtain ⟨b9, hb9⟩ : ∃ b, b = w3.heap.size := ⟨_, rfl⟩
        have hal := (Below.refl w3.heap.size w3).alloc (Nat.le_refl _) (.cells #[.int .i64 eid, .bool eb, .string er] 116)
        have ob9 := obj_new w3 (.cells #[.int .i64 eid, .bool eb, .string er] 116)
        rw [← hb9] at ob9
        have hb34 := hal
        have HO9 := hide ob9
        have hv4 := hv3.below hb34
        have hrr4 := hrn.below hb34
        have hfr4 := (hfr.trans hf3 (fun i _ e => .inr e)).then_below hb34
        have z9 := obj_cell HO9.out 0
        simp only [List.getElem?_toArray, List.getElem?_cons_zero] at z9
        have HVQ := hide hv4
        have HRQ := hide hrr4
        have HFQ := hide hfr4
        have HB9 := hide hb9
        clear hv3 hal ob9 hb34 hv4 hrr4 hfr4 hrn hf3 hv hrr hfr HC9
        go_wp2_with fail
        rw [← hb9]
        clear hb9
        generalize w3.alloc (.cells #[.int .i64 eid, .bool eb, .string er] 116) = wq at HO9 HVQ HRQ HFQ z9 ⊢
        go_wp2
        go_ret
        exact HRES.out _ _ rfl ⟨f', HVQ.out, HKK.out, HFQ.out, HOW.out⟩
      rcases Int.lt_or_le lst eid with hlt | hge
      · obtain ⟨hrng, hrp, hbz⟩ := hgood rfl
        rw [if_pos ⟨rfl, hlt⟩] at hrd
        have HKK := hide hkk
        have HOW := hide how
        have HNX := hide (show ∀ W, RG w B g cm f gr ⟨S.room, setL S.L c (acc ++ [⟨eid, eb, er⟩])⟩ W → Rdr W gr σn → RdL w B g cm f gr S c n o (.int .i64 eid) (.int .i64 ((j : Int) + 1)) W from fun W hgW hrW => ⟨j + 1, _, σn, eid, rfl, rfl, hjn, by rw [List.length_append, hacc]; rfl, fun x hx => by
          rcases List.mem_append.1 hx with hx | hx
          · have := hle x hx
            omega
          · rw [List.mem_singleton.1 hx]
            exact Int.le_refl _, by rw [show n - (j + 1) = m from by omega]; exact hrd, hgW, hrW, hsn⟩)
        have HKQ := hide (ROk.app hkk (c := c) (e := ⟨eid, eb, er⟩) HC.out (by
          show ∀ x ∈ setL S.L c acc c, x.id < eid
          rw [setL_same]
          intro x hx
          have := hle x hx
          omega) (by
          show ((setL S.L c acc c).length : Int) < S.room
          rw [setL_same, hacc]
          have := HNR.out
          omega) hrng hrp hbz)
        have HLQ := hide (show (setL S.L c acc c).length ≤ 1048576 from by rw [setL_same]; omega)
        have hge : ¬ eid ≤ lst := by omega
        clear hrd hgood hone hsn hkk how hacc hle hss hrng hrp hbz hlt
        go_wp2_with fail
        refine HC9.out.mono ?_
        rintro e w3 ⟨rfl, hrn, hf3⟩
        have hv3 := hv.rdr hrr hf3
        obtain ⟨b9, hb9⟩ : ∃ b, b = w3.heap.size := ⟨_, rfl⟩
        have hal := (Below.refl w3.heap.size w3).alloc (Nat.le_refl _) (.cells #[.int .i64 eid, .bool eb, .string er] 116)
        have ob9 := obj_new w3 (.cells #[.int .i64 eid, .bool eb, .string er] 116)
        rw [← hb9] at ob9
        have hb34 := hal
        have HO9 := hide ob9
        have hv4 := hv3.below hb34
        have hrr4 := hrn.below hb34
        have hfr4 := (hfr.trans hf3 (fun i _ e => .inr e)).then_below hb34
        have z9 := obj_cell HO9.out 0
        simp only [List.getElem?_toArray, List.getElem?_cons_zero] at z9
        have HVQ := hide hv4
        have HRQ := hide hrr4
        have HFQ := hide hfr4
        have HB9 := hide hb9
        clear hv3 hal ob9 hb34 hv4 hrr4 hfr4 hrn hf3 hv hrr hfr HC9
        go_wp2_with fail
        rw [← hb9]
        clear hb9
        go_wp2_with fail
        generalize w3.alloc (.cells #[.int .i64 eid, .bool eb, .string er] 116) = wq at HO9 HVQ HRQ HFQ z9 ⊢
        clear z9
        obtain ⟨v0, hv0⟩ : ∃ v, v = vOf f' c := ⟨_, rfl⟩
        have HV0 := hide hv0
        clear hv0
        refine wp_region_e (rdpA g gr n j b9 c eid S.room) (fun j => #[41, 42, 43, 44, 45, 46, 47, 48, 49, 50, 51, 52, 53, 54, 0].getD j 0) (fun d x w' => RdS wq B g cm f' ⟨S.room, setL S.L c acc⟩ c ⟨eid, eb, er⟩ (d 12) (d 13) (d 14) (x 12) (x 13) w') (fun qi qv => rdpV g b9 cm c eid eb er v0 qi qv) (by kernel_rfl) (by kernel_rfl) rfl (RdS.start _ _) ?_ ?_ ?_
        · exact fun u => ⟨fun x v => rfl, fun x v => rfl, fun x v => rfl, fun x v => rfl, fun x v => rfl, fun x v => rfl, fun x v => rfl, fun x v => rfl, fun x v => rfl, fun x v => rfl, fun x v => rfl, fun x v => rfl, fun x v => rfl, fun x v => rfl, fun x v => rfl, trivial⟩
        · refine fun u => ⟨?_, ?_, ?_, ?_, ?_, ?_, ?_, ?_, ?_, ?_, ?_, ?_, ?_, ?_, ?_, trivial⟩
          · intro d x w' hS hdi hv hp hcl K hK
            refine wantY (rfl) ?_
            unfold rdpA at hK ⊢
            go_wp2
            exact hK (.pointer (some ⟨g, 0, none⟩)) w' hS rfl
          · intro d x w' hS hdi hv hp hcl K hK
            have d0 : x 0 = .pointer (some ⟨g, 0, none⟩) := hv 0 (hp 0 (by kernel_rfl))
            refine wantY (rfl) ?_
            unfold rdpA at hK ⊢
            simp only [d0] at hK ⊢
            go_wp2
            exact hK (.pointer (some ⟨g, 0, none⟩)) w' hS rfl
          · intro d x w' hS hdi hv hp hcl K hK
            have d0 : x 1 = .pointer (some ⟨g, 0, none⟩) := hv 1 (hp 1 (by kernel_rfl))
            refine wantY (rfl) ?_
            unfold rdpA at hK ⊢
            simp only [d0] at hK ⊢
            go_wp2
            exact hK (.pointer (some ⟨g, 1, none⟩)) w' hS rfl
          · intro d x w' hS hdi hv hp hcl K hK
            have d0 : x 2 = .pointer (some ⟨g, 1, none⟩) := hv 2 (hp 2 (by kernel_rfl))
            have hS1 : RdS wq B g cm f' ⟨S.room, setL S.L c acc⟩ c ⟨eid, eb, er⟩ (d 12) (d 13) (d 14) (x 12) (x 13) w' := hS
            have n14 : ¬ d 14 = true := fun e => by have := hcl 14 3 e (by kernel_rfl); rw [hdi] at this; cases this
            rw [show d 14 = false from by simpa using n14] at hS1
            have z1 := obj_cell (hS1.obj HVQ.out) 1
            simp only [List.getElem?_toArray, List.getElem?_cons_zero, List.getElem?_cons_succ] at z1
            refine wantY (rfl) ?_
            unfold rdpA at hK ⊢
            simp only [d0] at hK ⊢
            go_wp2
            exact hK (.map (some cm)) w' hS rfl
          · intro d x w' hS hdi hv hp hcl K hK
            refine wantY (rfl) ?_
            unfold rdpA at hK ⊢
            go_wp2
            exact hK (.int .i64 c) w' hS rfl
          · intro d x w' hS hdi hv hp hcl K hK
            refine wantY (rfl) ?_
            unfold rdpA at hK ⊢
            go_wp2
            exact hK (.pointer (some ⟨g, 0, none⟩)) w' hS rfl
          · intro d x w' hS hdi hv hp hcl K hK
            have d0 : x 5 = .pointer (some ⟨g, 0, none⟩) := hv 5 (hp 5 (by kernel_rfl))
            refine wantY (rfl) ?_
            unfold rdpA at hK ⊢
            simp only [d0] at hK ⊢
            go_wp2
            exact hK (.pointer (some ⟨g, 0, none⟩)) w' hS rfl
          · intro d x w' hS hdi hv hp hcl K hK
            have d0 : x 6 = .pointer (some ⟨g, 0, none⟩) := hv 6 (hp 6 (by kernel_rfl))
            refine wantY (rfl) ?_
            unfold rdpA at hK ⊢
            simp only [d0] at hK ⊢
            go_wp2
            exact hK (.pointer (some ⟨g, 1, none⟩)) w' hS rfl
          · intro d x w' hS hdi hv hp hcl K hK
            have d0 : x 7 = .pointer (some ⟨g, 1, none⟩) := hv 7 (hp 7 (by kernel_rfl))
            have hS1 : RdS wq B g cm f' ⟨S.room, setL S.L c acc⟩ c ⟨eid, eb, er⟩ (d 12) (d 13) (d 14) (x 12) (x 13) w' := hS
            have n14 : ¬ d 14 = true := fun e => by have := hcl 14 8 e (by kernel_rfl); rw [hdi] at this; cases this
            rw [show d 14 = false from by simpa using n14] at hS1
            have z1 := obj_cell (hS1.obj HVQ.out) 1
            simp only [List.getElem?_toArray, List.getElem?_cons_zero, List.getElem?_cons_succ] at z1
            refine wantY (rfl) ?_
            unfold rdpA at hK ⊢
            simp only [d0] at hK ⊢
            go_wp2
            exact hK (.map (some cm)) w' hS rfl
          · intro d x w' hS hdi hv hp hcl K hK
            refine wantY (rfl) ?_
            unfold rdpA at hK ⊢
            go_wp2
            exact hK (.int .i64 c) w' hS rfl
          · intro d x w' hS hdi hv hp hcl K hK
            have d0 : x 8 = .map (some cm) := hv 8 (hp 8 (by kernel_rfl))
            have d1 : x 9 = .int .i64 c := hv 9 (hp 9 (by kernel_rfl))
            have hS1 : RdS wq B g cm f' ⟨S.room, setL S.L c acc⟩ c ⟨eid, eb, er⟩ (d 12) (d 13) (d 14) (x 12) (x 13) w' := hS
            have n13 : ¬ d 13 = true := fun e => by have := hcl 13 10 e (by kernel_rfl); rw [hdi] at this; cases this
            have n14 : ¬ d 14 = true := fun e => by have := hcl 14 10 e (by kernel_rfl); rw [hdi] at this; cases this
            rw [show d 13 = false from by simpa using n13, show d 14 = false from by simpa using n14] at hS1
            have hlk := RV.look (HVQ.out.below (hS1.lo rfl rfl)) c
            rw [← HV0.out] at hlk
            refine wantY (rfl) ?_
            unfold rdpA at hK ⊢
            simp only [d0, d1] at hK ⊢
            go_wp2
            exact hK (v0) w' hS rfl
          · intro d x w' hS hdi hv hp hcl K hK
            have hS1 : RdS wq B g cm f' ⟨S.room, setL S.L c acc⟩ c ⟨eid, eb, er⟩ (d 12) (d 13) (d 14) (x 12) (x 13) w' := hS
            have n13 : ¬ d 13 = true := fun e => by have := hcl 13 11 e (by kernel_rfl); rw [hdi] at this; cases this
            have n14 : ¬ d 14 = true := fun e => by have := hcl 14 11 e (by kernel_rfl); rw [hdi] at this; cases this
            rw [show d 13 = false from by simpa using n13, show d 14 = false from by simpa using n14] at hS1
            have h9 := obj_below HO9.out (hS1.lo rfl rfl)
            have z0 := obj_cell h9 0
            have z1 := obj_cell h9 1
            have z2 := obj_cell h9 2
            simp only [List.getElem?_toArray, List.getElem?_cons_zero, List.getElem?_cons_succ] at z0 z1 z2
            refine wantY (rfl) ?_
            unfold rdpA at hK ⊢
            go_wp2
            exact hK (.agg #[.int .i64 eid, .bool eb, .string er]) w' hS rfl
          · intro d x w' hS hdi hv hp hcl K hK
            have d0 : x 11 = .agg #[.int .i64 eid, .bool eb, .string er] := hv 11 (hp 11 (by kernel_rfl))
            have hS1 : RdS wq B g cm f' ⟨S.room, setL S.L c acc⟩ c ⟨eid, eb, er⟩ (d 12) (d 13) (d 14) (x 12) (x 13) w' := hS
            have n13 : ¬ d 13 = true := fun e => by have := hcl 13 12 e (by kernel_rfl); rw [hdi] at this; cases this
            have n14 : ¬ d 14 = true := fun e => by have := hcl 14 12 e (by kernel_rfl); rw [hdi] at this; cases this
            have hb0 := hS1.lo (by simpa using n13) (by simpa using n14)
            refine wantY (rfl) ?_
            unfold rdpA at hK ⊢
            simp only [d0] at hK ⊢
            go_wp2
            exact hK _ _ (show RdS wq B g cm f' ⟨S.room, setL S.L c acc⟩ c ⟨eid, eb, er⟩ true (d 13) (d 14) _ (x 13) _ from ⟨fun _ _ => hb0.alloc hb0.size _, fun _ _ _ => EK.rd_one (K := kE) ⟨eid, eb, er⟩ (obj_new w' _), (fun e _ => absurd e n13), (fun e => absurd e n14)⟩) trivial
          · intro d x w' hS hdi hv hp hcl K hK
            have d0 : x 10 = v0 := hv 10 (hp 10 (by kernel_rfl))
            have hS1 : RdS wq B g cm f' ⟨S.room, setL S.L c acc⟩ c ⟨eid, eb, er⟩ (d 12) (d 13) (d 14) (x 12) (x 13) w' := hS
            have y12 : d 12 = true := hp 12 (by kernel_rfl)
            have n14 : ¬ d 14 = true := fun e => by have := hcl 14 13 e (by kernel_rfl); rw [hdi] at this; cases this
            rw [hdi, y12, show d 14 = false from by simpa using n14] at hS1
            obtain ⟨v', w4, hrun, hS2⟩ := hS1.app HVQ.out rfl HLQ.out 117
            rw [← HV0.out] at hrun
            refine wantY (rfl) ?_
            unfold rdpA at hK ⊢
            simp only [d0] at hK ⊢
            exact wp_append_n (.tmp 51) (.tmp 53) 117 117 rfl rfl rfl hrun (hK _ _ (show RdS wq B g cm f' ⟨S.room, setL S.L c acc⟩ c ⟨eid, eb, er⟩ (d 12) true (d 14) (x 12) v' w4 from by rw [y12, show d 14 = false from by simpa using n14]; exact hS2) trivial)
          · intro d x w' hS hdi hv hp hcl K hK
            have d0 : x 3 = .map (some cm) := hv 3 (hp 3 (by kernel_rfl))
            have d1 : x 4 = .int .i64 c := hv 4 (hp 4 (by kernel_rfl))
            have hS1 : RdS wq B g cm f' ⟨S.room, setL S.L c acc⟩ c ⟨eid, eb, er⟩ (d 12) (d 13) (d 14) (x 12) (x 13) w' := hS
            have y13 : d 13 = true := hp 13 (by kernel_rfl)
            rw [hdi, y13] at hS1
            obtain ⟨w4, hrun, hS2⟩ := hS1.keep HVQ.out HKQ.out
            refine wantY (rfl) ?_
            unfold rdpA at hK ⊢
            simp only [d0, d1] at hK ⊢
            exact wp_mapup 106 (.tmp 44) (.tmp 45) (.tmp 54) rfl rfl rfl rfl hrun (hK _ _ (show RdS wq B g cm f' ⟨S.room, setL S.L c acc⟩ c ⟨eid, eb, er⟩ (d 12) (d 13) true (x 12) (x 13) w4 from by rw [y13]; exact hS2) trivial)
        · intro u hu d x w' hS hd hv
          have hS1 : RdS wq B g cm f' ⟨S.room, setL S.L c acc⟩ c ⟨eid, eb, er⟩ (d 12) (d 13) (d 14) (x 12) (x 13) w' := hS
          obtain ⟨f2, a1, a2, a3, a4⟩ := hS1.kept (hd 14 (by decide))
          have e1 : setL (setL S.L c acc) c (setL S.L c acc c ++ [⟨eid, eb, er⟩]) = setL S.L c (acc ++ [⟨eid, eb, er⟩]) := by rw [setL_twice, setL_same]
          simp only at a1 a2
          rw [e1] at a1 a2
          have hsz := HFQ.out.size
          have HRES := hide (HNX.out w' ⟨f2, a1, a2, HFQ.out.trans a3 (fun i hi e => by
            rcases HOW.out i e with e | e
            · exact .inl e
            · omega), fun i e => by
            rcases a4 i e with e | e
            · exact HOW.out i e
            · exact .inr (by omega)⟩ (a3.obj HRQ.out (HVQ.out.noRdr HRQ.out)))
          clear hS hS1 hd hv hu a1 a2 a3 a4 e1 hsz
          unfold rdpA
          go_wp2_with fail
          exact ⟨HRES.out, by simp only [intOf]; omega⟩
      · rw [if_neg (fun hh => by have := hh.2; omega)] at hrd
        have HRES := hide (fun (W : World) (e : Ending) (he : e = .returned (.bool false)) (hg : RG w B g cm f gr ⟨S.room, setL S.L c acc⟩ W) => show rdPost w B g cm f gr S c o e W from by
          rw [← hrd]
          exact ⟨he, _, hg⟩)
        have HKK := hide hkk
        have HOW := hide how
        clear hrd hgood hone hsn hkk how hacc hle hss
        go_wp2_with fail
        refine HC9.out.mono ?_
        rintro e w3 ⟨rfl, hrn, hf3⟩
        have hv3 := hv.rdr hrr hf3
        obtain ⟨b9, hb9⟩ : ∃ b, b = w3.heap.size := ⟨_, rfl⟩
        have hal := (Below.refl w3.heap.size w3).alloc (Nat.le_refl _) (.cells #[.int .i64 eid, .bool eb, .string er] 116)
        have ob9 := obj_new w3 (.cells #[.int .i64 eid, .bool eb, .string er] 116)
        rw [← hb9] at ob9
        have hb34 := hal
        have HO9 := hide ob9
        have hv4 := hv3.below hb34
        have hrr4 := hrn.below hb34
        have hfr4 := (hfr.trans hf3 (fun i _ e => .inr e)).then_below hb34
        have z9 := obj_cell HO9.out 0
        simp only [List.getElem?_toArray, List.getElem?_cons_zero] at z9
        have HVQ := hide hv4
        have HRQ := hide hrr4
        have HFQ := hide hfr4
        have HB9 := hide hb9
        clear hv3 hal ob9 hb34 hv4 hrr4 hfr4 hrn hf3 hv hrr hfr HC9
        go_wp2_with fail
        rw [← hb9]
        clear hb9
        generalize w3.alloc (.cells #[.int .i64 eid, .bool eb, .string er] 116) = wq at HO9 HVQ HRQ HFQ z9 ⊢
        go_wp2
        go_ret
        exact HRES.out _ _ rfl ⟨f', HVQ.out, HKK.out, HFQ.out, HOW.out⟩
    · have hje : n = j := by omega
      subst hje
      have HRES := hide (fun (e : Ending) (he : e = .returned (.bool true)) => show rdPost w B g cm f gr S c o e wr from by
        rw [Nat.sub_self, rdEs] at hrd
        rw [← hrd]
        exact ⟨he, hg, hrr, hss⟩)
      clear hacc hle hrd hg hrr hss hj
      have hjn' : ¬ (n : Int) < (n : Int) := by omega
      go_wp2
      go_ret
      exact HRES.out _ rfl
end Go.Proofs.Ythcnoamgkkbkcaa
