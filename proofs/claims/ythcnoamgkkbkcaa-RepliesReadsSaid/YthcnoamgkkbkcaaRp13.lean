/- Chapter 15, replies: Read (42). -/
import Derived.Test.YthcnoamgkkbkcaaRp12
namespace Go.Proofs.Ythcnoamgkkbkcaa
open Go.RowKit

theorem RV.base {w : World} {B B' g cm : Nat} {S : RS} {f : Int → Option Value} (h : RV w B g cm S f) (hB : B' ≤ B) : RV w B' g cm S f :=
  ⟨h.o, h.mp, h.no, fun c v e => ⟨(h.yes c v e).1, EK.sg_base (h.yes c v e).2 hB⟩, h.sep, ⟨by have := h.bg.1; omega, by have := h.bg.2; omega⟩⟩
theorem RV.owB {w : World} {B g cm : Nat} {S : RS} {f : Int → Option Value} (h : RV w B g cm S f) {j : Nat} (e : Ow g cm f j) : B ≤ j := by
  rcases e with rfl | rfl | ⟨c, v, h1, h2⟩
  · exact h.bg.1
  · exact h.bg.2
  · exact (EK.sg_typed (h.yes c v h1).2 h2).1
def rRPost (w : World) (o : Option RS) (e : Ending) (w' : World) : Prop :=
  Below w.heap.size w w' ∧ match o with
  | none => e = .returned (.tuple #[.pointer none, .int .i64 3])
  | some S => ∃ g cm f, e = .returned (.tuple #[.pointer (some ⟨g, 0, none⟩), .int .i64 0]) ∧ RV w' w.heap.size g cm S f ∧ ROk S
def rEnd : Option (RS × Option (List UInt8)) → Option RS
  | none => none
  | some p => if rDone p.2 = 0 then some p.1 else none
def RaL (w : World) (g cm gr : Nat) (n : Nat) (o : Option RS) (lv iv : Value) (wr : World) : Prop :=
  ∃ (j : Nat) (σ : Option (List UInt8)) (lst : Int) (S : RS) (f : Int → Option Value), iv = .int .i64 (j : Int) ∧ lv = .int .i64 lst ∧ j ≤ n ∧ rEnd (rdAll (n - j) lst σ S) = o ∧ RV wr w.heap.size g cm S f ∧ ROk S ∧ (∀ c, lst < c → S.L c = []) ∧ -1 ≤ lst ∧ Rdr wr gr σ ∧ Shr σ ∧ Below w.heap.size w wr
theorem rByte_nn (σ : Option (List UInt8)) : 0 ≤ (rByte σ).1 := by
  rcases σ with _ | s
  · exact Int.le_refl _
  · rcases s with _ | ⟨b, s⟩
    · exact Int.le_refl _
    · exact Int.natCast_nonneg _
set_option maxHeartbeats 16000000 in
set_option maxRecDepth 100000 in
theorem rRead_any (s : ByteArray) (w : World) (hs : s.data.toList.length ≤ 16777216) :
    Calls Try.prog 42 #[.string s] w fun e w' => rRPost w (rRead s.data.toList) e w' := by
  obtain ⟨l, hl⟩ : ∃ l, l = s.data.toList := ⟨_, rfl⟩
  have HNR := hide (newReader_any s w)
  rw [← hl] at HNR hs ⊢
  clear hl
  obtain ⟨o, ho⟩ : ∃ o, o = rRead l := ⟨_, rfl⟩
  rw [← ho]
  unfold rRead at ho
  have hs0 : Shr (some l) := fun _ e => by cases e; exact hs
  have hs1 := shr_byte hs0
  have hs2 := shr_int hs1
  have HC2 := hide (fun (W : World) (gr : Nat) (hr : Rdr W gr (some l)) => rByte_any gr (some l) W hr (fun l e => by have := hs0 l e; omega))
  obtain ⟨rm, hrm⟩ : ∃ r, r = (rByte (some l)).1 := ⟨_, rfl⟩
  obtain ⟨σ1, hσ1⟩ : ∃ r, r = (rByte (some l)).2 := ⟨_, rfl⟩
  rw [← hrm, ← hσ1] at ho HC2
  rw [← hσ1] at hs1 hs2
  have HC3 := hide (fun (W : World) (gr : Nat) (hr : Rdr W gr σ1) => rInt_any gr σ1 W hr (fun l e => by have := hs1 l e; omega))
  obtain ⟨N, hN⟩ : ∃ r, r = (rInt σ1).1 := ⟨_, rfl⟩
  obtain ⟨σ2, hσ2⟩ : ∃ r, r = (rInt σ1).2 := ⟨_, rfl⟩
  rw [← hN, ← hσ2] at ho HC3
  rw [← hσ2] at hs2
  have HS2 := hide hs2
  have HO := hide ho
  clear hs hs0 hs1 hs2 ho hrm hσ1 hN hσ2
  go_enter Try.func42, Try.ntmps42
  go_wp2_with fail
  refine HNR.out.mono ?_
  rintro e w1 ⟨rfl, hr1, hb1⟩
  obtain ⟨gr, hgr⟩ : ∃ b, b = w.heap.size := ⟨_, rfl⟩
  rw [← hgr] at hr1 ⊢
  have HGR := hide hgr
  clear hgr
  go_wp2_with fail
  refine (HC2.out w1 gr hr1).mono ?_
  rintro e w2 ⟨rfl, hr2, hf2⟩
  go_wp2_with fail
  refine (HC3.out w2 gr hr2).mono ?_
  rintro e w3 ⟨rfl, hr3, hf3⟩
  have hz1 := hb1.size
  have hz2 := hf2.size
  have hz3 := HGR.out
  have hb3 : Below w.heap.size w w3 := (hb1.trans (hf2.below _ hz1 (fun k hk e => by omega))).trans (hf3.below _ (Nat.le_trans hz1 hz2) (fun k hk e => by omega))
  clear hz1 hz2 hz3
  have HB3 := hide hb3
  have HR3 := hide hr3
  clear hr1 hb1 hr2 hf2 hr3 hf3 hb3 HC2 HC3 HNR
  by_cases hbad : rm < 1 ∨ 16 < rm ∨ N < 0 ∨ 64 < N
  · have HRES := hide (fun (e : Ending) (he : e = .returned (.tuple #[.pointer none, .int .i64 3])) => show rRPost w o e w3 from by
      rw [HO.out, if_pos hbad]
      exact ⟨HB3.out, he⟩)
    by_cases h1 : rm < 1
    · go_wp2
      go_ret2
      exact HRES.out _ rfl
    by_cases h2 : 16 < rm
    · go_wp2
      go_ret2
      exact HRES.out _ rfl
    by_cases h3 : N < 0
    · go_wp2
      go_ret2
      exact HRES.out _ rfl
    have h4 : 64 < N := by omega
    go_wp2
    go_ret2
    exact HRES.out _ rfl
  have h1 : ¬ rm < 1 := by omega
  have h2 : ¬ 16 < rm := by omega
  have h3 : ¬ N < 0 := by omega
  have h4 : ¬ 64 < N := by omega
  obtain ⟨n, rfl⟩ : ∃ n : Nat, N = (n : Int) := ⟨N.toNat, by omega⟩
  have HOS := hide (show rEnd (rdAll n (-1) σ2 ⟨rm, fun _ => []⟩) = o from by
    rw [HO.out, if_neg hbad, Int.toNat_natCast]
    rcases rdAll n (-1) σ2 ⟨rm, fun _ => []⟩ with _ | ⟨p, q⟩ <;> rfl)
  clear HO hbad
  go_wp2_with fail
  refine (newR_any rm w3).mono ?_
  rintro e w4 ⟨g, cm, rfl, hv, hb4⟩
  have hnr : newR rm = ⟨rm, fun _ => []⟩ := by
    unfold newR
    rw [show min (max rm 1) 16 = rm from by omega]
  have hok := newR_ok rm
  rw [hnr] at hv hok
  have HL0 := hide (show RaL w g cm gr n o (.int .i64 (-1)) (.int .i64 0) w4 from ⟨0, σ2, -1, _, _, rfl, rfl, Nat.zero_le _, HOS.out, hv.base HB3.out.size, hok, fun _ _ => rfl, Int.le_refl _, HR3.out.below hb4, HS2.out, HB3.out.trans (hb4.mono HB3.out.size)⟩)
  clear hv hb4 hnr hok HOS HR3 HS2 HB3
  go_wp2_with fail
  go_loopw [8, 33] (fun lv iv wr => RaL w g cm gr n o lv iv wr) (fun _ iv _ => n - (intOf iv).toNat)
  case atStart => exact HL0.out
  case round =>
    obtain ⟨j, σ, lst, S, f, rfl, rfl, hj, hrd, hv, hk, hem, hl1, hr, hs, hb⟩ := hrel
    rcases Nat.lt_or_ge j n with hjn | hjn
    · obtain ⟨m, hm⟩ : ∃ m, n - j = m + 1 := ⟨n - j - 1, by omega⟩
      rw [hm, rdAll] at hrd
      have hjni : (j : Int) < (n : Int) := by omega
      have HC := hide (rByte_any gr σ wr hr (fun l e => by have := hs l e; omega))
      have hsb := shr_byte hs
      have hnn := rByte_nn σ
      obtain ⟨c, hc⟩ : ∃ c, c = (rByte σ).1 := ⟨_, rfl⟩
      obtain ⟨σ', hσ'⟩ : ∃ c, c = (rByte σ).2 := ⟨_, rfl⟩
      rw [← hc, ← hσ'] at HC hrd
      rw [← hσ'] at hsb
      rw [← hc] at hnn
      clear hc hσ'
      go_wp2_with fail
      refine HC.out.mono ?_
      rintro e w5 ⟨rfl, hr5, hf5⟩
      have hv5 := hv.rdr hr hf5
      have hb5 : Below w.heap.size w w5 := hb.trans (hf5.below _ hb.size (fun k hk e => by have := HGR.out; omega))
      by_cases hbad : c ≤ lst ∨ 64 ≤ c
      · rw [if_pos hbad] at hrd
        have HRES := hide (fun (e : Ending) (he : e = .returned (.tuple #[.pointer none, .int .i64 3])) => show rRPost w o e w5 from by
          rw [← hrd]
          exact ⟨hb5, he⟩)
        clear hrd hv hk hem hr hs hb hr5 hf5 hv5 hb5 hsb HC
        by_cases h5 : c ≤ lst
        · clear hbad
          go_wp2
          go_ret2
          exact HRES.out _ rfl
        have h6 : 64 ≤ c := by omega
        clear hbad
        go_wp2
        go_ret2
        exact HRES.out _ rfl
      have h5 : ¬ c ≤ lst := by omega
      have h6 : ¬ 64 ≤ c := by omega
      rw [if_neg hbad] at hrd
      have HC7 := hide (readR_any (c := c) hv5 hk hr5 hsb ⟨hnn, by omega⟩ (hem c (by omega)))
      obtain ⟨o7, ho7⟩ : ∃ o7, o7 = rdC S.room σ' := ⟨_, rfl⟩
      rw [← ho7] at HC7 hrd
      have hgB : w.heap.size ≤ gr := by have := HGR.out; omega
      have HOB := hide (fun j (e : Ow g cm f j ∨ j = gr) => show w.heap.size ≤ j from by
        rcases e with e | e
        · exact hv5.owB e
        · omega)
      have HB5 := hide hb5
      rcases o7 with _ | ⟨l7, σ7⟩
      · simp only at hrd
        have HRES := hide (fun (W : World) (e : Ending) (hW : Below w.heap.size w W) (he : e = .returned (.tuple #[.pointer none, .int .i64 3])) => show rRPost w o e W from by
          rw [← hrd]
          exact ⟨hW, he⟩)
        clear hrd hv hk hem hr hs hb hr5 hf5 hv5 hb5 hsb HC ho7 hbad
        go_wp2_with fail
        refine HC7.out.mono ?_
        rintro e w7 ⟨rfl, S', f', a1, a2, a3, a4⟩
        have HB7 := hide (HB5.out.trans (a3.below _ HB5.out.size (fun k hk e => by have := HOB.out k e; omega)))
        clear a1 a2 a3 a4
        go_wp2
        go_ret2
        exact HRES.out _ _ HB7.out rfl
      · simp only at hrd
        have HRES := hide (fun (W : World) (hg : RG w5 w.heap.size g cm f gr ⟨S.room, setL S.L c l7⟩ W) (hrW : Rdr W gr σ7) (hsW : Shr σ7) => show RaL w g cm gr n o (.int .i64 c) (.int .i64 ((j : Int) + 1)) W from by
          obtain ⟨f', a1, a2, a3, a4⟩ := hg
          exact ⟨j + 1, σ7, c, _, f', rfl, rfl, hjn, by rw [show n - (j + 1) = m from by omega]; exact hrd, a1, a2, fun d hd => by
            show setL S.L c l7 d = []
            rw [setL_other _ _ (by omega)]
            exact hem d (by omega), by omega, hrW, hsW, HB5.out.trans (a3.below _ HB5.out.size (fun k hk e => by have := HOB.out k e; omega))⟩)
        clear hrd hv hk hem hr hs hb hr5 hf5 hv5 hb5 hsb HC ho7 hbad
        go_wp2_with fail
        refine HC7.out.mono ?_
        rintro e w7 ⟨rfl, a1, a2, a3⟩
        have HX := hide (HRES.out w7 a1 a2 a3)
        clear a1 a2 a3
        go_wp2_with fail
        exact ⟨HX.out, by simp only [intOf]; omega⟩
    · have hje : n = j := by omega
      subst hje
      rw [Nat.sub_self, rdAll, rEnd] at hrd
      simp only at hrd
      have HC := hide (rDone_any gr σ wr hr)
      obtain ⟨dn, hdn⟩ : ∃ d, d = rDone σ := ⟨_, rfl⟩
      rw [← hdn] at HC hrd
      have hjn' : ¬ (n : Int) < (n : Int) := by omega
      by_cases h0 : dn = 0
      · subst h0
        rw [if_pos rfl] at hrd
        have HRES := hide (fun (W : World) (e : Ending) (he : e = .returned (.tuple #[.pointer (some ⟨g, 0, none⟩), .int .i64 0])) (hW : Below wr.heap.size wr W) => show rRPost w o e W from by
          rw [← hrd]
          exact ⟨hb.trans (hW.mono hb.size), g, cm, f, he, hv.below hW, hk⟩)
        clear hrd hv hk hem hr hs hb hdn
        go_wp2_with fail
        refine HC.out.mono ?_
        rintro e w7 ⟨rfl, hb7⟩
        have HX := hide (fun (e : Ending) he => HRES.out w7 e he hb7)
        clear hb7
        go_wp2
        go_ret2
        exact HX.out _ rfl
      · rw [if_neg h0] at hrd
        have h0b : (dn != 0) = true := by simpa using h0
        have HRES := hide (fun (W : World) (e : Ending) (he : e = .returned (.tuple #[.pointer none, .int .i64 3])) (hW : Below wr.heap.size wr W) => show rRPost w o e W from by
          rw [← hrd]
          exact ⟨hb.trans (hW.mono hb.size), he⟩)
        clear hrd hv hk hem hr hs hb hdn
        go_wp2_with fail
        refine HC.out.mono ?_
        rintro e w7 ⟨rfl, hb7⟩
        have HX := hide (fun (e : Ending) he => HRES.out w7 e he hb7)
        clear hb7
        go_wp2
        go_ret2
        exact HX.out _ rfl
end Go.Proofs.Ythcnoamgkkbkcaa
