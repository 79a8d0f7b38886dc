/- A join of 2 texts of this claim: Im9, ImM. Conditions: none of their own. -/
import Derived.Test.YtljmaicobafgkaaK15
import Derived.Test.YtljmaicobafgkaaK2
section
/- Chapter 25, imap: Read. -/
namespace Go.Proofs.Ytljmaicobafgkaa
open Go.RowKit

theorem IM.fr {F : Nat → Prop} {w w' : World} {g : Nat} {M : Nat → Spot} (h : IM w g M) (hf : Fr F w w') (hg : ¬ F g) : IM w' g M := by
  obtain ⟨C, hC, r⟩ := h
  exact ⟨C, hf.obj hC hg, r⟩
/-- What Read gives. -/
def RdPost (l : List UInt8) (w : World) (e : Ending) (w' : World) : Prop :=
  match rdOut l with
  | none => e = .returned (.tuple #[.pointer none, .int .i64 3])
  | some M => ∃ g, e = .returned (.tuple #[.pointer (some ⟨g, 0, none⟩), .int .i64 0]) ∧ IM w' g M ∧ w.heap.size ≤ g
def RdS (w0 : World) (gr gm N : Nat) (R : Option (Option (List UInt8) × (Nat → Spot))) (w : World) (lastV iV : Value) : Prop :=
  ∃ (k : Nat) (σ : Option (List UInt8)) (last : Int) (M : Nat → Spot), iV = .int .i64 k ∧ lastV = .int .i64 last ∧ k ≤ N ∧ Rdr w gr σ ∧ IM w gm M ∧ rdGo (N - k) σ last M = R ∧ (∀ l, σ = some l → l.length ≤ 1073741824) ∧ Below w0.heap.size w0 w
theorem rdOut_range {l : List UInt8} (h : (rInt (some l)).1 < 0 ∨ 256 ≤ (rInt (some l)).1) : rdOut l = none := if_pos h
theorem rdOut_in {l : List UInt8} (h : ¬ ((rInt (some l)).1 < 0 ∨ 256 ≤ (rInt (some l)).1)) (R : Option (Option (List UInt8) × (Nat → Spot))) (hR : rdGo (rInt (some l)).1.toNat (rInt (some l)).2 0 (fun _ => noSpot) = R) :
    rdOut l = rdEnd R := by
  unfold rdOut
  rw [if_neg h, hR]
theorem RdPost.no {l : List UInt8} {w w' : World} {e : Ending} (h : rdOut l = none) (he : e = .returned (.tuple #[.pointer none, .int .i64 3])) : RdPost l w e w' := by
  unfold RdPost
  rw [h]
  exact he
theorem RdPost.yes {l : List UInt8} {w w' : World} {e : Ending} {M : Nat → Spot} {g : Nat} (h : rdOut l = some M) (he : e = .returned (.tuple #[.pointer (some ⟨g, 0, none⟩), .int .i64 0])) (hI : IM w' g M) (hg : w.heap.size ≤ g) : RdPost l w e w' := by
  unfold RdPost
  rw [h]
  exact ⟨g, he, hI, hg⟩
set_option maxHeartbeats 8000000 in
set_option maxRecDepth 1000000 in
theorem read25_any (s : ByteArray) (w : World) (hs : s.size ≤ 1073741824) : Calls Try.prog 42 #[.string s] w fun e w' => RdPost s.data.toList w e w' ∧ Below w.heap.size w w' := by
  obtain ⟨l, hl⟩ : ∃ l, l = s.data.toList := ⟨_, rfl⟩
  have hll : l.length ≤ 1073741824 := by rw [hl, ← size_list]; exact hs
  rw [← hl]
  go_enter Try.func42, Try.ntmps42
  go_wp2_with fail
  refine (newReader_any s _).mono ?_
  rintro e w1 ⟨rfl, hr1, hb1⟩
  rw [← hl] at hr1
  have HR1 := hide hr1
  have HB1 := hide hb1
  clear hr1 hb1 hl
  go_wp2_with fail
  refine (new25_any _).mono ?_
  rintro e w2 ⟨rfl, hm2, hb2⟩
  obtain ⟨gr, hgr⟩ : ∃ gr, gr = w.heap.size := ⟨_, rfl⟩
  obtain ⟨gm, hgm⟩ : ∃ gm, gm = w1.heap.size := ⟨_, rfl⟩
  have hlt : gr < gm := by rw [hgr, hgm]; exact HR1.out.lt
  have hr2 := HR1.out.below hb2
  have HB2 := hide (HB1.out.trans (hb2.mono HB1.out.size))
  rw [← hgr] at hr2 ⊢
  rw [← hgm] at hm2 ⊢
  have HM2 := hide hm2
  have HGR := hide hgr
  clear hm2 hb2 hgm HR1 HB1 hgr
  have hne : ¬ gm = gr := by omega
  go_wp2_with fail
  refine (rInt_any gr (some l) _ hr2 (fun l' e => by cases e; exact hll)).mono ?_
  rintro e w3 ⟨rfl, hr3, hf3⟩
  have hlen3 : ∀ r, (rInt (some l)).2 = some r → r.length ≤ 1073741824 := fun r h => rInt_len h (N := 1073741824) (fun l' e => by cases e; exact hll)
  have HM3 := hide (HM2.out.fr hf3 hne)
  have HB3 := hide (HB2.out.trans (hf3.below _ HB2.out.size (fun k hk e => by have := HGR.out; omega)))
  have HR3 := hide hr3
  clear hf3 hr3 hr2 HM2 HB2
  by_cases hn : (rInt (some l)).1 < 0 ∨ 256 ≤ (rInt (some l)).1
  · have HO := hide (rdOut_range hn)
    generalize (rInt (some l)).1 = n at hn ⊢
    rcases hn with hn | hn
    · go_wp2
      go_ret2
      exact ⟨RdPost.no HO.out rfl, HB3.out⟩
    · have hn0 : ¬ n < 0 := by omega
      go_wp2
      go_ret2
      exact ⟨RdPost.no HO.out rfl, HB3.out⟩
  · obtain ⟨R, hR⟩ : ∃ R, rdGo (rInt (some l)).1.toNat (rInt (some l)).2 0 (fun _ => noSpot) = R := ⟨_, rfl⟩
    have HO := hide (rdOut_in hn R hR)
    generalize (rInt (some l)).1 = n at hn hR ⊢
    generalize (rInt (some l)).2 = σ0 at hR HR3 hlen3
    obtain ⟨N, rfl⟩ : ∃ N : Nat, n = N := ⟨n.toNat, by omega⟩
    rw [Int.toNat_natCast] at hR
    have hn0 : ¬ (N : Int) < 0 := by omega
    have hn1 : (N : Int) < 256 := by omega
    have HST : Hid (RdS w gr gm N R w3 (.int .i64 0) (.int .i64 0)) := hide ⟨0, σ0, 0, _, rfl, rfl, Nat.zero_le _, HR3.out, HM3.out, hR, hlen3, HB3.out⟩
    clear hn hR hlen3 HM3 HB3 HR3
    go_wp2_with fail
    go_loopw [7, 22] (fun lv iv wr => RdS w gr gm N R wr lv iv) (fun _ iv _ => N - (intOf iv).toNat)
    case atStart => exact HST.out
    case round =>
      obtain ⟨k, σ, last, M, rfl, rfl, hk, hr, hM, hgo, hlen, hb⟩ := hrel
      have HB := hide hb
      rcases Nat.lt_or_ge k N with hkN | hkN
      · obtain ⟨m, hm⟩ : ∃ m, N - k = m + 1 := ⟨N - k - 1, by omega⟩
        rw [hm, rdGo] at hgo
        have HGO := hide hgo
        have HMM := hide hM
        have HL := hide hlen
        clear hgo hM hlen hb
        go_wp2_with fail
        refine (rInt_any gr σ _ hr HL.out).mono ?_
        rintro e v0 ⟨rfl, hr0, hf0⟩
        have HM0x := hide (IM.fr HMM.out hf0 hne)
        have HB0x := hide (HB.out.trans (hf0.below _ HB.out.size (fun k hk e => by have := HGR.out; omega)))
        have HL0x : Hid (∀ r, (rInt σ).2 = some r → r.length ≤ 1073741824) := hide (fun r h => rInt_len h (N := 1073741824) HL.out)
        clear hf0
        go_wp2_with fail
        refine (rInt_any gr (rInt σ).2 _ hr0 HL0x.out).mono ?_
        rintro e v1 ⟨rfl, hr1, hf1⟩
        have HM1x := hide (IM.fr HM0x.out hf1 hne)
        have HB1x := hide (HB0x.out.trans (hf1.below _ HB0x.out.size (fun k hk e => by have := HGR.out; omega)))
        have HL1x : Hid (∀ r, (rInt (rInt σ).2).2 = some r → r.length ≤ 1073741824) := hide (fun r h => rInt_len h (N := 1073741824) HL0x.out)
        clear hf1
        go_wp2_with fail
        refine (rInt_any gr (rInt (rInt σ).2).2 _ hr1 HL1x.out).mono ?_
        rintro e v2 ⟨rfl, hr2, hf2⟩
        have HM2x := hide (IM.fr HM1x.out hf2 hne)
        have HB2x := hide (HB1x.out.trans (hf2.below _ HB1x.out.size (fun k hk e => by have := HGR.out; omega)))
        have HL2x : Hid (∀ r, (rInt (rInt (rInt σ).2).2).2 = some r → r.length ≤ 1073741824) := hide (fun r h => rInt_len h (N := 1073741824) HL1x.out)
        clear hf2
        go_wp2_with fail
        refine (rInt_any gr (rInt (rInt (rInt σ).2).2).2 _ hr2 HL2x.out).mono ?_
        rintro e v3 ⟨rfl, hr3, hf3⟩
        have HM3x := hide (IM.fr HM2x.out hf3 hne)
        have HB3x := hide (HB2x.out.trans (hf3.below _ HB2x.out.size (fun k hk e => by have := HGR.out; omega)))
        have HL3x : Hid (∀ r, (rInt (rInt (rInt (rInt σ).2).2).2).2 = some r → r.length ≤ 1073741824) := hide (fun r h => rInt_len h (N := 1073741824) HL2x.out)
        clear hf3
        go_wp2_with fail
        refine (rInt_any gr (rInt (rInt (rInt (rInt σ).2).2).2).2 _ hr3 HL3x.out).mono ?_
        rintro e v4 ⟨rfl, hr4, hf4⟩
        have HM4x := hide (IM.fr HM3x.out hf4 hne)
        have HB4x := hide (HB3x.out.trans (hf4.below _ HB3x.out.size (fun k hk e => by have := HGR.out; omega)))
        have HL4x : Hid (∀ r, (rInt (rInt (rInt (rInt (rInt σ).2).2).2).2).2 = some r → r.length ≤ 1073741824) := hide (fun r h => rInt_len h (N := 1073741824) HL3x.out)
        clear hf4
        obtain ⟨i, hi⟩ : ∃ i, i = (entRd σ).1.1 := ⟨_, rfl⟩
        obtain ⟨x, hx⟩ : ∃ x, x = (entRd σ).1.2 := ⟨_, rfl⟩
        obtain ⟨τ, hτ⟩ : ∃ τ, τ = (entRd σ).2 := ⟨_, rfl⟩
        rw [show (rInt (rInt (rInt (rInt (rInt σ).2).2).2).2).2 = τ from hτ.symm] at hr4 HL4x
        rw [show (rInt σ).1 = i from hi.symm, show (rInt (rInt σ).2).1 = x.seg from by rw [hx]; rfl, show (rInt (rInt (rInt σ).2).2).1 = x.frm from by rw [hx]; rfl, show (rInt (rInt (rInt (rInt σ).2).2).2).1 = x.len from by rw [hx]; rfl, show (rInt (rInt (rInt (rInt (rInt σ).2).2).2).2).1 = x.ver from by rw [hx]; rfl]
        have hgo := HGO.out
        rw [← hτ, show (entRd σ).1 = (i, x) from by rw [hi, hx]] at hgo
        have HGO2 := hide hgo
        have hb5 : Below w.heap.size w (v4.alloc (.cells #[.int .i64 x.seg, .int .i64 x.frm, .int .i64 x.len, .int .i64 x.ver] 27)) := HB4x.out.alloc HB4x.out.size _
        have HX5 := hide (obj_new v4 (.cells #[.int .i64 x.seg, .int .i64 x.frm, .int .i64 x.len, .int .i64 x.ver] 27))
        have HR5 : Hid (Rdr (v4.alloc (.cells #[.int .i64 x.seg, .int .i64 x.frm, .int .i64 x.len, .int .i64 x.ver] 27)) gr τ) := hide (hr4.below ((Below.refl _ _).alloc (Nat.le_refl _) _))
        have HM5 := hide (HM4x.out.below ((Below.refl _ _).alloc (Nat.le_refl _) (.cells #[.int .i64 x.seg, .int .i64 x.frm, .int .i64 x.len, .int .i64 x.ver] 27)))
        have HB5 := hide hb5
        clear hgo hi hx hτ hr hr0 hr1 hr2 hr3 hr4 HGO hb5 HM0x HM1x HM2x HM3x HM4x HB0x HB1x HB2x HB3x HB4x HL0x HL1x HL2x HL3x
        go_wp2_with fail
        refine (may_any _ _).mono ?_
        rintro e wm ⟨rfl, rfl⟩
        by_cases h0 : mayI i
        · rw [decide_eq_true h0]
          by_cases h1 : i ≤ last
          · have HNO : Hid (rdOut l = none) := hide (by
              have h := HO.out
              rw [← HGO2.out, if_neg (by unfold entOk; exact fun h => absurd h.2.1 (by simp only; omega))] at h
              exact h)
            go_wp2
            go_ret2
            exact ⟨RdPost.no HNO.out rfl, HB5.out⟩
          · have h1' : ¬ i ≤ last := h1
            go_wp2_with fail
            refine (spot_any x _).mono ?_
            rintro e w6 ⟨rfl, hb6⟩
            have HB6 := hide (HB5.out.trans (hb6.mono HB5.out.size))
            have hx6 := obj_below HX5.out hb6
            have x0 := obj_cell hx6 0
            have x1 := obj_cell hx6 1
            have x2 := obj_cell hx6 2
            have x3 := obj_cell hx6 3
            simp only [List.getElem?_toArray, List.getElem?_cons_zero, List.getElem?_cons_succ] at x0 x1 x2 x3
            have HR6 := hide (HR5.out.below hb6)
            have HM6 := hide (HM5.out.below hb6)
            clear hb6 hx6 HR5 HM5 HX5
            by_cases h2 : x.ok
            · rw [decide_eq_true h2]
              by_cases h3 : x.ver < 1
              · have HNO : Hid (rdOut l = none) := hide (by
                  have h := HO.out
                  rw [← HGO2.out, if_neg (by unfold entOk; exact fun h => absurd h.2.2.2.1 (by simp only; omega))] at h
                  exact h)
                go_wp2
                go_ret2
                exact ⟨RdPost.no HNO.out rfl, HB6.out⟩
              · by_cases h4 : 2147483648 ≤ x.ver
                · have HNO : Hid (rdOut l = none) := hide (by
                    have h := HO.out
                    rw [← HGO2.out, if_neg (by unfold entOk; exact fun h => absurd h.2.2.2.2 (by simp only; omega))] at h
                    exact h)
                  go_wp2
                  go_ret2
                  exact ⟨RdPost.no HNO.out rfl, HB6.out⟩
                · have hgo := HGO2.out
                  rw [if_pos ⟨h0, by simp only; omega, h2, by simp only; omega, by simp only; omega⟩] at hgo
                  obtain ⟨j, rfl⟩ : ∃ j : Nat, i = j := ⟨i.toNat, by have := h0.1; omega⟩
                  have hj : j < 256 := by have := h0.2; omega
                  rw [Int.toNat_natCast] at hgo
                  have HGO3 := hide hgo
                  clear hgo h0
                  go_wp2_with fail
                  refine wp_stl 5 (by kernel_rfl) (by kernel_rfl) ?_
                  simp only [List.take_succ_cons, List.take_zero, List.drop_succ_cons, List.drop_zero]
                  repeat still_step
                  refine wpStill_nil ?_
                  go_wp2_with (refine wpList_spot rfl (.tmp 64) (.tmp 61) rfl (show IM w6.drew gm M from HM6.out) hj x rfl rfl ?_; intro w7 hI7 hf7; have HI7 := hide hI7; have HF7 := hide hf7; clear hI7 hf7)
                  have HST2 : Hid (RdS w gr gm N R w7 (.int .i64 (j : Int)) (.int .i64 ((k + 1 : Nat) : Int))) := hide ⟨k + 1, τ, j, upd M j x, rfl, rfl, hkN, HR6.out.drew.fr HF7.out (by omega), HI7.out, by rw [show N - (k + 1) = m from by omega]; exact HGO3.out, HL4x.out, HB6.out.drew.trans (HF7.out.below _ HB6.out.size (fun q hq e => by have := HGR.out; omega))⟩
                  go_wp2
                  go_roundw
                  case rel => exact HST2.out
                  case measure => simp [intOf]; omega
            · rw [decide_eq_false h2]
              have HNO : Hid (rdOut l = none) := hide (by
                have h := HO.out
                rw [← HGO2.out, if_neg (by unfold entOk; exact fun h => absurd h.2.2.1 h2)] at h
                exact h)
              go_wp2
              go_ret2
              exact ⟨RdPost.no HNO.out rfl, HB6.out⟩
        · rw [decide_eq_false h0]
          have HNO : Hid (rdOut l = none) := hide (by
            have h := HO.out
            rw [← HGO2.out, if_neg (by unfold entOk; exact fun h => absurd h.1 h0)] at h
            exact h)
          go_wp2
          go_ret2
          exact ⟨RdPost.no HNO.out rfl, HB5.out⟩
      · obtain rfl : k = N := by omega
        rw [Nat.sub_self, rdGo] at hgo
        subst hgo
        have HM := hide hM
        clear hM hb hlen
        go_wp2_with fail
        refine (rDone_any gr σ _ hr).mono ?_
        rintro e w5 ⟨rfl, hb5⟩
        have HB5 := hide (HB.out.trans (hb5.mono HB.out.size))
        have HM5 := hide (HM.out.below hb5)
        by_cases h0 : rDone σ = 0
        · have HY : Hid (rdOut l = some M) := hide (by have h := HO.out; rw [rdEnd, if_pos h0] at h; exact h)
          rw [h0]
          clear h0 hb5 hr
          go_wp2
          go_ret2
          exact ⟨RdPost.yes HY.out rfl HM5.out (by have := HGR.out; omega), HB5.out⟩
        · have HY : Hid (rdOut l = none) := hide (by have h := HO.out; rw [rdEnd, if_neg h0] at h; exact h)
          have h0' : (rDone σ == 0) = false := by simp [h0]
          clear h0 hb5 hr
          generalize rDone σ = dn at h0' ⊢
          go_wp2
          go_ret2
          exact ⟨RdPost.no HY.out rfl, HB5.out⟩
end Go.Proofs.Ytljmaicobafgkaa
end
section
/- Chapter 25, imap: bytes and maps, there and back; plain. -/
namespace Go.Proofs.Ytljmaicobafgkaa
open Go.RowKit

def entR (M : Nat → Spot) (j n : Nat) : List (Nat × Spot) := ((List.range' j n).map fun i => (i, M i)).filter fun p => decide (0 < p.2.ver)
theorem entR_zero (M : Nat → Spot) (j : Nat) : entR M j 0 = [] := rfl
theorem entR_hit (M : Nat → Spot) {j n : Nat} (h : 0 < (M j).ver) : entR M j (n + 1) = (j, M j) :: entR M (j + 1) n := by
  unfold entR
  rw [List.range'_succ, List.map_cons, List.filter_cons]
  simp [h]
theorem entR_miss (M : Nat → Spot) {j n : Nat} (h : ¬ 0 < (M j).ver) : entR M j (n + 1) = entR M (j + 1) n := by
  unfold entR
  rw [List.range'_succ, List.map_cons, List.filter_cons]
  simp [h]
theorem entUp_R (M : Nat → Spot) (k : Nat) : entUp M k = entR M 0 k := by
  unfold entUp entR
  rw [List.range_eq_range']
/-- Inodes in order, each within its bounds. -/
def Asc : Int → List (Nat × Spot) → Prop
  | _, [] => True
  | last, p :: l => last < p.1 ∧ 1 ≤ p.1 ∧ p.1 < 256 ∧ p.2.ok ∧ 1 ≤ p.2.ver ∧ p.2.ver < 2147483648 ∧ Asc p.1 l
def putAll (M : Nat → Spot) (l : List (Nat × Spot)) : Nat → Spot := l.foldl (fun M p => upd M p.1 p.2) M
theorem rdGo_asc : ∀ (l : List (Nat × Spot)) (last : Int) (M : Nat → Spot) (r : List UInt8), Asc last l → rdGo l.length (some (bodyB l ++ r)) last M = some (some r, putAll M l)
  | [], last, M, r, _ => rfl
  | p :: l, last, M, r, h => by
    obtain ⟨a, b, c, d, e, f, g⟩ := h
    have hb : bodyB (p :: l) ++ r = entB25 p ++ (bodyB l ++ r) := by simp [bodyB]
    rw [hb, List.length_cons, rdGo, entRd_ent p _ c d (by omega) (by omega)]
    rw [if_pos ⟨⟨by simp only; omega, by simp only; omega⟩, a, d, e, f⟩]
    simp only [Int.toNat_natCast]
    exact rdGo_asc l p.1 _ r g
theorem entR_asc {M : Nat → Spot} (hm : Mok M) (hv : ∀ i, i < 256 → (M i).ver < 2147483648) : ∀ (n j : Nat) (last : Int), 1 ≤ j → last < j → j + n ≤ 256 → Asc last (entR M j n)
  | 0, j, last, _, _, _ => trivial
  | n + 1, j, last, h1, hl, hn => by
    by_cases h : 0 < (M j).ver
    · rw [entR_hit M h]
      have h2 := hm.2 j (by omega)
      exact ⟨hl, h1, by show j < 256; omega, h2.2.2, by show 1 ≤ (M j).ver; omega, hv j (by omega), entR_asc hm hv n (j + 1) j (by omega) (by omega) (by omega)⟩
    · rw [entR_miss M h]
      exact entR_asc hm hv n (j + 1) last (by omega) (by omega) (by omega)
theorem putAll_entR (M : Nat → Spot) : ∀ (n j : Nat) (M0 : Nat → Spot) (i : Nat), putAll M0 (entR M j n) i = if j ≤ i ∧ i < j + n ∧ 0 < (M i).ver then M i else M0 i
  | 0, j, M0, i => by
    rw [if_neg (by omega)]
    rfl
  | n + 1, j, M0, i => by
    by_cases h : 0 < (M j).ver
    · rw [entR_hit M h]
      show putAll (upd M0 j (M j)) (entR M (j + 1) n) i = _
      rw [putAll_entR M n (j + 1) _ i]
      by_cases e : i = j
      · subst e
        rw [if_neg (by omega), upd_same, if_pos ⟨by omega, by omega, h⟩]
      · rw [upd_other _ _ e]
        by_cases c : j + 1 ≤ i ∧ i < j + 1 + n ∧ 0 < (M i).ver
        · rw [if_pos c, if_pos ⟨by omega, by omega, c.2.2⟩]
        · rw [if_neg c, if_neg (by omega)]
    · rw [entR_miss M h, putAll_entR M n (j + 1) _ i]
      by_cases c : j + 1 ≤ i ∧ i < j + 1 + n ∧ 0 < (M i).ver
      · rw [if_pos c, if_pos ⟨by omega, by omega, c.2.2⟩]
      · rw [if_neg c, if_neg (fun h' => by
          rcases Nat.lt_or_ge i (j + 1) with h1 | h1
          · obtain rfl : i = j := by omega
            exact h h'.2.2
          · exact c ⟨h1, by omega, h'.2.2⟩)]
theorem entUp_one {M : Nat → Spot} (hm : Mok M) : entUp M 256 = entR M 1 255 := by
  rw [entUp_R, entR_miss M (by rw [hm.1]; decide)]
theorem entR_len (M : Nat → Spot) (j n : Nat) : (entR M j n).length ≤ n := by
  unfold entR
  refine Nat.le_trans (List.length_filter_le _ _) ?_
  simp
/-- A map's bytes are that map. -/
theorem rd_text {M : Nat → Spot} (hm : Mok M) (hv : ∀ i, i < 256 → (M i).ver < 2147483648) :
    ∃ M', rdOut (textB25 M) = some M' ∧ Mok M' ∧ (∀ i, i < 256 → M' i = if 0 < (M i).ver then M i else noSpot) ∧ (∀ i, i < 256 → (M' i).ver = (M i).ver) := by
  have hA := entR_asc hm hv 255 1 0 (by omega) (by omega) (by omega)
  have hl := entR_len M 1 255
  have hg := rdGo_asc (entR M 1 255) 0 (fun _ => noSpot) [] hA
  have hp : ∀ i, i < 256 → putAll (fun _ => noSpot) (entR M 1 255) i = if 0 < (M i).ver then M i else noSpot := fun i hi => by
    rw [putAll_entR]
    by_cases h : 0 < (M i).ver
    · rw [if_pos h, if_pos ⟨by
        rcases Nat.eq_zero_or_pos i with rfl | h0
        · rw [hm.1] at h; omega
        · exact h0, by omega, h⟩]
    · rw [if_neg h, if_neg (fun h' => h h'.2.2)]
  have hve : ∀ i, i < 256 → (putAll (fun _ => noSpot) (entR M 1 255) i).ver = (M i).ver := fun i hi => by
    rw [hp i hi]
    split
    · rfl
    · have := (hm.2 i hi).1
      show (0 : Int) = _
      omega
  refine ⟨putAll (fun _ => noSpot) (entR M 1 255), ?_, ⟨?_, fun i hi => ?_⟩, hp, hve⟩
  · have hr : rInt (some (textB25 M)) = (((entR M 1 255).length : Int), some (bodyB (entR M 1 255))) := by
      unfold textB25
      rw [entUp_one hm, rInt_num _ _ (by omega) (by omega)]
    unfold rdOut
    rw [hr]
    simp only
    rw [if_neg (by omega), Int.toNat_natCast]
    rw [List.append_nil] at hg
    rw [hg]
    rfl
  · rw [hve 0 (by omega)]
    exact hm.1
  · rw [hve i hi, hp i hi]
    refine ⟨(hm.2 i hi).1, (hm.2 i hi).2.1, ?_⟩
    split
    · exact (hm.2 i hi).2.2
    · decide
theorem rdGo_inv : ∀ (n : Nat) (l : List UInt8) (last : Int) (M0 : Nat → Spot) (r : List UInt8) (M : Nat → Spot), 0 ≤ last → rdGo n (some l) last M0 = some (some r, M) →
    ∃ lst : List (Nat × Spot), lst.length = n ∧ l = bodyB lst ++ r ∧ Asc last lst ∧ M = putAll M0 lst
  | 0, l, last, M0, r, M, _, h => by
    simp only [rdGo, Option.some.injEq, Prod.mk.injEq] at h
    exact ⟨[], rfl, by rw [h.1]; rfl, trivial, h.2.symm⟩
  | n + 1, l, last, M0, r, M, hl, h => by
    rw [rdGo] at h
    split at h
    · rename_i hok
      rcases e : (entRd (some l)).2 with _ | l'
      · have := entRd_bad e
        have := hok.2.2.2.1
        omega
      · have hi := entRd_inv e
        obtain ⟨⟨i0, i1⟩, h1, h2, h3, h4⟩ := hok
        rw [e] at h
        obtain ⟨lst, e1, e2, e3, e4⟩ := rdGo_inv n l' _ _ r M (by omega) h
        obtain ⟨q, hq⟩ : ∃ q : Nat × Spot, q = ((entRd (some l)).1.1.toNat, (entRd (some l)).1.2) := ⟨_, rfl⟩
        have hq1 : (q.1 : Int) = (entRd (some l)).1.1 := by rw [hq]; simp only; omega
        have hq2 : q.2 = (entRd (some l)).1.2 := by rw [hq]
        refine ⟨q :: lst, by rw [List.length_cons, e1], ?_, ⟨by omega, by omega, by omega, by rw [hq2]; exact h2, by rw [hq2]; exact h3, by rw [hq2]; exact h4, by rw [hq1]; exact e3⟩, ?_⟩
        · rw [show bodyB (q :: lst) = entB25 q ++ bodyB lst from by simp [bodyB], List.append_assoc, ← e2]
          unfold entB25
          rw [hq1, hq2]
          exact hi
        · rw [e4, hq]
          rfl
    · cases h
theorem rdGo_none : ∀ (n : Nat) (last : Int) (M0 : Nat → Spot), rdGo n none last M0 = if n = 0 then some (none, M0) else none
  | 0, _, _ => rfl
  | n + 1, last, M0 => by
    rw [rdGo, if_neg (by
      intro h
      have := h.2.2.2.1
      rw [entRd_none] at this
      simp at this), if_neg (by omega)]
/-- What a list of inodes says of a map. -/
def Tells (lst : List (Nat × Spot)) (M : Nat → Spot) (j n : Nat) : Prop :=
  ∀ i, j ≤ i → i < j + n → (∃ p ∈ lst, p.1 = i ∧ M i = p.2) ∨ ((∀ p ∈ lst, p.1 ≠ i) ∧ (M i).ver = 0)
theorem Asc.mem {last : Int} : ∀ {l : List (Nat × Spot)}, Asc last l → ∀ p ∈ l, last < p.1 ∧ 1 ≤ p.1 ∧ p.1 < 256 ∧ p.2.ok ∧ 1 ≤ p.2.ver ∧ p.2.ver < 2147483648
  | q :: l, h, p, hp => by
    obtain ⟨a, b, c, d, e, f, g⟩ := h
    rcases List.mem_cons.1 hp with rfl | hp
    · exact ⟨a, b, c, d, e, f⟩
    · have := Asc.mem g p hp
      exact ⟨by omega, this.2⟩
theorem Asc.more {last last' : Int} {l : List (Nat × Spot)} (h : Asc last l) (hl : ∀ p ∈ l, last' < p.1) : Asc last' l := by
  cases l with
  | nil => trivial
  | cons p l =>
    obtain ⟨a, b⟩ := h
    exact ⟨hl p List.mem_cons_self, b⟩
theorem tells_entR : ∀ (n j : Nat) (lst : List (Nat × Spot)) (M : Nat → Spot), Asc ((j : Int) - 1) lst → (∀ p ∈ lst, p.1 < j + n) → Tells lst M j n → entR M j n = lst
  | 0, j, lst, M, hA, hlt, _ => by
    cases lst with
    | nil => rfl
    | cons p l =>
      have h1 := (Asc.mem hA p List.mem_cons_self).1
      have h2 := hlt p List.mem_cons_self
      omega
  | n + 1, j, lst, M, hA, hlt, hT => by
    rcases hT j (Nat.le_refl _) (by omega) with ⟨p, hp, hpj, hM⟩ | ⟨hno, h0⟩
    · cases lst with
      | nil => cases hp
      | cons q l =>
        have hA' := hA
        obtain ⟨a, b, c, d, e, f, g⟩ := hA
        have hqp : q = p := by
          rcases List.mem_cons.1 hp with rfl | hp
          · rfl
          · have := (Asc.mem g p hp).1
            omega
        subst hqp
        rw [entR_hit M (by rw [hM]; omega)]
        have hr := tells_entR n (j + 1) l M (g.more (fun p hp => by have := (Asc.mem g p hp).1; omega)) (fun p hp => by have := hlt p (List.mem_cons_of_mem _ hp); omega) (fun i h1 h2 => by
          rcases hT i (by omega) (by omega) with ⟨p, hp, hpi, hMi⟩ | ⟨hno, h0⟩
          · rcases List.mem_cons.1 hp with rfl | hp
            · omega
            · exact .inl ⟨p, hp, hpi, hMi⟩
          · exact .inr ⟨fun p hp => hno p (List.mem_cons_of_mem _ hp), h0⟩)
        rw [hr, hM]
        obtain ⟨q1, q2⟩ := q
        simp only at hpj
        rw [hpj]
    · rw [entR_miss M (by omega)]
      exact tells_entR n (j + 1) lst M (hA.more (fun p hp => by
        have h1 := (Asc.mem hA p hp).1
        have h2 := hno p hp
        omega)) (fun p hp => by have := hlt p hp; omega) (fun i h1 h2 => hT i (by omega) (by omega))
theorem putAll_tells : ∀ (lst : List (Nat × Spot)) (last : Int) (M0 : Nat → Spot) (i : Nat), Asc last lst →
    (∃ p ∈ lst, p.1 = i ∧ putAll M0 lst i = p.2) ∨ ((∀ p ∈ lst, p.1 ≠ i) ∧ putAll M0 lst i = M0 i)
  | [], _, M0, i, _ => .inr ⟨fun p h => (by cases h), rfl⟩
  | q :: l, last, M0, i, h => by
    obtain ⟨a, b, c, d, e, f, g⟩ := h
    rcases putAll_tells l q.1 (upd M0 q.1 q.2) i g with ⟨p, hp, h1, h2⟩ | ⟨hno, h2⟩
    · exact .inl ⟨p, List.mem_cons_of_mem _ hp, h1, h2⟩
    · by_cases hq : i = q.1
      · subst hq
        refine .inl ⟨q, List.mem_cons_self, rfl, ?_⟩
        show putAll (upd M0 q.1 q.2) l q.1 = _
        rw [h2, upd_same]
      · refine .inr ⟨fun p hp => ?_, ?_⟩
        · rcases List.mem_cons.1 hp with rfl | hp
          · exact fun e => hq e.symm
          · exact hno p hp
        · show putAll (upd M0 q.1 q.2) l i = _
          rw [h2, upd_other _ _ hq]
/-- Bytes that are read are just the map's. -/
theorem rd_inv {l : List UInt8} {M : Nat → Spot} (h : rdOut l = some M) : textB25 M = l ∧ Mok M ∧ (∀ i, i < 256 → (M i).ver < 2147483648) := by
  unfold rdOut at h
  split at h
  · cases h
  · rename_i hn
    rcases e1 : rInt (some l) with ⟨n, _ | l1⟩
    · rw [e1] at h
      simp only at h
      rw [rdGo_none] at h
      split at h
      · simp [rdEnd, rDone] at h
      · simp [rdEnd] at h
    · rw [e1] at h hn
      simp only at h hn
      rcases e2 : rdGo n.toNat (some l1) 0 (fun _ => noSpot) with _ | ⟨σ, M'⟩
      · rw [e2] at h
        cases h
      · rw [e2] at h
        unfold rdEnd at h
        simp only at h
        split at h
        · rename_i hd
          cases h
          have hσ : σ = some [] := by
            unfold rDone at hd
            split at hd
            · assumption
            · cases hd
          subst hσ
          obtain ⟨lst, f1, f2, f3, f4⟩ := rdGo_inv n.toNat l1 0 _ [] M (Int.le_refl _) e2
          have hT : ∀ i, (∃ p ∈ lst, p.1 = i ∧ M i = p.2) ∨ ((∀ p ∈ lst, p.1 ≠ i) ∧ M i = noSpot) := fun i => by
            rw [f4]
            exact putAll_tells lst 0 _ i f3
          have hM : Mok M ∧ ∀ i, i < 256 → (M i).ver < 2147483648 := by
            refine ⟨⟨?_, fun i hi => ?_⟩, fun i hi => ?_⟩
            · rcases hT 0 with ⟨p, hp, h1, h2⟩ | ⟨_, h2⟩
              · have := (Asc.mem f3 p hp).2.1
                omega
              · rw [h2]
                rfl
            · rcases hT i with ⟨p, hp, h1, h2⟩ | ⟨_, h2⟩
              · have := Asc.mem f3 p hp
                rw [h2]
                exact ⟨by omega, by omega, this.2.2.2.1⟩
              · rw [h2]
                decide
            · rcases hT i with ⟨p, hp, h1, h2⟩ | ⟨_, h2⟩
              · have := Asc.mem f3 p hp
                rw [h2]
                omega
              · rw [h2]
                decide
          refine ⟨?_, hM.1, hM.2⟩
          have he : entUp M 256 = lst := by
            rw [entUp_one hM.1]
            refine tells_entR 255 1 lst M f3 (fun p hp => by have := Asc.mem f3 p hp; omega) (fun i _ _ => ?_)
            rcases hT i with h1 | ⟨h1, h2⟩
            · exact .inl h1
            · exact .inr ⟨h1, by rw [h2]; rfl⟩
          have hlen : (lst.length : Int) = n := by omega
          unfold textB25
          rw [he, hlen, (rInt_inv e1).1, f2, List.append_nil]
        · cases h
end Go.Proofs.Ytljmaicobafgkaa
end
