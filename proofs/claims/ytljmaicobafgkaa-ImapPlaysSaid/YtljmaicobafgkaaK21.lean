/- A join of 2 texts of this claim: ImR, Im13. Conditions: none of their own. -/
import Derived.Test.YtljmaicobafgkaaK19
import Derived.Test.YtljmaicobafgkaaK17
import Derived.Test.YtljmaicobafgkaaK5
section
/- Chapter 25, imap: the reference's Read: its parts. -/
namespace Go.Proofs.Ytljmaicobafgkaa
open Go.RowKit

def rs : Option (List UInt8) → ByteArray
  | some l => ⟨l.toArray⟩
  | none => ⟨#[]⟩
def rb : Option (List UInt8) → Bool
  | some _ => false
  | none => true
theorem rdr_eq (σ : Option (List UInt8)) : rdrCells σ = #[.string (rs σ), .bool (rb σ)] := by cases σ <;> rfl
theorem take25 (σ : Option (List UInt8)) (w : World) (hl : ∀ l, σ = some l → l.length ≤ 1073741824) :
    Calls Try.prog 114 #[.agg #[.string (rs σ), .bool (rb σ)]] w fun e w' => e = .returned (.tuple #[.agg #[.string (rs (rInt σ).2), .bool (rb (rInt σ).2)], .int .i64 (rInt σ).1]) ∧ Below w.heap.size w w' := by
  have h := r3TakeInt_any σ w hl
  rw [rdr_eq, rdr_eq] at h
  exact h
theorem end25 (σ : Option (List UInt8)) (w : World) : Calls Try.prog 115 #[.agg #[.string (rs σ), .bool (rb σ)]] w fun e w' => e = .returned (.int .i64 (rDone σ)) ∧ Below w.heap.size w w' := by
  have h := end_any σ w
  rw [rdr_eq] at h
  exact h
theorem zero30 : zeros1024.toArray = Try.zeroCells30 := by kernel_rfl
theorem rep_z30 : Rep Try.zeroCells30 z25 := zero30 ▸ rep_zero
theorem info30s : (Try.prog.info? 30).map (·.size) = some 1024 := (zero_of_info info30).2
/-- What the reference's Read gives. -/
def RRdPost (l : List UInt8) (e : Ending) : Prop :=
  match rdOut l with
  | none => ∃ C, Rep C z25 ∧ e = .returned (.tuple #[.agg C, .int .i64 3])
  | some M => ∃ C, Rep C M ∧ e = .returned (.tuple #[.agg C, .int .i64 0])
theorem RRdPost.no {l : List UInt8} {e : Ending} {C : Array Value} (h : rdOut l = none) (r : Rep C z25) (he : e = .returned (.tuple #[.agg C, .int .i64 3])) : RRdPost l e := by
  unfold RRdPost
  rw [h]
  exact ⟨C, r, he⟩
theorem RRdPost.yes {l : List UInt8} {e : Ending} {C : Array Value} {M : Nat → Spot} (h : rdOut l = some M) (r : Rep C M) (he : e = .returned (.tuple #[.agg C, .int .i64 0])) : RRdPost l e := by
  unfold RRdPost
  rw [h]
  exact ⟨C, r, he⟩
end Go.Proofs.Ytljmaicobafgkaa
end
section
/- Chapter 25, imap: the reference's Read. -/
namespace Go.Proofs.Ytljmaicobafgkaa
open Go.RowKit

def RRS (w0 : World) (b4 b6 N : Nat) (R : Option (Option (List UInt8) × (Nat → Spot))) (w : World) (lastV iV : Value) : Prop :=
  ∃ (k : Nat) (ls : List UInt8) (last : Int) (M : Nat → Spot), iV = .int .i64 k ∧ lastV = .int .i64 last ∧ k ≤ N ∧ w.heap[b4]? = some (.cells #[.string ⟨ls.toArray⟩, .bool false] 184 (0, 0)) ∧ RM w b6 M ∧ RM w w0.heap.size z25 ∧ rdGo (N - k) (some ls) last M = R ∧ ls.length ≤ 1073741824 ∧ Below w0.heap.size w0 w
theorem take25s (ls : List UInt8) (w : World) (hl : ls.length ≤ 1073741824) :
    Calls Try.prog 114 #[.agg #[.string ⟨ls.toArray⟩, .bool false]] w fun e w' => e = .returned (.tuple #[.agg #[.string (rs (rInt (some ls)).2), .bool (rb (rInt (some ls)).2)], .int .i64 (rInt (some ls)).1]) ∧ Below w.heap.size w w' :=
  take25 (some ls) w (fun _ e => by cases e; exact hl)
theorem end25s (ls : List UInt8) (w : World) : Calls Try.prog 115 #[.agg #[.string ⟨ls.toArray⟩, .bool false]] w fun e w' => e = .returned (.int .i64 (rDone (some ls))) ∧ Below w.heap.size w w' := end25 (some ls) w
theorem fr_two (v : World) (b : Nat) (x y : Value) : Fr (fun k => k = b) v ((v.setCell ⟨b, 0, none⟩ x).setCell ⟨b, 1, none⟩ y) :=
  ((Fr.refl (fun k => k = b) v).setCell (p := ⟨b, 0, none⟩) (fun _ => rfl) _).setCell (p := ⟨b, 1, none⟩) (fun _ => rfl) _
theorem rs_no : rs none = ⟨#[]⟩ := rfl
theorem rb_no : rb none = true := rfl
theorem rs_yes (l : List UInt8) : rs (some l) = ⟨l.toArray⟩ := rfl
theorem rb_yes (l : List UInt8) : rb (some l) = false := rfl
theorem rb_none {σ : Option (List UInt8)} (h : rb σ = true) : σ = none := by
  cases σ with
  | none => rfl
  | some l => cases h
theorem rdOut_bad {l : List UInt8} (h : rb (rInt (some l)).2 = true) : rdOut l = none := by
  have h2 := rb_none h
  have h1 := rInt_bad h2
  unfold rdOut
  rw [h1, h2, if_neg (by decide)]
  rfl
theorem rdGo_out {σ : Option (List UInt8)} {n : Nat} {last : Int} {M : Nat → Spot} {R : Option (Option (List UInt8) × (Nat → Spot))} (h : rdGo (n + 1) σ last M = R) (hb : rb (entRd σ).2 = true) : R = none := by
  rw [← h, rdGo, if_neg (fun hok => by
    have h1 := entRd_bad (rb_none hb)
    have h2 := hok.2.2.2.1
    omega)]
set_option maxHeartbeats 8000000 in
set_option maxRecDepth 1000000 in
theorem rread_any (s : ByteArray) (w : World) (hs : s.size ≤ 1073741824) : Calls Try.prog 43 #[.string s] w fun e w' => RRdPost s.data.toList e ∧ Below w.heap.size w w' := by
  obtain ⟨l, hl⟩ : ∃ l, l = s.data.toList := ⟨_, rfl⟩
  have hll : l.length ≤ 1073741824 := by rw [hl, ← size_list]; exact hs
  have hsl : s = rs (some l) := by rw [hl]; exact (str_eta s).symm
  rw [← hl]
  have H2 := hide (rm_new rep_z30 w)
  have HB0 := hide ((Below.refl w.heap.size w).alloc (Nat.le_refl _) (.cells Try.zeroCells30 30))
  have hz0 : (w.alloc (.cells Try.zeroCells30 30)).heap.size = w.heap.size + 1 := by simp
  have htk := take25 (some l) (w.alloc (.cells Try.zeroCells30 30)) (fun l' e => by cases e; exact hll)
  rw [← hsl, show rb (some l) = false from rfl] at htk
  have HTK := hide htk
  clear htk hl hsl
  go_enter Try.func43, Try.ntmps43
  go_wp2_with fail
  refine HTK.out.mono ?_
  rintro e w1 ⟨rfl, hb1⟩
  have hlen1 : ∀ r, (rInt (some l)).2 = some r → r.length ≤ 1073741824 := fun r h => rInt_len h (N := 1073741824) (fun l' e => by cases e; exact hll)
  have hsz1 : w.heap.size + 1 ≤ w1.heap.size := by have := hb1.size; omega
  have hbx := HB0.out.trans (hb1.mono HB0.out.size)
  have H21 := hide (H2.out.below hb1)
  have HBX1 := hide hbx
  clear hb1 hbx HTK H2 HB0
  rcases hσ : (rInt (some l)).2 with _ | l1
  · have HNO := hide (rdOut_bad (l := l) (by rw [hσ]; rfl))
    simp only [rs, rb]
    have H2x := hide (H21.out.below ((Below.refl _ _).alloc (Nat.le_refl _) (.cells #[.string ⟨#[]⟩, .bool true] 184)))
    have HBX := hide (HBX1.out.alloc HBX1.out.size (.cells #[.string ⟨#[]⟩, .bool true] 184))
    generalize (rInt (some l)).1 = n
    clear hlen1 hσ
    go_wp2_with (refine wpList_storeR rfl (.tmp 2) (.tmp 32) rfl H2x.out rep_z30 rfl rfl ?_; intro w9 h9 f9; have HZ9 := hide h9; have HF9 := hide f9; clear h9 f9)
    refine bodyPost_ret (res_ct rfl _ _ w.heap.size 30 _ (0, 0) _ rfl HZ9.out Try.underlying30 rfl (by rw [rep_z30.1]; exact info30s)) rfl ?_
    exact ⟨RRdPost.no HNO.out rep_z30 rfl, HBX.out.trans (HF9.out.below _ HBX.out.size (fun q hq e => by omega))⟩
  · simp only [rs, rb]
    have hl1 := hlen1 l1 hσ
    have H2x := hide (H21.out.below ((Below.refl _ _).alloc (Nat.le_refl _) (.cells #[.string ⟨l1.toArray⟩, .bool false] 184)))
    have HBX := hide (HBX1.out.alloc HBX1.out.size (.cells #[.string ⟨l1.toArray⟩, .bool false] 184))
    have H4 := hide (obj_new w1 (.cells #[.string ⟨l1.toArray⟩, .bool false] 184))
    by_cases hn : (rInt (some l)).1 < 0 ∨ 256 ≤ (rInt (some l)).1
    · have HNO := hide (rdOut_range hn)
      generalize (rInt (some l)).1 = n at hn ⊢
      clear hσ hlen1
      rcases hn with hn | hn
      · go_wp2_with (refine wpList_storeR rfl (.tmp 2) (.tmp 32) rfl H2x.out rep_z30 rfl rfl ?_; intro w9 h9 f9; have HZ9 := hide h9; have HF9 := hide f9; clear h9 f9)
        refine bodyPost_ret (res_ct rfl _ _ w.heap.size 30 _ (0, 0) _ rfl HZ9.out Try.underlying30 rfl (by rw [rep_z30.1]; exact info30s)) rfl ?_
        exact ⟨RRdPost.no HNO.out rep_z30 rfl, HBX.out.trans (HF9.out.below _ HBX.out.size (fun q hq e => by omega))⟩
      · have hn0 : ¬ n < 0 := by omega
        go_wp2_with (refine wpList_storeR rfl (.tmp 2) (.tmp 32) rfl H2x.out rep_z30 rfl rfl ?_; intro w9 h9 f9; have HZ9 := hide h9; have HF9 := hide f9; clear h9 f9)
        refine bodyPost_ret (res_ct rfl _ _ w.heap.size 30 _ (0, 0) _ rfl HZ9.out Try.underlying30 rfl (by rw [rep_z30.1]; exact info30s)) rfl ?_
        exact ⟨RRdPost.no HNO.out rep_z30 rfl, HBX.out.trans (HF9.out.below _ HBX.out.size (fun q hq e => by omega))⟩
    · obtain ⟨R, hR⟩ : ∃ R, rdGo (rInt (some l)).1.toNat (rInt (some l)).2 0 (fun _ => noSpot) = R := ⟨_, rfl⟩
      have HO := hide (rdOut_in hn R hR)
      rw [hσ] at hR
      generalize (rInt (some l)).1 = n at hn hR ⊢
      obtain ⟨N, rfl⟩ : ∃ N : Nat, n = N := ⟨n.toNat, by omega⟩
      rw [Int.toNat_natCast] at hR
      have hn0 : ¬ (N : Int) < 0 := by omega
      have hn1 : (N : Int) < 256 := by omega
      have H6 : Hid (RM ((w1.alloc (.cells #[.string ⟨l1.toArray⟩, .bool false] 184)).alloc (.cells Try.zeroCells30 30)) (w1.heap.size + 1) z25) := hide (by
        have h := rm_new rep_z30 (w1.alloc (.cells #[.string ⟨l1.toArray⟩, .bool false] 184))
        rwa [World.size_alloc] at h)
      have H46 := hide (obj_alloc H4.out (.cells Try.zeroCells30 30))
      have H26 := hide (H2x.out.below ((Below.refl _ _).alloc (Nat.le_refl _) (.cells Try.zeroCells30 30)))
      have HB6 := hide (HBX.out.alloc HBX.out.size (.cells Try.zeroCells30 30))
      clear hn hσ hlen1 H21 HBX1 H2x HBX H4
      obtain ⟨b4, hb4⟩ : ∃ b4, b4 = w1.heap.size := ⟨_, rfl⟩
      have HB4E := hide hb4
      go_wp2_with (refine wpList_storeR rfl (.tmp 6) (.tmp 33) rfl H6.out rep_z30 rfl rfl ?_; intro w2 h2 f2; have HM2 : Hid (RM w2 (w1.heap.size + 1) z25) := hide ⟨_, h2, rep_z30⟩; have H42 := hide (f2.obj H46.out (by omega)); have H22 := hide (H26.out.fr f2 (by omega)); have HB2 := hide (HB6.out.trans (f2.below _ HB6.out.size (fun q hq e => by omega))); clear h2 f2)
      rw [← hb4] at HM2 H42 ⊢
      have hb6 : w.heap.size < b4 := by omega
      have HST : Hid (RRS w b4 (b4 + 1) N R w2 (.int .i64 0) (.int .i64 0)) := hide ⟨0, l1, 0, _, rfl, rfl, Nat.zero_le _, H42.out, HM2.out, H22.out, hR, hl1, HB2.out⟩
      clear hR HM2 H42 H22 HB2 H6 H46 H26 HB6 hb4 HB4E
      go_wp2_with fail
      go_loopw [7, 8] (fun lv iv wr => RRS w b4 (b4 + 1) N R wr lv iv) (fun _ iv _ => N - (intOf iv).toNat)
      case atStart => exact HST.out
      case round =>
        obtain ⟨k, ls, last, M, rfl, rfl, hk, h4, hM, h2, hgo, hlen, hb⟩ := hrel
        have H4 := hide h4
        have HM := hide hM
        have H2 := hide h2
        have HB := hide hb
        have c0 := obj_cell h4 0
        have c1 := obj_cell h4 1
        simp only [List.getElem?_toArray, List.getElem?_cons_zero, List.getElem?_cons_succ] at c0 c1
        have hb4l := obj_lt h4
        have hb6l := hM.lt
        clear h4 hM h2 hb
        rcases Nat.lt_or_ge k N with hkN | hkN
        · obtain ⟨m, hm⟩ : ∃ m, N - k = m + 1 := ⟨N - k - 1, by omega⟩
          rw [hm] at hgo
          have HGO := hide hgo
          clear hgo
          go_wp2_with fail
          refine (take25s ls _ hlen).mono ?_
          rintro e v0 ⟨rfl, hv0⟩
          have HL0 : Hid (∀ r, (rInt (some ls)).2 = some r → r.length ≤ 1073741824) := hide (fun r h => rInt_len h (N := 1073741824) (fun l' e => by cases e; exact hlen))
          have hvs := hv0.size
          obtain ⟨b9, hb9⟩ : ∃ b9, b9 = v0.heap.size := ⟨_, rfl⟩
          have h94 : ¬ b4 = b9 := by omega
          have h96 : ¬ b4 + 1 = b9 := by omega
          have h92 : ¬ w.heap.size = b9 := by omega
          have h9w : w.heap.size ≤ b9 := by omega
          obtain ⟨τ0, ht0⟩ : ∃ τ, τ = (rInt (some ls)).2 := ⟨_, rfl⟩
          obtain ⟨n0, hn0⟩ : ∃ n, n = (rInt (some ls)).1 := ⟨_, rfl⟩
          rw [← ht0] at HL0
          rw [← ht0, ← hn0]
          obtain ⟨W0, hW0⟩ : ∃ W, W = v0.alloc (.cells #[.string (rs τ0), .bool (rb τ0)] 184) := ⟨_, rfl⟩
          have hbw : Below v0.heap.size v0 W0 := hW0 ▸ (Below.refl _ _).alloc (Nat.le_refl _) _
          have HO0 : Hid (W0.heap[b9]? = some (.cells #[.string (rs τ0), .bool (rb τ0)] 184 (0, 0))) := hide (by rw [hW0, hb9]; exact obj_new _ _)
          have H40 := hide (obj_below (obj_below H4.out hv0) hbw)
          have HM0 := hide ((HM.out.below hv0).below hbw)
          have H20 := hide ((H2.out.below hv0).below hbw)
          have hba := HB.out.trans (hv0.mono HB.out.size)
          have HB0 := hide (hba.trans (hbw.mono hba.size))
          have HW0 := hide hW0
          have HB9 := hide hb9
          have HN0 := hide hn0
          have HT0 := hide ht0
          clear hv0 hba hbw hvs hW0 hb9 c0 c1 hn0 ht0 H4 HM H2 HB
          go_wp2_with fail
          rw [← HB9.out, ← HW0.out]
          refine (take25 τ0 _ HL0.out).mono ?_
          rintro e v1 ⟨rfl, hv1⟩
          obtain ⟨n1, hn1⟩ : ∃ n, n = (rInt τ0).1 := ⟨_, rfl⟩
          obtain ⟨τ1, ht1⟩ : ∃ τ, τ = (rInt τ0).2 := ⟨_, rfl⟩
          rw [← ht1, ← hn1]
          have HL1 : Hid (∀ r, τ1 = some r → r.length ≤ 1073741824) := hide (by rw [ht1]; exact fun r h => rInt_len h (N := 1073741824) HL0.out)
          have ho := obj_below HO0.out hv1
          have h4 := obj_below H40.out hv1
          have d0 := obj_cell ho 0
          have d1 := obj_cell ho 1
          simp only [List.getElem?_toArray, List.getElem?_cons_zero, List.getElem?_cons_succ] at d0 d1
          obtain ⟨W1, hW1⟩ : ∃ W, W = (v1.setCell ⟨b9, 0, none⟩ (.string (rs τ1))).setCell ⟨b9, 1, none⟩ (.bool (rb τ1)) := ⟨_, rfl⟩
          have F : Fr (fun k => k = b9) v1 W1 := hW1 ▸ fr_two v1 b9 _ _
          have HO1 : Hid (W1.heap[b9]? = some (.cells #[.string (rs τ1), .bool (rb τ1)] 184 (0, 0))) := hide (by rw [hW1]; exact set_two v1 b9 _ _ _ _ ho)
          have H41 := hide (F.obj h4 h94)
          have HM1 := hide ((HM0.out.below hv1).fr F h96)
          have H21 := hide ((H20.out.below hv1).fr F h92)
          have hba := HB0.out.trans (hv1.mono HB0.out.size)
          have HB1 := hide (hba.trans (F.below _ hba.size (fun q hq e => by omega)))
          have HW1 := hide hW1
          have HN1 := hide hn1
          have HT1 := hide ht1
          have t0 := obj_frozen ho 0
          have t1 := obj_frozen ho 1
          clear hv1 hba hW1 hn1 ht1 h4 ho F HO0 H40 HM0 H20 HB0
          go_wp2_with fail
          rw [← HW1.out]
          refine (take25 τ1 _ HL1.out).mono ?_
          rintro e v2 ⟨rfl, hv2⟩
          clear d0 d1 t0 t1
          obtain ⟨n2, hn2⟩ : ∃ n, n = (rInt τ1).1 := ⟨_, rfl⟩
          obtain ⟨τ2, ht2⟩ : ∃ τ, τ = (rInt τ1).2 := ⟨_, rfl⟩
          rw [← ht2, ← hn2]
          have HL2 : Hid (∀ r, τ2 = some r → r.length ≤ 1073741824) := hide (by rw [ht2]; exact fun r h => rInt_len h (N := 1073741824) HL1.out)
          have ho := obj_below HO1.out hv2
          have h4 := obj_below H41.out hv2
          have d0 := obj_cell ho 0
          have d1 := obj_cell ho 1
          simp only [List.getElem?_toArray, List.getElem?_cons_zero, List.getElem?_cons_succ] at d0 d1
          obtain ⟨W2, hW2⟩ : ∃ W, W = (v2.setCell ⟨b9, 0, none⟩ (.string (rs τ2))).setCell ⟨b9, 1, none⟩ (.bool (rb τ2)) := ⟨_, rfl⟩
          have F : Fr (fun k => k = b9) v2 W2 := hW2 ▸ fr_two v2 b9 _ _
          have HO2 : Hid (W2.heap[b9]? = some (.cells #[.string (rs τ2), .bool (rb τ2)] 184 (0, 0))) := hide (by rw [hW2]; exact set_two v2 b9 _ _ _ _ ho)
          have H42 := hide (F.obj h4 h94)
          have HM2 := hide ((HM1.out.below hv2).fr F h96)
          have H22 := hide ((H21.out.below hv2).fr F h92)
          have hba := HB1.out.trans (hv2.mono HB1.out.size)
          have HB2 := hide (hba.trans (F.below _ hba.size (fun q hq e => by omega)))
          have HW2 := hide hW2
          have HN2 := hide hn2
          have HT2 := hide ht2
          have t0 := obj_frozen ho 0
          have t1 := obj_frozen ho 1
          clear hv2 hba hW2 hn2 ht2 h4 ho F HO1 H41 HM1 H21 HB1
          go_wp2_with fail
          rw [← HW2.out]
          refine (take25 τ2 _ HL2.out).mono ?_
          rintro e v3 ⟨rfl, hv3⟩
          clear d0 d1 t0 t1
          obtain ⟨n3, hn3⟩ : ∃ n, n = (rInt τ2).1 := ⟨_, rfl⟩
          obtain ⟨τ3, ht3⟩ : ∃ τ, τ = (rInt τ2).2 := ⟨_, rfl⟩
          rw [← ht3, ← hn3]
          have HL3 : Hid (∀ r, τ3 = some r → r.length ≤ 1073741824) := hide (by rw [ht3]; exact fun r h => rInt_len h (N := 1073741824) HL2.out)
          have ho := obj_below HO2.out hv3
          have h4 := obj_below H42.out hv3
          have d0 := obj_cell ho 0
          have d1 := obj_cell ho 1
          simp only [List.getElem?_toArray, List.getElem?_cons_zero, List.getElem?_cons_succ] at d0 d1
          obtain ⟨W3, hW3⟩ : ∃ W, W = (v3.setCell ⟨b9, 0, none⟩ (.string (rs τ3))).setCell ⟨b9, 1, none⟩ (.bool (rb τ3)) := ⟨_, rfl⟩
          have F : Fr (fun k => k = b9) v3 W3 := hW3 ▸ fr_two v3 b9 _ _
          have HO3 : Hid (W3.heap[b9]? = some (.cells #[.string (rs τ3), .bool (rb τ3)] 184 (0, 0))) := hide (by rw [hW3]; exact set_two v3 b9 _ _ _ _ ho)
          have H43 := hide (F.obj h4 h94)
          have HM3 := hide ((HM2.out.below hv3).fr F h96)
          have H23 := hide ((H22.out.below hv3).fr F h92)
          have hba := HB2.out.trans (hv3.mono HB2.out.size)
          have HB3 := hide (hba.trans (F.below _ hba.size (fun q hq e => by omega)))
          have HW3 := hide hW3
          have HN3 := hide hn3
          have HT3 := hide ht3
          have t0 := obj_frozen ho 0
          have t1 := obj_frozen ho 1
          clear hv3 hba hW3 hn3 ht3 h4 ho F HO2 H42 HM2 H22 HB2
          go_wp2_with fail
          rw [← HW3.out]
          refine (take25 τ3 _ HL3.out).mono ?_
          rintro e v4 ⟨rfl, hv4⟩
          clear d0 d1 t0 t1
          obtain ⟨n4, hn4⟩ : ∃ n, n = (rInt τ3).1 := ⟨_, rfl⟩
          obtain ⟨τ4, ht4⟩ : ∃ τ, τ = (rInt τ3).2 := ⟨_, rfl⟩
          rw [← ht4, ← hn4]
          have HL4 : Hid (∀ r, τ4 = some r → r.length ≤ 1073741824) := hide (by rw [ht4]; exact fun r h => rInt_len h (N := 1073741824) HL3.out)
          have ho := obj_below HO3.out hv4
          have h4 := obj_below H43.out hv4
          have d0 := obj_cell ho 0
          have d1 := obj_cell ho 1
          simp only [List.getElem?_toArray, List.getElem?_cons_zero, List.getElem?_cons_succ] at d0 d1
          obtain ⟨W4, hW4⟩ : ∃ W, W = (v4.setCell ⟨b9, 0, none⟩ (.string (rs τ4))).setCell ⟨b9, 1, none⟩ (.bool (rb τ4)) := ⟨_, rfl⟩
          have F : Fr (fun k => k = b9) v4 W4 := hW4 ▸ fr_two v4 b9 _ _
          have HO4 : Hid (W4.heap[b9]? = some (.cells #[.string (rs τ4), .bool (rb τ4)] 184 (0, 0))) := hide (by rw [hW4]; exact set_two v4 b9 _ _ _ _ ho)
          have H44 := hide (F.obj h4 h94)
          have HM4 := hide ((HM3.out.below hv4).fr F h96)
          have H24 := hide ((H23.out.below hv4).fr F h92)
          have hba := HB3.out.trans (hv4.mono HB3.out.size)
          have HB4 := hide (hba.trans (F.below _ hba.size (fun q hq e => by omega)))
          have HW4 := hide hW4
          have HN4 := hide hn4
          have HT4 := hide ht4
          have t0 := obj_frozen ho 0
          have t1 := obj_frozen ho 1
          clear hv4 hba hW4 hn4 ht4 h4 ho F HO3 H43 HM3 H23 HB3
          obtain ⟨x, hx⟩ : ∃ x : Spot, x = ⟨n1, n2, n3, n4⟩ := ⟨_, rfl⟩
          obtain rfl : n1 = x.seg := by rw [hx]
          obtain rfl : n2 = x.frm := by rw [hx]
          obtain rfl : n3 = x.len := by rw [hx]
          obtain rfl : n4 = x.ver := by rw [hx]
          have HE : Hid (entRd (some ls) = ((n0, x), τ4)) := hide (by unfold entRd; rw [← HT0.out, ← HN0.out, ← HT1.out, ← HN1.out, ← HT2.out, ← HN2.out, ← HT3.out, ← HN3.out, ← HT4.out, ← HN4.out])
          clear hx HN0 HN1 HN2 HN3 HN4 HT0 HT1 HT2 HT3 HT4
          have hx5 := (Below.refl W4.heap.size W4).alloc (Nat.le_refl _) (.cells #[.int .i64 x.seg, .int .i64 x.frm, .int .i64 x.len, .int .i64 x.ver] 27)
          have H45 := hide (obj_alloc H44.out (.cells #[.int .i64 x.seg, .int .i64 x.frm, .int .i64 x.len, .int .i64 x.ver] 27))
          have HO5 := hide (obj_alloc HO4.out (.cells #[.int .i64 x.seg, .int .i64 x.frm, .int .i64 x.len, .int .i64 x.ver] 27))
          have HM5 := hide (HM4.out.below hx5)
          have H25 := hide (H24.out.below hx5)
          have HB5 := hide (HB4.out.alloc HB4.out.size (.cells #[.int .i64 x.seg, .int .i64 x.frm, .int .i64 x.len, .int .i64 x.ver] 27))
          have HX5 := hide (obj_new W4 (.cells #[.int .i64 x.seg, .int .i64 x.frm, .int .i64 x.len, .int .i64 x.ver] 27))
          have hm4 := HM4.out.lt
          have hm9 := obj_lt HO4.out
          have hm2 := H24.out.lt
          have hszW : W4.heap.size = v4.heap.size := by rw [HW4.out]; simp
          rw [hszW] at hm4 hm9 hm2 HX5
          obtain ⟨bx, hbx⟩ : ∃ b, b = v4.heap.size := ⟨_, rfl⟩
          have h9n : ¬ b9 = v4.heap.size := by omega
          have h9l := hm9
          obtain ⟨W5, hW5⟩ : ∃ W, W = W4.alloc (.cells #[.int .i64 x.seg, .int .i64 x.frm, .int .i64 x.len, .int .i64 x.ver] 27) := ⟨_, rfl⟩
          rw [← hW5] at H45 HO5 HM5 H25 HB5 HX5
          rw [← hbx] at HX5 hm4 hm9 hm2
          have HBXE := hide hbx
          have h4x : ¬ bx = b4 := by omega
          have h6x : ¬ b4 + 1 = bx := by omega
          have HW5 := hide hW5
          clear hx5 hbx hW5 hszW H44 HO4 HM4 H24 HB4
          rcases τ4 with _ | l5
          · have HNO : Hid (rdOut l = none) := hide (by
              have h := HO.out
              rw [rdGo_out HGO.out (by rw [HE.out]; rfl), rdEnd] at h
              exact h)
            rw [rs_no, rb_no] at HW4 ⊢
            have H2x : Hid (RM ((((v4.setCell ⟨b9, 0, none⟩ (.string ⟨#[]⟩)).setCell ⟨b9, 1, none⟩ (.bool true))).alloc (.cells #[.int .i64 x.seg, .int .i64 x.frm, .int .i64 x.len, .int .i64 x.ver] 27)) w.heap.size z25) := hide (by rw [← HW4.out, ← HW5.out]; exact H25.out)
            have HBX : Hid (Below w.heap.size w ((((v4.setCell ⟨b9, 0, none⟩ (.string ⟨#[]⟩)).setCell ⟨b9, 1, none⟩ (.bool true))).alloc (.cells #[.int .i64 x.seg, .int .i64 x.frm, .int .i64 x.len, .int .i64 x.ver] 27))) := hide (by rw [← HW4.out, ← HW5.out]; exact HB5.out)
            go_wp2_with (refine wpList_storeR rfl (.tmp 2) (.tmp 94) rfl H2x.out rep_z30 rfl rfl ?_; intro w9 h9 f9; have HZ9 := hide h9; have HF9 := hide f9; clear h9 f9)
            refine bodyPost_ret (res_ct rfl _ _ w.heap.size 30 _ (0, 0) _ rfl HZ9.out Try.underlying30 rfl (by rw [rep_z30.1]; exact info30s)) rfl ?_
            exact ⟨RRdPost.no HNO.out rep_z30 rfl, HBX.out.trans (HF9.out.below _ HBX.out.size (fun q hq e => by omega))⟩
          · rw [rs_yes, rb_yes] at HW4 ⊢
            have hlen5 : l5.length ≤ 1073741824 := HL4.out l5 rfl
            go_wp2_with fail
            refine (rmay_any _ _).mono ?_
            rintro e wm ⟨rfl, rfl⟩
            rw [← HBXE.out, ← HW4.out, ← HW5.out]
            rw [rs_yes, rb_yes] at HO5
            have H2x := H25
            have HBX := HB5
            clear d0 d1 t0 t1
            by_cases h0 : mayI n0
            · rw [decide_eq_true h0]
              by_cases h1 : n0 ≤ last
              · have HNO : Hid (rdOut l = none) := hide (by
                  have h := HO.out
                  rw [← HGO.out, rdGo, HE.out, if_neg (by unfold entOk; exact fun h => absurd h.2.1 (by simp only; omega)), rdEnd] at h
                  exact h)
                go_wp2_with (refine wpList_storeR rfl (.tmp 2) (.tmp 94) rfl H2x.out rep_z30 rfl rfl ?_; intro w9 h9 f9; have HZ9 := hide h9; have HF9 := hide f9; clear h9 f9)
                refine bodyPost_ret (res_ct rfl _ _ w.heap.size 30 _ (0, 0) _ rfl HZ9.out Try.underlying30 rfl (by rw [rep_z30.1]; exact info30s)) rfl ?_
                exact ⟨RRdPost.no HNO.out rep_z30 rfl, HBX.out.trans (HF9.out.below _ HBX.out.size (fun q hq e => by omega))⟩
              · have h1' : ¬ n0 ≤ last := h1
                have x0 := obj_cell HX5.out 0
                have x1 := obj_cell HX5.out 1
                have x2 := obj_cell HX5.out 2
                have x3 := obj_cell HX5.out 3
                simp only [List.getElem?_toArray, List.getElem?_cons_zero, List.getElem?_cons_succ] at x0 x1 x2 x3
                go_wp2_with fail
                refine (rspot_any x _).mono ?_
                rintro e w6 ⟨rfl, hb6⟩
                have H46 := hide (obj_below H45.out hb6)
                have HO6 := hide (obj_below HO5.out hb6)
                have HX6 := hide (obj_below HX5.out hb6)
                have HM6 := hide (HM5.out.below hb6)
                have H2x := hide (H25.out.below hb6)
                have HBX := hide (HB5.out.trans (hb6.mono HB5.out.size))
                clear hb6 x0 x1 x2 x3 H45 HO5 HX5 HM5 H25 HB5
                by_cases h2 : x.ok
                · rw [decide_eq_true h2]
                  by_cases h3 : x.ver < 1
                  · have HNO : Hid (rdOut l = none) := hide (by
                      have h := HO.out
                      rw [← HGO.out, rdGo, HE.out, if_neg (by unfold entOk; exact fun h => absurd h.2.2.2.1 (by simp only; omega)), rdEnd] at h
                      exact h)
                    go_wp2_with (refine wpList_storeR rfl (.tmp 2) (.tmp 94) rfl H2x.out rep_z30 rfl rfl ?_; intro w9 h9 f9; have HZ9 := hide h9; have HF9 := hide f9; clear h9 f9)
                    refine bodyPost_ret (res_ct rfl _ _ w.heap.size 30 _ (0, 0) _ rfl HZ9.out Try.underlying30 rfl (by rw [rep_z30.1]; exact info30s)) rfl ?_
                    exact ⟨RRdPost.no HNO.out rep_z30 rfl, HBX.out.trans (HF9.out.below _ HBX.out.size (fun q hq e => by omega))⟩
                  · by_cases h4 : 2147483648 ≤ x.ver
                    · have HNO : Hid (rdOut l = none) := hide (by
                        have h := HO.out
                        rw [← HGO.out, rdGo, HE.out, if_neg (by unfold entOk; exact fun h => absurd h.2.2.2.2 (by simp only; omega)), rdEnd] at h
                        exact h)
                      go_wp2_with (refine wpList_storeR rfl (.tmp 2) (.tmp 94) rfl H2x.out rep_z30 rfl rfl ?_; intro w9 h9 f9; have HZ9 := hide h9; have HF9 := hide f9; clear h9 f9)
                      refine bodyPost_ret (res_ct rfl _ _ w.heap.size 30 _ (0, 0) _ rfl HZ9.out Try.underlying30 rfl (by rw [rep_z30.1]; exact info30s)) rfl ?_
                      exact ⟨RRdPost.no HNO.out rep_z30 rfl, HBX.out.trans (HF9.out.below _ HBX.out.size (fun q hq e => by omega))⟩
                    · have hgo := HGO.out
                      rw [rdGo, HE.out, if_pos ⟨h0, by simp only; omega, h2, by simp only; omega, by simp only; omega⟩] at hgo
                      obtain ⟨j, rfl⟩ : ∃ j : Nat, n0 = j := ⟨n0.toNat, by have := h0.1; omega⟩
                      have hj : j < 256 := by have := h0.2; omega
                      rw [Int.toNat_natCast] at hgo
                      have HGO3 := hide hgo
                      have e0 := obj_cell H46.out 0
                      have e1 := obj_cell H46.out 1
                      have f0 := obj_cell HO6.out 0
                      have f1 := obj_cell HO6.out 1
                      have x0 := obj_cell HX6.out 0
                      have x1 := obj_cell HX6.out 1
                      have x2 := obj_cell HX6.out 2
                      have x3 := obj_cell HX6.out 3
                      simp only [List.getElem?_toArray, List.getElem?_cons_zero, List.getElem?_cons_succ] at e0 e1 f0 f1 x0 x1 x2 x3
                      have g0 := obj_frozen H46.out 0
                      have g1 := obj_frozen H46.out 1
                      have F7 := fr_two w6 b4 (.string ⟨l5.toArray⟩) (.bool false)
                      have HM7 := hide (HM6.out.fr F7 (by omega))
                      have H27 := hide (H2x.out.fr F7 (by omega))
                      have H47 := hide (set_two w6 b4 _ _ (.string ⟨l5.toArray⟩) (.bool false) H46.out)
                      have HB7 := hide (HBX.out.trans (F7.below _ HBX.out.size (fun q hq e => by omega)))
                      clear F7 hgo h0
                      go_wp2_with (refine wpList_spotR rfl (.tmp 100) (.tmp 98) rfl HM7.out hj x rfl rfl ?_; intro w7 hR7 f7; have HR7 := hide hR7; have HF7 := hide f7; clear hR7 f7)
                      have HST2 : Hid (RRS w b4 (b4 + 1) N R w7 (.int .i64 (j : Int)) (.int .i64 ((k + 1 : Nat) : Int))) := hide ⟨k + 1, l5, j, upd M j x, rfl, rfl, hkN, HF7.out.obj H47.out (by omega), HR7.out, H27.out.fr HF7.out (by omega), by rw [show N - (k + 1) = m from by omega]; exact HGO3.out, hlen5, HB7.out.trans (HF7.out.below _ HB7.out.size (fun q hq e => by omega))⟩
                      clear e0 e1 f0 f1 x0 x1 x2 x3 g0 g1
                      go_wp2
                      go_roundw
                      case rel => exact HST2.out
                      case measure => simp [intOf]; omega
                · rw [decide_eq_false h2]
                  have HNO : Hid (rdOut l = none) := hide (by
                    have h := HO.out
                    rw [← HGO.out, rdGo, HE.out, if_neg (by unfold entOk; exact fun h => absurd h.2.2.1 h2), rdEnd] at h
                    exact h)
                  go_wp2_with (refine wpList_storeR rfl (.tmp 2) (.tmp 94) rfl H2x.out rep_z30 rfl rfl ?_; intro w9 h9 f9; have HZ9 := hide h9; have HF9 := hide f9; clear h9 f9)
                  refine bodyPost_ret (res_ct rfl _ _ w.heap.size 30 _ (0, 0) _ rfl HZ9.out Try.underlying30 rfl (by rw [rep_z30.1]; exact info30s)) rfl ?_
                  exact ⟨RRdPost.no HNO.out rep_z30 rfl, HBX.out.trans (HF9.out.below _ HBX.out.size (fun q hq e => by omega))⟩
            · rw [decide_eq_false h0]
              have HNO : Hid (rdOut l = none) := hide (by
                have h := HO.out
                rw [← HGO.out, rdGo, HE.out, if_neg (by unfold entOk; exact fun h => absurd h.1 h0), rdEnd] at h
                exact h)
              go_wp2_with (refine wpList_storeR rfl (.tmp 2) (.tmp 94) rfl H2x.out rep_z30 rfl rfl ?_; intro w9 h9 f9; have HZ9 := hide h9; have HF9 := hide f9; clear h9 f9)
              refine bodyPost_ret (res_ct rfl _ _ w.heap.size 30 _ (0, 0) _ rfl HZ9.out Try.underlying30 rfl (by rw [rep_z30.1]; exact info30s)) rfl ?_
              exact ⟨RRdPost.no HNO.out rep_z30 rfl, HBX.out.trans (HF9.out.below _ HBX.out.size (fun q hq e => by omega))⟩
        · obtain rfl : k = N := by omega
          rw [Nat.sub_self, rdGo] at hgo
          subst hgo
          go_wp2_with fail
          refine (end25s ls _).mono ?_
          rintro e v5 ⟨rfl, hb5⟩
          have H2x := hide (H2.out.below hb5)
          have HM5 := hide (HM.out.below hb5)
          have HBX := hide (HB.out.trans (hb5.mono HB.out.size))
          by_cases h0 : rDone (some ls) = 0
          · have HY : Hid (rdOut l = some M) := hide (by have h := HO.out; rw [rdEnd, if_pos h0] at h; exact h)
            rw [h0]
            clear h0 hb5
            go_wp2_with (first | (refine wpList_loadR rfl (.tmp 6) rfl HM5.out rfl ?_; intro C1 r1 _) | (refine wpList_storeR rfl (.tmp 2) (.tmp 105) rfl H2x.out r1 rfl rfl ?_; intro w9 h9 f9))
            refine bodyPost_ret (res_ct rfl _ _ w.heap.size 30 _ (0, 0) _ rfl h9 Try.underlying30 rfl (by rw [r1.1]; exact info30s)) rfl ?_
            exact ⟨RRdPost.yes HY.out r1 rfl, HBX.out.trans (f9.below _ HBX.out.size (fun q hq e => by omega))⟩
          · have HNO : Hid (rdOut l = none) := hide (by have h := HO.out; rw [rdEnd, if_neg h0] at h; exact h)
            have h0' : (rDone (some ls) != 0) = true := by simp [h0]
            clear hb5
            generalize rDone (some ls) = dn at h0 h0' ⊢
            go_wp2_with (refine wpList_storeR rfl (.tmp 2) (.tmp 104) rfl H2x.out rep_z30 rfl rfl ?_; intro w9 h9 f9; have HZ9 := hide h9; have HF9 := hide f9; clear h9 f9)
            refine bodyPost_ret (res_ct rfl _ _ w.heap.size 30 _ (0, 0) _ rfl HZ9.out Try.underlying30 rfl (by rw [rep_z30.1]; exact info30s)) rfl ?_
            exact ⟨RRdPost.no HNO.out rep_z30 rfl, HBX.out.trans (HF9.out.below _ HBX.out.size (fun q hq e => by omega))⟩
end Go.Proofs.Ytljmaicobafgkaa
end
