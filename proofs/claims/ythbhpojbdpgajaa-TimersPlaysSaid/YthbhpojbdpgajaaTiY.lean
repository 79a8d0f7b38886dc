/- Chapter 07, timers: the walk of TimersPlays. -/
import Derived.Test.YthbhpojbdpgajaaTiO
import Derived.Test.YthbhpojbdpgajaaTiW
import Derived.Test.YthbhpojbdpgajaaOrd8
import Derived.Deep.CutBlock
namespace Go.Proofs.Ythbhpojbdpgajaa
open Go.RowKit

theorem want_yes {c : Prop} [Decidable c] {p q : Prop} (h : c) (hp : p) : if c then p else q := by rw [if_pos h]; exact hp
theorem want_no {c : Prop} [Decidable c] {p q : Prop} (h : ¬ c) (hq : q) : if c then p else q := by rw [if_neg h]; exact hq
/-- While what the timers tell is held against the reference. -/
structure PlS (wq : World) (X : List Tm) (d37 : Bool) (x37 : Value) (w : World) : Prop where
  b : Below wq.heap.size wq w
  r : d37 = true → kT.row w wq.heap.size x37 X
/-- Timers and the reference's row of them. -/
def Pl1 (w : World) (t p c : Nat) (wr : World) (rv : Value) : Prop :=
  ∃ (v : Value) (x : List Tm), TX wr w.heap.size t p c v x ∧ TOk x ∧ kT.row wr w.heap.size rv x ∧ (∀ q, rv.ownBlock = some q → v.ownBlock ≠ some q) ∧ Below w.heap.size w wr
def Pl0 (w : World) (t p c ll : Nat) (wr : World) (rv iv : Value) : Prop := ∃ k : Nat, iv = .int .i64 (k : Int) ∧ k ≤ ll ∧ Pl1 w t p c wr rv
theorem row_none {w : World} {B n c : Nat} {x : List Tm} (h : kT.row w B (.slice none n c) x) : x = [] ∧ n = 0 ∧ c = 0 := by
  rcases h.2 with ⟨e, h0⟩ | ⟨g, cap, cur, e, -⟩
  · injection e with e1 e2 e3
    exact ⟨List.length_eq_zero_iff.1 h0, e2, e3⟩
  · cases e
theorem row_nil0 {w : World} {B n c : Nat} {A : Option Addr} (h : kT.row w B (.slice A n c) []) : n = 0 := by
  obtain ⟨A', c', e⟩ := EK.row_slice h
  injection e with _ e2 _
theorem row_below_any {w w' : World} {B : Nat} {v : Value} {l : List Tm} (h : kT.row w B v l) {t p c : Nat} {u : Value} {x : List Tm} (ht : TX w B t p c u x) (hne : ∀ q, v.ownBlock = some q → u.ownBlock ≠ some q) (hf : Fr (fun k => u.ownBlock = some k ∨ k = p ∨ k = c) w w') : kT.row w' B v l := by
  refine EK.row_fr h hf (fun k hk e => ?_)
  obtain ⟨h1, ⟨l2, ⟨f, h2, -⟩, -⟩, -⟩ := ht
  obtain ⟨-, -, cs, h7⟩ := EK.row_typed h hk
  rcases e with e | e | e
  · exact hne _ hk e
  · subst e
    have := h2.1
    rw [h7] at this
    simp only [Option.some.injEq, Obj.cells.injEq] at this
    exact absurd this.2.1 (by decide)
  · subst e
    obtain ⟨es, k, h3⟩ := MK.mp_obj h2.2.2
    rw [h7] at h3
    cases h3
/-- The reference first, the timers behind it. -/
theorem pl_both {w wr w2 w3 : World} {t p c : Nat} {v v2 : Value} {x y : List Tm} (h : TX wr w.heap.size t p c v x) (hb : Below w.heap.size w wr) (hb2 : Below wr.heap.size wr w2)
    (hr : kT.row w2 w.heap.size v2 y) (hne : ∀ q, v2.ownBlock = some q → v.ownBlock ≠ some q) (ha : TAft w2 w.heap.size t p c v y w3) (hy : TOk y) : Pl1 w t p c w3 v2 := by
  have h2 := h.below hb2
  have hbel := TAft.bel h2 ha
  obtain ⟨v3, h3, hown, hf⟩ := ha
  refine ⟨v3, y, h3, hy, row_below_any hr h2 hne hf, fun q hq e => ?_, (hb.trans (hb2.mono hb.size)).trans hbel⟩
  rcases hown with e1 | ⟨k, e1, hk⟩
  · rw [e1] at e
    exact hne q hq e
  · rw [e] at e1
    cases e1
    have := (EK.row_typed hr hq).2.1
    omega
theorem any_stop (x : List Tm) (id : Int) : decide ((tStop x id).length < x.length) = x.any fun y => y.id == id := by
  unfold tStop
  rw [Bool.eq_iff_iff, decide_eq_true_iff, List.length_filter_lt_length_iff_exists, List.any_eq_true]
  simp
def pnA (t q2 cap k : Nat) (A : Option Addr) (u x : Nat → Value) : Act := ⟨#[u 0, u 1, u 2, .pointer (some ⟨t, 0, none⟩), .slice A 0 cap, .int .i64 (k : Int), .bool true, u 7, u 8, u 9, u 10, u 11, u 12, u 13, .pointer (some ⟨q2, 0, none⟩), .bool false, u 16, u 17, u 18, u 19, u 20, u 21, u 22, u 23, u 24, u 25, u 26, u 27, u 28, u 29, u 30, u 31, u 32, u 33, u 34, u 35, u 36, u 37, u 38, u 39, u 40, u 41, u 42, u 43, u 44, u 45, u 46, u 47, u 48, u 49, u 50, u 51, u 52, u 53, u 54, u 55, u 56, u 57, u 58, u 59, u 60, u 61, u 62, u 63, u 64, u 65, u 66, u 67, u 68, u 69, u 70, u 71, u 72, u 73, u 74, u 75, u 76, u 77, u 78, u 79, u 80, u 81, u 82, u 83, u 84, u 85, u 86, u 87, u 88, u 89, x 0, x 1, x 2, x 3, x 4, x 5, x 6, x 7, x 8, x 9, x 10, x 11, x 12, x 13, x 14, x 15, x 16, x 17, x 18, x 19, x 20, x 21, x 22, x 23, x 24, x 25, x 26, x 27, x 28, x 29, x 30, x 31, x 32, x 33, x 34, x 35, x 36, x 37, x 38, x 39, x 40, x 41, u 132], []⟩
def pnV (t cap : Nat) (A : Option Addr) (qx : Nat) (qw : Value) : Prop :=
  match qx with
  | 0 => qw = .bool true
  | 1 => qw = .bool false
  | 2 => qw = .bool false
  | 3 => qw = .bool false
  | 4 => qw = .slice A 0 cap
  | 5 => qw = .int .i64 0
  | 6 => qw = .bool false
  | 7 => qw = .bool false
  | 8 => qw = .bool false
  | 9 => qw = .bool false
  | 10 => qw = .bool false
  | 11 => qw = .bool false
  | 17 => qw = .bool false
  | 18 => qw = .bool false
  | 19 => qw = .bool false
  | 20 => qw = .bool false
  | 21 => qw = .bool true
  | 22 => qw = .bool true
  | 23 => qw = .agg #[.int .i64 0, .int .i64 0]
  | 24 => qw = .agg #[.int .i64 0, .int .i64 0]
  | 25 => qw = .bool false
  | 26 => qw = .bool false
  | 27 => qw = .bool false
  | 28 => qw = .bool false
  | 29 => qw = .pointer (some ⟨t, 0, none⟩)
  | 30 => qw = .int .i64 0
  | 31 => qw = .slice A 0 cap
  | 32 => qw = .int .i64 0
  | 33 => qw = .bool false
  | 34 => qw = .bool false
  | 35 => qw = .bool false
  | 36 => qw = .pointer (some ⟨t, 0, none⟩)
  | 38 => qw = .slice A 0 cap
  | 39 => qw = .bool true
  | 40 => qw = .bool false
  | 41 => qw = .bool false
  | _ => True
def pcA (t q2 r n cap k : Nat) (u x : Nat → Value) : Act := ⟨#[u 0, u 1, u 2, .pointer (some ⟨t, 0, none⟩), .slice (some ⟨r, 0, none⟩) n cap, .int .i64 (k : Int), .bool true, u 7, u 8, u 9, u 10, u 11, u 12, u 13, .pointer (some ⟨q2, 0, none⟩), .bool true, u 16, u 17, u 18, u 19, u 20, u 21, u 22, u 23, u 24, u 25, u 26, u 27, u 28, u 29, u 30, u 31, u 32, u 33, u 34, u 35, u 36, u 37, u 38, u 39, u 40, u 41, u 42, u 43, u 44, u 45, u 46, u 47, u 48, u 49, u 50, u 51, u 52, u 53, u 54, u 55, u 56, u 57, u 58, u 59, u 60, u 61, u 62, u 63, u 64, u 65, u 66, u 67, u 68, u 69, u 70, u 71, u 72, u 73, u 74, u 75, u 76, u 77, u 78, u 79, u 80, u 81, u 82, u 83, u 84, u 85, u 86, u 87, u 88, u 89, x 0, x 1, x 2, x 3, x 4, x 5, x 6, x 7, x 8, x 9, x 10, x 11, x 12, x 13, x 14, x 15, x 16, x 17, x 18, x 19, x 20, x 21, x 22, x 23, x 24, x 25, x 26, x 27, x 28, x 29, x 30, x 31, x 32, x 33, x 34, x 35, x 36, x 37, x 38, x 39, x 40, x 41, u 132], []⟩
def pcV (t r n cap : Nat) (h0 : Tm) (qx : Nat) (qw : Value) : Prop :=
  match qx with
  | 0 => qw = .bool true
  | 1 => qw = .bool false
  | 2 => qw = .bool false
  | 3 => qw = .bool true
  | 4 => qw = .slice (some ⟨r, 0, none⟩) n cap
  | 5 => qw = .int .i64 (n : Int)
  | 6 => qw = .bool true
  | 7 => qw = .bool false
  | 8 => qw = .bool false
  | 9 => qw = .bool false
  | 10 => qw = .bool true
  | 11 => qw = .bool true
  | 12 => qw = .agg #[.int .i64 h0.id, .int .i64 h0.at_]
  | 13 => qw = .slice (some ⟨r, 0, none⟩) n cap
  | 14 => qw = .pointer (some ⟨r, 0, none⟩)
  | 15 => qw = .agg #[.int .i64 h0.id, .int .i64 h0.at_]
  | 16 => qw = .bool false
  | 17 => qw = .bool false
  | 18 => qw = .bool false
  | 19 => qw = .bool false
  | 20 => qw = .bool true
  | 21 => qw = .bool false
  | 22 => qw = .bool false
  | 26 => qw = .bool false
  | 27 => qw = .bool false
  | 28 => qw = .bool false
  | 29 => qw = .pointer (some ⟨t, 0, none⟩)
  | 30 => qw = .int .i64 (n : Int)
  | 31 => qw = .slice (some ⟨r, 0, none⟩) n cap
  | 32 => qw = .int .i64 (n : Int)
  | 33 => qw = .bool false
  | 34 => qw = .bool false
  | 35 => qw = .bool false
  | 36 => qw = .pointer (some ⟨t, 0, none⟩)
  | 38 => qw = .slice (some ⟨r, 0, none⟩) n cap
  | 39 => qw = .bool true
  | 40 => qw = .bool false
  | 41 => qw = .bool false
  | _ => True
set_option maxHeartbeats 16000000 in
set_option maxRecDepth 100000 in
theorem walk_timersPlays (v : Value) (l : List TDeed) (w : World) (hv : TDeedArg w v l) (_hz : ∀ x ∈ l, x.wf) :
    Calls Try.prog 4 #[v] w fun e w' => e = .returned (.bool true) ∧ Below w.heap.size w w' := by
  have AW := hide awake07
  obtain ⟨LA, lcap, rfl⟩ := hv.slice
  have hlm := hv.len
  simp only [maxLen] at hlm
  have HV := hide hv
  obtain ⟨ll, hll⟩ : ∃ ll, ll = l.length := ⟨_, rfl⟩
  rw [← hll] at hlm HV ⊢
  have HLL := hide hll
  clear hv hll _hz
  rcases Nat.lt_or_ge 150 ll with hbig | hbig
  · have hbig' : (150 : Int) < (ll : Int) := by omega
    go_enter Try.func4, Try.ntmps4
    go_wp2_with fail
    refine (AW.out _).mono ?_
    rintro e w2 ⟨rfl, hb⟩
    go_wp2
    go_ret
    exact ⟨rfl, hb⟩
  have hbig' : ¬ (150 : Int) < (ll : Int) := by omega
  go_enter Try.func4, Try.ntmps4
  go_wp2_with fail
  refine (tnew_any _).mono ?_
  rintro e w1 ⟨t, p, c, rfl, h1, hb1⟩
  have HS := hide (show Pl0 w t p c ll w1 (.slice none 0 0) (.int .i64 0) from ⟨0, rfl, Nat.zero_le _, _, _, h1, tok_nil, EK.row_nil _ _, (fun q e => by cases e), hb1⟩)
  clear h1 hb1
  go_wp2_with fail
  go_loopw [4, 5] (fun rv iv wr => Pl0 w t p c ll wr rv iv) (fun _ iv _ => ll - (intOf iv).toNat)
  case atStart => exact HS.out
  case round =>
    obtain ⟨k, rfl, hk, vt, x, ht, hx, hr, hne, hb⟩ := hrel
    have HB := hide hb
    rcases Nat.lt_or_ge k ll with hkl | hkl
    · have HT := hide ht
      have HX := hide hx
      have HR := hide hr
      have HNE := hide hne
      obtain ⟨a, rfl, hc1, hc2, hcell⟩ := HV.out.at (k := k) (by have := HLL.out; omega)
      simp only [maxLen] at hc2
      obtain ⟨q0, q1, q2⟩ := hcell wr hb
      obtain ⟨d, hde⟩ : ∃ d, d = l[k]'(by have := HLL.out; omega) := ⟨_, rfl⟩
      rw [← hde] at q0 q1 q2
      obtain ⟨kd, id, at_⟩ := d
      simp only at q0 q1 q2
      have hcapi : ll ≤ lcap := by have := HLL.out; omega
      have hkli : (k : Int) < (ll : Int) := by omega
      have hal := (Below.refl wr.heap.size wr).alloc (Nat.le_refl _) (.cells #[.int .i64 kd, .int .i64 id, .int .i64 at_] 35)
      have HAL := hide hal
      have oq := obj_new wr (.cells #[.int .i64 kd, .int .i64 id, .int .i64 at_] 35)
      have HOQ := hide oq
      clear hcell hde hc1 hb ht hx hr hne
      go_upto_block 2 with fail
      go_cut [4, 6] from 21 to 131 (fun s4 s6 wx => s6 = .bool true ∧ Pl1 w t p c wx s4)
      case first =>
        clear hal oq q0 q1 q2
        have z0 := obj_cell HOQ.out 0
        have z1 := obj_cell HOQ.out 1
        have z2 := obj_cell HOQ.out 2
        simp only [List.getElem?_toArray, List.getElem?_cons_zero, List.getElem?_cons_succ] at z0 z1 z2
        by_cases hk0 : kd = 0
        · have HRS := hide (rset_any (EK.row_below HR.out HAL.out) (by have := HB.out.size; have := HAL.out.size; omega) (by have := HX.out.few; omega) id at_)
          rw [hk0] at z0 HOQ HAL HRS ⊢
          go_wp2_with fail
          refine HRS.out.mono ?_
          rintro e w2 ⟨v2, rfl, hr2, hn2, hb2⟩
          have hb3 := HAL.out.trans (hb2.mono HAL.out.size)
          have ht2 := HT.out.below hb3
          have HSET := hide (tset_any ht2 HX.out id at_)
          have HNE2 := hide (show ∀ q, v2.ownBlock = some q → vt.ownBlock ≠ some q from fun q hq e => by
            rcases hn2 q hq with h | h
            · exact HNE.out q h e
            · have := (HT.out.apart.2.2.2 q e).2.2.2.2
              have := HAL.out.size
              omega)
          have HB3 := hide hb3
          have HR2 := hide hr2
          have y1 := obj_cell (obj_below HOQ.out hb2) 1
          have y2 := obj_cell (obj_below HOQ.out hb2) 2
          simp only [List.getElem?_toArray, List.getElem?_cons_zero, List.getElem?_cons_succ] at y1 y2
          clear hr2 hn2 hb2 hb3 ht2 z0 z1 z2
          go_wp2_with fail
          refine HSET.out.mono ?_
          rintro e w3 ⟨rfl, ha⟩
          have HREL := hide (pl_both HT.out HB.out HB3.out HR2.out HNE2.out ha (HX.out.set id at_))
          clear ha
          go_wp2
          go_meet
          case rel => exact ⟨by simp, HREL.out⟩
        by_cases hk1 : kd = 1
        · have HRS := hide (rstop_any (EK.row_below HR.out HAL.out) (by have := HX.out.few; omega) id)
          rw [hk1] at z0 HOQ HAL HRS ⊢
          go_wp2_with fail
          refine HRS.out.mono ?_
          rintro e w2 ⟨v2, rfl, hr2, hb2⟩
          have hb3 := HAL.out.trans (hb2.mono HAL.out.size)
          have ht2 := HT.out.below hb3
          have HSET := hide (tstop_any ht2 HX.out id)
          have HNE2 := hide (show ∀ q, v2.ownBlock = some q → vt.ownBlock ≠ some q from fun q hq e => by
            have := (EK.row_typed hr2 hq).1
            have := (HT.out.apart.2.2.2 q e).2.2.2.2
            have := HAL.out.size
            omega)
          have HB3 := hide hb3
          have HR2 := hide (EK.row_base hr2 (by have := HB.out.size; have := HAL.out.size; omega : w.heap.size ≤ _))
          have y1 := obj_cell (obj_below HOQ.out hb2) 1
          simp only [List.getElem?_toArray, List.getElem?_cons_zero, List.getElem?_cons_succ] at y1
          rw [any_stop]
          clear hr2 hb2 hb3 ht2 z0 z1 z2
          go_wp2_with fail
          refine HSET.out.mono ?_
          rintro e w3 ⟨rfl, ha⟩
          have HREL := hide (pl_both HT.out HB.out HB3.out HR2.out HNE2.out ha (HX.out.stop id))
          clear ha
          go_wp2
          go_meet
          case rel => exact ⟨by simp, HREL.out⟩
        by_cases hk2 : kd = 2
        · have HRS := hide (rdue_any (EK.row_below HR.out HAL.out) (by have := HX.out.few; omega) at_)
          rw [hk2] at z0 HOQ HAL HRS ⊢
          go_wp2_with fail
          refine HRS.out.mono ?_
          rintro e w2 ⟨v2, o2, rfl, hr2, ho2, hb2⟩
          have hb3 := HAL.out.trans (hb2.mono HAL.out.size)
          have ht2 := HT.out.below hb3
          have HSET := hide (tdue_any ht2 HX.out at_)
          have HNE2 := hide (show ∀ q, v2.ownBlock = some q → vt.ownBlock ≠ some q from fun q hq e => by
            have := (EK.row_typed hr2 hq).1
            have := (HT.out.apart.2.2.2 q e).2.2.2.2
            have := HAL.out.size
            omega)
          have HB3 := hide hb3
          have HO2 := hide ho2
          have HT2 := hide ht2
          have HR2 := hide (EK.row_base hr2 (by have := HB.out.size; have := HAL.out.size; omega : w.heap.size ≤ _))
          have y2 := obj_cell (obj_below HOQ.out hb2) 2
          simp only [List.getElem?_toArray, List.getElem?_cons_zero, List.getElem?_cons_succ] at y2
          clear hr2 hb2 hb3 ht2 ho2 z0 z1 z2
          go_wp2_with fail
          refine HSET.out.mono ?_
          rintro e w3 ⟨ov, rfl, hq⟩
          have hbl := DueQ.bel HT2.out hq
          obtain ⟨v3, a1, a2, a3, a4⟩ := hq
          have hro : kI.row w3 wr.heap.size o2 (tDue x at_).2 := EK.row_base (EK.row_fr HO2.out a4 (fun q hq e => by
            have := HT2.out.ints HO2.out hq
            rcases e with e | e | e
            · exact this.1 e
            · exact this.2.1 e
            · exact this.2.2.1 e)) HAL.out.size
          have HINT := hide (ints_yes a3 hro)
          have HRA := hide (show Pl1 w t p c w3 v2 from pl_both HT.out HB.out HB3.out HR2.out HNE2.out ⟨v3, a1, .inl a2, a4⟩ (HX.out.due at_))
          clear hbl a1 a2 a3 a4 hro y2
          go_wp2_with fail
          refine HINT.out.mono ?_
          rintro e w4 ⟨rfl, hb4⟩
          obtain ⟨b1, b2, b3, b4, b5, b6, b7⟩ := HRA.out
          have HREL := hide (show Pl1 w t p c w4 v2 from ⟨b1, b2, b3.below hb4, b4, EK.row_below b5 hb4, b6, b7.trans (hb4.mono b7.size)⟩)
          clear hb4 b3 b4 b5 b6 b7
          go_wp2
          go_meet
          case rel => exact ⟨rfl, HREL.out⟩
        · have HREL := hide (show Pl1 w t p c (wr.alloc (.cells #[.int .i64 kd, .int .i64 id, .int .i64 at_] 35)) u4 from ⟨vt, x, HT.out.below HAL.out, HX.out, EK.row_below HR.out HAL.out, HNE.out, HB.out.trans (HAL.out.mono HB.out.size)⟩)
          clear z1 z2
          go_wp2
          go_meet
          case rel => exact ⟨rfl, HREL.out⟩
      case rest =>
      clear hal oq q0 q1 q2 HT HX HR HNE HAL HOQ HB
      obtain ⟨rfl, v', X, ht, hx, hr, hne, hb⟩ := hcut
      have HNX := hide (tnext_any ht hx.srt)
      have HT := hide ht
      have HX := hide hx
      have HR := hide hr
      have HNE := hide hne
      have HB := hide hb
      rcases X with _ | ⟨h0, X'⟩
      · simp only [tHead, noT] at HNX
        obtain ⟨A, cap, e1⟩ := EK.row_slice hr
        simp only [List.length_nil] at e1
        subst e1
        obtain ⟨X, hX⟩ : ∃ X : List Tm, X = [] := ⟨_, rfl⟩
        rw [← hX] at HT HX HR
        have HN := hide (show 0 = X.length from by rw [hX]; rfl)
        clear ht hx hr hne hb hX
        go_wp2_with fail
        refine HNX.out.mono ?_
        rintro e w4 ⟨rfl, hb4⟩
        have hal := hb4.alloc hb4.size (.cells #[.int .i64 0, .int .i64 0] 44)
        have oq := obj_new w4 (.cells #[.int .i64 0, .int .i64 0] 44)
        have HTX := hide (HT.out.below hal)
        have HRV := hide (EK.row_below HR.out hal)
        have HBW := hide (HB.out.trans (hal.mono HB.out.size))
        clear hb4 hal
        go_wp2_with fail
        obtain ⟨q2, hq2⟩ : ∃ q, q = w4.heap.size := ⟨_, rfl⟩
        rw [← hq2] at oq ⊢
        clear hq2
        generalize hwq : w4.alloc (.cells #[.int .i64 0, .int .i64 0] 44) = wq at oq HTX HRV HBW ⊢
        clear hwq
        have HQ2 := hide oq
        clear oq
        refine wp_region_e (pnA t q2 cap k A) (fun j => #[90, 91, 92, 93, 94, 95, 96, 97, 98, 99, 100, 101, 102, 103, 104, 105, 106, 107, 108, 109, 110, 111, 112, 113, 114, 115, 116, 117, 118, 119, 120, 121, 122, 123, 124, 125, 126, 127, 128, 129, 130, 131].getD j 0) (fun d x w' => PlS wq X (d 37) (x 37) w') (fun qi qv => pnV t cap A qi qv) (by kernel_rfl) (by kernel_rfl) rfl ⟨(Below.refl _ _).drew, fun e => by cases e⟩ ?_ ?_ ?_
        · exact fun u => ⟨fun x v => rfl, fun x v => rfl, fun x v => rfl, fun x v => rfl, fun x v => rfl, fun x v => rfl, fun x v => rfl, fun x v => rfl, fun x v => rfl, fun x v => rfl, fun x v => rfl, fun x v => rfl, fun x v => rfl, fun x v => rfl, fun x v => rfl, fun x v => rfl, fun x v => rfl, fun x v => rfl, fun x v => rfl, fun x v => rfl, fun x v => rfl, fun x v => rfl, fun x v => rfl, fun x v => rfl, fun x v => rfl, fun x v => rfl, fun x v => rfl, fun x v => rfl, fun x v => rfl, fun x v => rfl, fun x v => rfl, fun x v => rfl, fun x v => rfl, fun x v => rfl, fun x v => rfl, fun x v => rfl, fun x v => rfl, fun x v => rfl, fun x v => rfl, fun x v => rfl, fun x v => rfl, fun x v => rfl, trivial⟩
        · refine fun u => ⟨?_, ?_, ?_, ?_, ?_, ?_, ?_, ?_, ?_, ?_, ?_, ?_, ?_, ?_, ?_, ?_, ?_, ?_, ?_, ?_, ?_, ?_, ?_, ?_, ?_, ?_, ?_, ?_, ?_, ?_, ?_, ?_, ?_, ?_, ?_, ?_, ?_, ?_, ?_, ?_, ?_, ?_, trivial⟩
          · intro d x w' hS hdi hv hp hcl K hK
            have hS1 : PlS wq X (d 37) (x 37) w' := hS
            refine want_yes (rfl) ?_
            unfold pnA at hK ⊢
            go_wp2
            exact hK (.bool true) w' (show PlS wq X (d 37) (x 37) w' from hS1) rfl
          · intro d x w' hS hdi hv hp hcl K hK
            have d0 : x 0 = .bool true := hv 0 (hp 0 (by kernel_rfl))
            have hS1 : PlS wq X (d 37) (x 37) w' := hS
            refine want_yes (rfl) ?_
            unfold pnA at hK ⊢
            simp only [d0] at hK ⊢
            go_wp2
            exact hK (.bool false) w' (show PlS wq X (d 37) (x 37) w' from hS1) rfl
          · intro d x w' hS hdi hv hp hcl K hK
            have d0 : x 1 = .bool false := hv 1 (hp 1 (by kernel_rfl))
            have hS1 : PlS wq X (d 37) (x 37) w' := hS
            refine want_yes (rfl) ?_
            unfold pnA at hK ⊢
            simp only [d0] at hK ⊢
            go_wp2
            exact hK (.bool false) w' (show PlS wq X (d 37) (x 37) w' from hS1) rfl
          · intro d x w' hS hdi hv hp hcl K hK
            have dg : x 2 = .bool false := hv 2 (hp 2 (by kernel_rfl))
            have hS1 : PlS wq X (d 37) (x 37) w' := hS
            refine want_yes (by unfold pnA; rw [dg]; rfl) ?_
            unfold pnA at hK ⊢
            simp only [dg] at hK ⊢
            go_wp2
            exact hK (.bool false) w' (show PlS wq X (d 37) (x 37) w' from hS1) rfl
          · intro d x w' hS hdi hv hp hcl K hK
            have dg : x 2 = .bool false := hv 2 (hp 2 (by kernel_rfl))
            have hS1 : PlS wq X (d 37) (x 37) w' := hS
            refine want_yes (by unfold pnA; rw [dg]; rfl) ?_
            unfold pnA at hK ⊢
            simp only [dg] at hK ⊢
            go_wp2
            exact hK (.slice A 0 cap) w' (show PlS wq X (d 37) (x 37) w' from hS1) rfl
          · intro d x w' hS hdi hv hp hcl K hK
            have d0 : x 4 = .slice A 0 cap := hv 4 (hp 4 (by kernel_rfl))
            have dg : x 2 = .bool false := hv 2 (hp 2 (by kernel_rfl))
            have hS1 : PlS wq X (d 37) (x 37) w' := hS
            refine want_yes (by unfold pnA; rw [dg]; rfl) ?_
            unfold pnA at hK ⊢
            simp only [d0, dg] at hK ⊢
            go_wp2
            exact hK (.int .i64 0) w' (show PlS wq X (d 37) (x 37) w' from hS1) rfl
          · intro d x w' hS hdi hv hp hcl K hK
            have d0 : x 5 = .int .i64 0 := hv 5 (hp 5 (by kernel_rfl))
            have dg : x 2 = .bool false := hv 2 (hp 2 (by kernel_rfl))
            have hS1 : PlS wq X (d 37) (x 37) w' := hS
            refine want_yes (by unfold pnA; rw [dg]; rfl) ?_
            unfold pnA at hK ⊢
            simp only [d0, dg] at hK ⊢
            go_wp2
            exact hK (.bool false) w' (show PlS wq X (d 37) (x 37) w' from hS1) rfl
          · intro d x w' hS hdi hv hp hcl K hK
            have d0 : x 3 = .bool false := hv 3 (hp 3 (by kernel_rfl))
            have d1 : x 6 = .bool false := hv 6 (hp 6 (by kernel_rfl))
            have dg : x 2 = .bool false := hv 2 (hp 2 (by kernel_rfl))
            have hS1 : PlS wq X (d 37) (x 37) w' := hS
            refine want_yes (by unfold pnA; rw [dg]; rfl) ?_
            unfold pnA at hK ⊢
            simp only [d0, d1, dg] at hK ⊢
            go_wp2
            exact hK (.bool false) w' (show PlS wq X (d 37) (x 37) w' from hS1) rfl
          · intro d x w' hS hdi hv hp hcl K hK
            have d0 : x 2 = .bool false := hv 2 (hp 2 (by kernel_rfl))
            have d1 : x 7 = .bool false := hv 7 (hp 7 (by kernel_rfl))
            have hS1 : PlS wq X (d 37) (x 37) w' := hS
            refine want_yes (rfl) ?_
            unfold pnA at hK ⊢
            simp only [d0, d1] at hK ⊢
            go_wp2
            exact hK (.bool false) w' (show PlS wq X (d 37) (x 37) w' from hS1) rfl
          · intro d x w' hS hdi hv hp hcl K hK
            have d0 : x 8 = .bool false := hv 8 (hp 8 (by kernel_rfl))
            have hS1 : PlS wq X (d 37) (x 37) w' := hS
            refine want_yes (rfl) ?_
            unfold pnA at hK ⊢
            simp only [d0] at hK ⊢
            go_wp2
            exact hK (.bool false) w' (show PlS wq X (d 37) (x 37) w' from hS1) rfl
          · intro d x w' hS hdi hv hp hcl K hK
            have dg : x 9 = .bool false := hv 9 (hp 9 (by kernel_rfl))
            have hS1 : PlS wq X (d 37) (x 37) w' := hS
            refine want_yes (by unfold pnA; rw [dg]; rfl) ?_
            unfold pnA at hK ⊢
            simp only [dg] at hK ⊢
            go_wp2
            exact hK (.bool false) w' (show PlS wq X (d 37) (x 37) w' from hS1) rfl
          · intro d x w' hS hdi hv hp hcl K hK
            have d0 : x 10 = .bool false := hv 10 (hp 10 (by kernel_rfl))
            have dg : x 9 = .bool false := hv 9 (hp 9 (by kernel_rfl))
            have hS1 : PlS wq X (d 37) (x 37) w' := hS
            refine want_yes (by unfold pnA; rw [dg]; rfl) ?_
            unfold pnA at hK ⊢
            simp only [d0, dg] at hK ⊢
            go_wp2
            exact hK (.bool false) w' (show PlS wq X (d 37) (x 37) w' from hS1) rfl
          · intro d x w' hS hdi hv hp hcl K hK
            have dg : x 11 = .bool false := hv 11 (hp 11 (by kernel_rfl))
            exact want_no (by unfold pnA; rw [dg]; exact Bool.false_ne_true) (hK undef w' (show PlS wq X (d 37) (x 37) w' from hS) trivial)
          · intro d x w' hS hdi hv hp hcl K hK
            have dg : x 11 = .bool false := hv 11 (hp 11 (by kernel_rfl))
            exact want_no (by unfold pnA; rw [dg]; exact Bool.false_ne_true) (hK undef w' (show PlS wq X (d 37) (x 37) w' from hS) trivial)
          · intro d x w' hS hdi hv hp hcl K hK
            have dg : x 11 = .bool false := hv 11 (hp 11 (by kernel_rfl))
            exact want_no (by unfold pnA; rw [dg]; exact Bool.false_ne_true) (hK undef w' (show PlS wq X (d 37) (x 37) w' from hS) trivial)
          · intro d x w' hS hdi hv hp hcl K hK
            have dg : x 11 = .bool false := hv 11 (hp 11 (by kernel_rfl))
            exact want_no (by unfold pnA; rw [dg]; exact Bool.false_ne_true) (hK undef w' (show PlS wq X (d 37) (x 37) w' from hS) trivial)
          · intro d x w' hS hdi hv hp hcl K hK
            have dg : x 11 = .bool false := hv 11 (hp 11 (by kernel_rfl))
            exact want_no (by unfold pnA; rw [dg]; exact Bool.false_ne_true) (hK undef w' (show PlS wq X (d 37) (x 37) w' from hS) trivial)
          · intro d x w' hS hdi hv hp hcl K hK
            have d0 : x 11 = .bool false := hv 11 (hp 11 (by kernel_rfl))
            have dg : x 9 = .bool false := hv 9 (hp 9 (by kernel_rfl))
            have hS1 : PlS wq X (d 37) (x 37) w' := hS
            refine want_yes (by unfold pnA; rw [dg]; rfl) ?_
            unfold pnA at hK ⊢
            simp only [d0, dg] at hK ⊢
            go_wp2
            exact hK (.bool false) w' (show PlS wq X (d 37) (x 37) w' from hS1) rfl
          · intro d x w' hS hdi hv hp hcl K hK
            have d0 : x 9 = .bool false := hv 9 (hp 9 (by kernel_rfl))
            have d1 : x 17 = .bool false := hv 17 (hp 17 (by kernel_rfl))
            have hS1 : PlS wq X (d 37) (x 37) w' := hS
            refine want_yes (rfl) ?_
            unfold pnA at hK ⊢
            simp only [d0, d1] at hK ⊢
            go_wp2
            exact hK (.bool false) w' (show PlS wq X (d 37) (x 37) w' from hS1) rfl
          · intro d x w' hS hdi hv hp hcl K hK
            have d0 : x 18 = .bool false := hv 18 (hp 18 (by kernel_rfl))
            have hS1 : PlS wq X (d 37) (x 37) w' := hS
            refine want_yes (rfl) ?_
            unfold pnA at hK ⊢
            simp only [d0] at hK ⊢
            go_wp2
            exact hK (.bool false) w' (show PlS wq X (d 37) (x 37) w' from hS1) rfl
          · intro d x w' hS hdi hv hp hcl K hK
            have dg : x 19 = .bool false := hv 19 (hp 19 (by kernel_rfl))
            have hS1 : PlS wq X (d 37) (x 37) w' := hS
            refine want_yes (by unfold pnA; rw [dg]; rfl) ?_
            unfold pnA at hK ⊢
            simp only [dg] at hK ⊢
            go_wp2
            exact hK (.bool false) w' (show PlS wq X (d 37) (x 37) w' from hS1) rfl
          · intro d x w' hS hdi hv hp hcl K hK
            have d0 : x 20 = .bool false := hv 20 (hp 20 (by kernel_rfl))
            have dg : x 19 = .bool false := hv 19 (hp 19 (by kernel_rfl))
            have hS1 : PlS wq X (d 37) (x 37) w' := hS
            refine want_yes (by unfold pnA; rw [dg]; rfl) ?_
            unfold pnA at hK ⊢
            simp only [d0, dg] at hK ⊢
            go_wp2
            exact hK (.bool true) w' (show PlS wq X (d 37) (x 37) w' from hS1) rfl
          · intro d x w' hS hdi hv hp hcl K hK
            have d0 : x 21 = .bool true := hv 21 (hp 21 (by kernel_rfl))
            have dg : x 19 = .bool false := hv 19 (hp 19 (by kernel_rfl))
            have hS1 : PlS wq X (d 37) (x 37) w' := hS
            refine want_yes (by unfold pnA; rw [dg]; rfl) ?_
            unfold pnA at hK ⊢
            simp only [d0, dg] at hK ⊢
            go_wp2
            exact hK (.bool true) w' (show PlS wq X (d 37) (x 37) w' from hS1) rfl
          · intro d x w' hS hdi hv hp hcl K hK
            have dg : x 22 = .bool true := hv 22 (hp 22 (by kernel_rfl))
            have hS1 : PlS wq X (d 37) (x 37) w' := hS
            have z0 := obj_cell (obj_below HQ2.out hS1.b) 0
            have z1 := obj_cell (obj_below HQ2.out hS1.b) 1
            simp only [List.getElem?_toArray, List.getElem?_cons_zero, List.getElem?_cons_succ] at z0 z1
            refine want_yes (by unfold pnA; rw [dg]; rfl) ?_
            unfold pnA at hK ⊢
            simp only [dg] at hK ⊢
            go_wp2
            exact hK (.agg #[.int .i64 0, .int .i64 0]) w' (show PlS wq X (d 37) (x 37) w' from hS1) rfl
          · intro d x w' hS hdi hv hp hcl K hK
            have dg : x 22 = .bool true := hv 22 (hp 22 (by kernel_rfl))
            have hS1 : PlS wq X (d 37) (x 37) w' := hS
            refine want_yes (by unfold pnA; rw [dg]; rfl) ?_
            unfold pnA at hK ⊢
            simp only [dg] at hK ⊢
            go_wp2
            exact hK (.agg #[.int .i64 0, .int .i64 0]) w' (show PlS wq X (d 37) (x 37) w' from hS1) rfl
          · intro d x w' hS hdi hv hp hcl K hK
            have d0 : x 23 = .agg #[.int .i64 0, .int .i64 0] := hv 23 (hp 23 (by kernel_rfl))
            have d1 : x 24 = .agg #[.int .i64 0, .int .i64 0] := hv 24 (hp 24 (by kernel_rfl))
            have dg : x 22 = .bool true := hv 22 (hp 22 (by kernel_rfl))
            have hS1 : PlS wq X (d 37) (x 37) w' := hS
            refine want_yes (by unfold pnA; rw [dg]; rfl) ?_
            unfold pnA at hK ⊢
            simp only [d0, d1, dg] at hK ⊢
            go_wp2
            exact hK (.bool false) w' (show PlS wq X (d 37) (x 37) w' from hS1) rfl
          · intro d x w' hS hdi hv hp hcl K hK
            have d0 : x 22 = .bool true := hv 22 (hp 22 (by kernel_rfl))
            have d1 : x 25 = .bool false := hv 25 (hp 25 (by kernel_rfl))
            have dg : x 19 = .bool false := hv 19 (hp 19 (by kernel_rfl))
            have hS1 : PlS wq X (d 37) (x 37) w' := hS
            refine want_yes (by unfold pnA; rw [dg]; rfl) ?_
            unfold pnA at hK ⊢
            simp only [d0, d1, dg] at hK ⊢
            go_wp2
            exact hK (.bool false) w' (show PlS wq X (d 37) (x 37) w' from hS1) rfl
          · intro d x w' hS hdi hv hp hcl K hK
            have d0 : x 19 = .bool false := hv 19 (hp 19 (by kernel_rfl))
            have d1 : x 26 = .bool false := hv 26 (hp 26 (by kernel_rfl))
            have hS1 : PlS wq X (d 37) (x 37) w' := hS
            refine want_yes (rfl) ?_
            unfold pnA at hK ⊢
            simp only [d0, d1] at hK ⊢
            go_wp2
            exact hK (.bool false) w' (show PlS wq X (d 37) (x 37) w' from hS1) rfl
          · intro d x w' hS hdi hv hp hcl K hK
            have d0 : x 27 = .bool false := hv 27 (hp 27 (by kernel_rfl))
            have hS1 : PlS wq X (d 37) (x 37) w' := hS
            refine want_yes (rfl) ?_
            unfold pnA at hK ⊢
            simp only [d0] at hK ⊢
            go_wp2
            exact hK (.bool false) w' (show PlS wq X (d 37) (x 37) w' from hS1) rfl
          · intro d x w' hS hdi hv hp hcl K hK
            have dg : x 28 = .bool false := hv 28 (hp 28 (by kernel_rfl))
            have hS1 : PlS wq X (d 37) (x 37) w' := hS
            refine want_yes (by unfold pnA; rw [dg]; rfl) ?_
            unfold pnA at hK ⊢
            simp only [dg] at hK ⊢
            go_wp2
            exact hK (.pointer (some ⟨t, 0, none⟩)) w' (show PlS wq X (d 37) (x 37) w' from hS1) rfl
          · intro d x w' hS hdi hv hp hcl K hK
            have d0 : x 29 = .pointer (some ⟨t, 0, none⟩) := hv 29 (hp 29 (by kernel_rfl))
            have dg : x 28 = .bool false := hv 28 (hp 28 (by kernel_rfl))
            have hS1 : PlS wq X (d 37) (x 37) w' := hS
            refine want_yes (by unfold pnA; rw [dg]; rfl) ?_
            unfold pnA at hK ⊢
            simp only [d0, dg] at hK ⊢
            go_wp2_with fail
            refine (tlen_any (HTX.out.below hS1.b)).mono ?_
            rintro e w3 ⟨rfl, rfl⟩
            rw [← HN.out]
            exact hK (.int .i64 0) _ (show PlS wq X (d 37) (x 37) _ from hS1) rfl
          · intro d x w' hS hdi hv hp hcl K hK
            have dg : x 28 = .bool false := hv 28 (hp 28 (by kernel_rfl))
            have hS1 : PlS wq X (d 37) (x 37) w' := hS
            refine want_yes (by unfold pnA; rw [dg]; rfl) ?_
            unfold pnA at hK ⊢
            simp only [dg] at hK ⊢
            go_wp2
            exact hK (.slice A 0 cap) w' (show PlS wq X (d 37) (x 37) w' from hS1) rfl
          · intro d x w' hS hdi hv hp hcl K hK
            have d0 : x 31 = .slice A 0 cap := hv 31 (hp 31 (by kernel_rfl))
            have dg : x 28 = .bool false := hv 28 (hp 28 (by kernel_rfl))
            have hS1 : PlS wq X (d 37) (x 37) w' := hS
            refine want_yes (by unfold pnA; rw [dg]; rfl) ?_
            unfold pnA at hK ⊢
            simp only [d0, dg] at hK ⊢
            go_wp2
            exact hK (.int .i64 0) w' (show PlS wq X (d 37) (x 37) w' from hS1) rfl
          · intro d x w' hS hdi hv hp hcl K hK
            have d0 : x 30 = .int .i64 0 := hv 30 (hp 30 (by kernel_rfl))
            have d1 : x 32 = .int .i64 0 := hv 32 (hp 32 (by kernel_rfl))
            have dg : x 28 = .bool false := hv 28 (hp 28 (by kernel_rfl))
            have hS1 : PlS wq X (d 37) (x 37) w' := hS
            refine want_yes (by unfold pnA; rw [dg]; rfl) ?_
            unfold pnA at hK ⊢
            simp only [d0, d1, dg] at hK ⊢
            go_wp2
            exact hK (.bool false) w' (show PlS wq X (d 37) (x 37) w' from hS1) rfl
          · intro d x w' hS hdi hv hp hcl K hK
            have d0 : x 28 = .bool false := hv 28 (hp 28 (by kernel_rfl))
            have d1 : x 33 = .bool false := hv 33 (hp 33 (by kernel_rfl))
            have hS1 : PlS wq X (d 37) (x 37) w' := hS
            refine want_yes (rfl) ?_
            unfold pnA at hK ⊢
            simp only [d0, d1] at hK ⊢
            go_wp2
            exact hK (.bool false) w' (show PlS wq X (d 37) (x 37) w' from hS1) rfl
          · intro d x w' hS hdi hv hp hcl K hK
            have d0 : x 34 = .bool false := hv 34 (hp 34 (by kernel_rfl))
            have hS1 : PlS wq X (d 37) (x 37) w' := hS
            refine want_yes (rfl) ?_
            unfold pnA at hK ⊢
            simp only [d0] at hK ⊢
            go_wp2
            exact hK (.bool false) w' (show PlS wq X (d 37) (x 37) w' from hS1) rfl
          · intro d x w' hS hdi hv hp hcl K hK
            have dg : x 35 = .bool false := hv 35 (hp 35 (by kernel_rfl))
            have hS1 : PlS wq X (d 37) (x 37) w' := hS
            refine want_yes (by unfold pnA; rw [dg]; rfl) ?_
            unfold pnA at hK ⊢
            simp only [dg] at hK ⊢
            go_wp2
            exact hK (.pointer (some ⟨t, 0, none⟩)) w' (show PlS wq X (d 37) (x 37) w' from hS1) rfl
          · intro d x w' hS hdi hv hp hcl K hK
            have d0 : x 36 = .pointer (some ⟨t, 0, none⟩) := hv 36 (hp 36 (by kernel_rfl))
            have dg : x 35 = .bool false := hv 35 (hp 35 (by kernel_rfl))
            have hS1 : PlS wq X (d 37) (x 37) w' := hS
            refine want_yes (by unfold pnA; rw [dg]; rfl) ?_
            unfold pnA at hK ⊢
            simp only [d0, dg] at hK ⊢
            go_wp2_with fail
            refine (tall_any (HTX.out.below hS1.b) HX.out).mono ?_
            rintro e w3 ⟨av, rfl, hr, hb⟩
            exact hK av w3 (show PlS wq X true av w3 from ⟨hS1.b.trans (hb.mono hS1.b.size), fun _ => EK.row_base hr hS1.b.size⟩) trivial
          · intro d x w' hS hdi hv hp hcl K hK
            have dg : x 35 = .bool false := hv 35 (hp 35 (by kernel_rfl))
            have hS1 : PlS wq X (d 37) (x 37) w' := hS
            refine want_yes (by unfold pnA; rw [dg]; rfl) ?_
            unfold pnA at hK ⊢
            simp only [dg] at hK ⊢
            go_wp2
            exact hK (.slice A 0 cap) w' (show PlS wq X (d 37) (x 37) w' from hS1) rfl
          · intro d x w' hS hdi hv hp hcl K hK
            have d1 : x 38 = .slice A 0 cap := hv 38 (hp 38 (by kernel_rfl))
            have dg : x 35 = .bool false := hv 35 (hp 35 (by kernel_rfl))
            have hS1 : PlS wq X (d 37) (x 37) w' := hS
            have y37 : d 37 = true := hp 37 (by kernel_rfl)
            refine want_yes (by unfold pnA; rw [dg]; rfl) ?_
            unfold pnA at hK ⊢
            simp only [d1, dg] at hK ⊢
            go_wp2_with fail
            refine (rsame_yes (hS1.r y37) (EK.row_below HRV.out hS1.b)).mono ?_
            rintro e w3 ⟨rfl, hb⟩
            exact hK (.bool true) w3 (show PlS wq X (d 37) (x 37) w3 from ⟨hS1.b.trans (hb.mono hS1.b.size), fun e => EK.row_below (hS1.r e) hb⟩) rfl
          · intro d x w' hS hdi hv hp hcl K hK
            have d0 : x 39 = .bool true := hv 39 (hp 39 (by kernel_rfl))
            have dg : x 35 = .bool false := hv 35 (hp 35 (by kernel_rfl))
            have hS1 : PlS wq X (d 37) (x 37) w' := hS
            refine want_yes (by unfold pnA; rw [dg]; rfl) ?_
            unfold pnA at hK ⊢
            simp only [d0, dg] at hK ⊢
            go_wp2
            exact hK (.bool false) w' (show PlS wq X (d 37) (x 37) w' from hS1) rfl
          · intro d x w' hS hdi hv hp hcl K hK
            have d0 : x 35 = .bool false := hv 35 (hp 35 (by kernel_rfl))
            have d1 : x 40 = .bool false := hv 40 (hp 40 (by kernel_rfl))
            have hS1 : PlS wq X (d 37) (x 37) w' := hS
            refine want_yes (rfl) ?_
            unfold pnA at hK ⊢
            simp only [d0, d1] at hK ⊢
            go_wp2
            exact hK (.bool false) w' (show PlS wq X (d 37) (x 37) w' from hS1) rfl
        · intro u hu d x w5 hS hd hv
          have HU := hide hu
          have hS1 : PlS wq X (d 37) (x 37) w5 := hS
          have e41 : x 41 = .bool false := hv 41 (by decide)
          have HRES := hide (show Pl0 w t p c ll w5 (.slice A 0 cap) (.int .i64 ((k : Int) + 1)) from ⟨k + 1, rfl, hkl, v', X, HTX.out.below hS1.b, HX.out, EK.row_below HRV.out hS1.b, HNE.out, HBW.out.trans (hS1.b.mono HBW.out.size)⟩)
          clear hS hS1 hd hv hu
          unfold pnA
          simp only [e41]
          go_wp2_with fail
          refine ⟨?_, ?_⟩
          · rw [HU.out]
            (repeat apply Exists.intro)
            exact ⟨HRES.out, rfl⟩
          · show ll - (intOf (.int .i64 ((k : Int) + 1))).toNat < ll - (intOf (.int .i64 (k : Int))).toNat
            simp only [intOf]
            omega
      · simp only [tHead] at HNX
        obtain ⟨X, hX⟩ : ∃ X, X = h0 :: X' := ⟨_, rfl⟩
        rw [← hX] at HT HX HR
        obtain ⟨r, cap, e1, hz1, hz2, -, -, hc0⟩ := EK.row_cells HR.out (k := 0) (by rw [hX]; simp)
        obtain ⟨n, hn⟩ : ∃ n, n = X.length := ⟨_, rfl⟩
        rw [← hn] at e1 hz1
        subst e1
        have HN := hide hn
        have hn0 : 0 < n := by rw [hn, hX]; simp
        have hn0i : (0 : Int) < (n : Int) := by omega
        simp only [maxLen] at hz2
        have g0 := hc0 0 (by decide)
        have g1 := hc0 1 (by decide)
        simp only [hX, List.getElem_cons_zero, kT, List.getElem?_cons_zero, List.getElem?_cons_succ, Nat.add_zero, Nat.zero_mul] at g0 g1
        clear hc0 hn hX ht hx hr hne hb
        go_wp2_with fail
        refine HNX.out.mono ?_
        rintro e w4 ⟨rfl, hb4⟩
        have hal := hb4.alloc hb4.size (.cells #[.int .i64 h0.id, .int .i64 h0.at_] 44)
        have oq := obj_new w4 (.cells #[.int .i64 h0.id, .int .i64 h0.at_] 44)
        have HTX := hide (HT.out.below hal)
        have HRV := hide (EK.row_below HR.out hal)
        have HBW := hide (HB.out.trans (hal.mono HB.out.size))
        have hrl := (EK.row_typed HR.out (k := r) rfl).2.1
        have hrl2 : r < (w4.alloc (.cells #[.int .i64 h0.id, .int .i64 h0.at_] 44)).heap.size := Nat.lt_of_lt_of_le hrl hal.size
        have HRL0 := hide (show r < (w4.alloc (.cells #[.int .i64 h0.id, .int .i64 h0.at_] 44)).heap.size ∧ (w4.alloc (.cells #[.int .i64 h0.id, .int .i64 h0.at_] 44)).cell? ⟨r, 0, none⟩ = some (.int .i64 h0.id) ∧ (w4.alloc (.cells #[.int .i64 h0.id, .int .i64 h0.at_] 44)).cell? ⟨r, 0 + 1, none⟩ = some (.int .i64 h0.at_) from ⟨hrl2, (hal.cell hrl).trans g0, (hal.cell hrl).trans g1⟩)
        clear hb4 hal hrl hrl2 g0 g1
        go_wp2_with fail
        obtain ⟨q2, hq2⟩ : ∃ q, q = w4.heap.size := ⟨_, rfl⟩
        rw [← hq2] at oq ⊢
        clear hq2
        generalize hwq : w4.alloc (.cells #[.int .i64 h0.id, .int .i64 h0.at_] 44) = wq at oq HTX HRV HBW HRL0 ⊢
        clear hwq
        have HQ2 := hide oq
        have HRL := HRL0
        clear oq
        refine wp_region_e (pcA t q2 r n cap k) (fun j => #[90, 91, 92, 93, 94, 95, 96, 97, 98, 99, 100, 101, 102, 103, 104, 105, 106, 107, 108, 109, 110, 111, 112, 113, 114, 115, 116, 117, 118, 119, 120, 121, 122, 123, 124, 125, 126, 127, 128, 129, 130, 131].getD j 0) (fun d x w' => PlS wq X (d 37) (x 37) w') (fun qi qv => pcV t r n cap h0 qi qv) (by kernel_rfl) (by kernel_rfl) rfl ⟨(Below.refl _ _).drew, fun e => by cases e⟩ ?_ ?_ ?_
        · exact fun u => ⟨fun x v => rfl, fun x v => rfl, fun x v => rfl, fun x v => rfl, fun x v => rfl, fun x v => rfl, fun x v => rfl, fun x v => rfl, fun x v => rfl, fun x v => rfl, fun x v => rfl, fun x v => rfl, fun x v => rfl, fun x v => rfl, fun x v => rfl, fun x v => rfl, fun x v => rfl, fun x v => rfl, fun x v => rfl, fun x v => rfl, fun x v => rfl, fun x v => rfl, fun x v => rfl, fun x v => rfl, fun x v => rfl, fun x v => rfl, fun x v => rfl, fun x v => rfl, fun x v => rfl, fun x v => rfl, fun x v => rfl, fun x v => rfl, fun x v => rfl, fun x v => rfl, fun x v => rfl, fun x v => rfl, fun x v => rfl, fun x v => rfl, fun x v => rfl, fun x v => rfl, fun x v => rfl, fun x v => rfl, trivial⟩
        · refine fun u => ⟨?_, ?_, ?_, ?_, ?_, ?_, ?_, ?_, ?_, ?_, ?_, ?_, ?_, ?_, ?_, ?_, ?_, ?_, ?_, ?_, ?_, ?_, ?_, ?_, ?_, ?_, ?_, ?_, ?_, ?_, ?_, ?_, ?_, ?_, ?_, ?_, ?_, ?_, ?_, ?_, ?_, ?_, trivial⟩
          · intro d x w' hS hdi hv hp hcl K hK
            have hS1 : PlS wq X (d 37) (x 37) w' := hS
            refine want_yes (rfl) ?_
            unfold pcA at hK ⊢
            go_wp2
            exact hK (.bool true) w' (show PlS wq X (d 37) (x 37) w' from hS1) rfl
          · intro d x w' hS hdi hv hp hcl K hK
            have d0 : x 0 = .bool true := hv 0 (hp 0 (by kernel_rfl))
            have hS1 : PlS wq X (d 37) (x 37) w' := hS
            refine want_yes (rfl) ?_
            unfold pcA at hK ⊢
            simp only [d0] at hK ⊢
            go_wp2
            exact hK (.bool false) w' (show PlS wq X (d 37) (x 37) w' from hS1) rfl
          · intro d x w' hS hdi hv hp hcl K hK
            have d0 : x 1 = .bool false := hv 1 (hp 1 (by kernel_rfl))
            have hS1 : PlS wq X (d 37) (x 37) w' := hS
            refine want_yes (rfl) ?_
            unfold pcA at hK ⊢
            simp only [d0] at hK ⊢
            go_wp2
            exact hK (.bool false) w' (show PlS wq X (d 37) (x 37) w' from hS1) rfl
          · intro d x w' hS hdi hv hp hcl K hK
            have dg : x 2 = .bool false := hv 2 (hp 2 (by kernel_rfl))
            have hS1 : PlS wq X (d 37) (x 37) w' := hS
            refine want_yes (by unfold pcA; rw [dg]; rfl) ?_
            unfold pcA at hK ⊢
            simp only [dg] at hK ⊢
            go_wp2
            exact hK (.bool true) w' (show PlS wq X (d 37) (x 37) w' from hS1) rfl
          · intro d x w' hS hdi hv hp hcl K hK
            have dg : x 2 = .bool false := hv 2 (hp 2 (by kernel_rfl))
            have hS1 : PlS wq X (d 37) (x 37) w' := hS
            refine want_yes (by unfold pcA; rw [dg]; rfl) ?_
            unfold pcA at hK ⊢
            simp only [dg] at hK ⊢
            go_wp2
            exact hK (.slice (some ⟨r, 0, none⟩) n cap) w' (show PlS wq X (d 37) (x 37) w' from hS1) rfl
          · intro d x w' hS hdi hv hp hcl K hK
            have d0 : x 4 = .slice (some ⟨r, 0, none⟩) n cap := hv 4 (hp 4 (by kernel_rfl))
            have dg : x 2 = .bool false := hv 2 (hp 2 (by kernel_rfl))
            have hS1 : PlS wq X (d 37) (x 37) w' := hS
            refine want_yes (by unfold pcA; rw [dg]; rfl) ?_
            unfold pcA at hK ⊢
            simp only [d0, dg] at hK ⊢
            go_wp2
            exact hK (.int .i64 (n : Int)) w' (show PlS wq X (d 37) (x 37) w' from hS1) rfl
          · intro d x w' hS hdi hv hp hcl K hK
            have d0 : x 5 = .int .i64 (n : Int) := hv 5 (hp 5 (by kernel_rfl))
            have dg : x 2 = .bool false := hv 2 (hp 2 (by kernel_rfl))
            have hS1 : PlS wq X (d 37) (x 37) w' := hS
            refine want_yes (by unfold pcA; rw [dg]; rfl) ?_
            unfold pcA at hK ⊢
            simp only [d0, dg] at hK ⊢
            go_wp2
            exact hK (.bool true) w' (show PlS wq X (d 37) (x 37) w' from hS1) rfl
          · intro d x w' hS hdi hv hp hcl K hK
            have d0 : x 3 = .bool true := hv 3 (hp 3 (by kernel_rfl))
            have d1 : x 6 = .bool true := hv 6 (hp 6 (by kernel_rfl))
            have dg : x 2 = .bool false := hv 2 (hp 2 (by kernel_rfl))
            have hS1 : PlS wq X (d 37) (x 37) w' := hS
            refine want_yes (by unfold pcA; rw [dg]; rfl) ?_
            unfold pcA at hK ⊢
            simp only [d0, d1, dg] at hK ⊢
            go_wp2
            exact hK (.bool false) w' (show PlS wq X (d 37) (x 37) w' from hS1) rfl
          · intro d x w' hS hdi hv hp hcl K hK
            have d0 : x 2 = .bool false := hv 2 (hp 2 (by kernel_rfl))
            have d1 : x 7 = .bool false := hv 7 (hp 7 (by kernel_rfl))
            have hS1 : PlS wq X (d 37) (x 37) w' := hS
            refine want_yes (rfl) ?_
            unfold pcA at hK ⊢
            simp only [d0, d1] at hK ⊢
            go_wp2
            exact hK (.bool false) w' (show PlS wq X (d 37) (x 37) w' from hS1) rfl
          · intro d x w' hS hdi hv hp hcl K hK
            have d0 : x 8 = .bool false := hv 8 (hp 8 (by kernel_rfl))
            have hS1 : PlS wq X (d 37) (x 37) w' := hS
            refine want_yes (rfl) ?_
            unfold pcA at hK ⊢
            simp only [d0] at hK ⊢
            go_wp2
            exact hK (.bool false) w' (show PlS wq X (d 37) (x 37) w' from hS1) rfl
          · intro d x w' hS hdi hv hp hcl K hK
            have dg : x 9 = .bool false := hv 9 (hp 9 (by kernel_rfl))
            have hS1 : PlS wq X (d 37) (x 37) w' := hS
            refine want_yes (by unfold pcA; rw [dg]; rfl) ?_
            unfold pcA at hK ⊢
            simp only [dg] at hK ⊢
            go_wp2
            exact hK (.bool true) w' (show PlS wq X (d 37) (x 37) w' from hS1) rfl
          · intro d x w' hS hdi hv hp hcl K hK
            have d0 : x 10 = .bool true := hv 10 (hp 10 (by kernel_rfl))
            have dg : x 9 = .bool false := hv 9 (hp 9 (by kernel_rfl))
            have hS1 : PlS wq X (d 37) (x 37) w' := hS
            refine want_yes (by unfold pcA; rw [dg]; rfl) ?_
            unfold pcA at hK ⊢
            simp only [d0, dg] at hK ⊢
            go_wp2
            exact hK (.bool true) w' (show PlS wq X (d 37) (x 37) w' from hS1) rfl
          · intro d x w' hS hdi hv hp hcl K hK
            have dg : x 11 = .bool true := hv 11 (hp 11 (by kernel_rfl))
            have hS1 : PlS wq X (d 37) (x 37) w' := hS
            have z0 := obj_cell (obj_below HQ2.out hS1.b) 0
            have z1 := obj_cell (obj_below HQ2.out hS1.b) 1
            simp only [List.getElem?_toArray, List.getElem?_cons_zero, List.getElem?_cons_succ] at z0 z1
            refine want_yes (by unfold pcA; rw [dg]; rfl) ?_
            unfold pcA at hK ⊢
            simp only [dg] at hK ⊢
            go_wp2
            exact hK (.agg #[.int .i64 h0.id, .int .i64 h0.at_]) w' (show PlS wq X (d 37) (x 37) w' from hS1) rfl
          · intro d x w' hS hdi hv hp hcl K hK
            have dg : x 11 = .bool true := hv 11 (hp 11 (by kernel_rfl))
            have hS1 : PlS wq X (d 37) (x 37) w' := hS
            refine want_yes (by unfold pcA; rw [dg]; rfl) ?_
            unfold pcA at hK ⊢
            simp only [dg] at hK ⊢
            go_wp2
            exact hK (.slice (some ⟨r, 0, none⟩) n cap) w' (show PlS wq X (d 37) (x 37) w' from hS1) rfl
          · intro d x w' hS hdi hv hp hcl K hK
            have d0 : x 13 = .slice (some ⟨r, 0, none⟩) n cap := hv 13 (hp 13 (by kernel_rfl))
            have dg : x 11 = .bool true := hv 11 (hp 11 (by kernel_rfl))
            have hS1 : PlS wq X (d 37) (x 37) w' := hS
            refine want_yes (by unfold pcA; rw [dg]; rfl) ?_
            unfold pcA at hK ⊢
            simp only [d0, dg] at hK ⊢
            go_wp2
            exact hK (.pointer (some ⟨r, 0, none⟩)) w' (show PlS wq X (d 37) (x 37) w' from hS1) rfl
          · intro d x w' hS hdi hv hp hcl K hK
            have d0 : x 14 = .pointer (some ⟨r, 0, none⟩) := hv 14 (hp 14 (by kernel_rfl))
            have dg : x 11 = .bool true := hv 11 (hp 11 (by kernel_rfl))
            have hS1 : PlS wq X (d 37) (x 37) w' := hS
            have z0 := (hS1.b.cell (p := ⟨r, 0, none⟩) HRL.out.1).trans HRL.out.2.1
            have z1 := (hS1.b.cell (p := ⟨r, 0 + 1, none⟩) HRL.out.1).trans HRL.out.2.2
            refine want_yes (by unfold pcA; rw [dg]; rfl) ?_
            unfold pcA at hK ⊢
            simp only [d0, dg] at hK ⊢
            go_wp2
            exact hK (.agg #[.int .i64 h0.id, .int .i64 h0.at_]) w' (show PlS wq X (d 37) (x 37) w' from hS1) rfl
          · intro d x w' hS hdi hv hp hcl K hK
            have d0 : x 12 = .agg #[.int .i64 h0.id, .int .i64 h0.at_] := hv 12 (hp 12 (by kernel_rfl))
            have d1 : x 15 = .agg #[.int .i64 h0.id, .int .i64 h0.at_] := hv 15 (hp 15 (by kernel_rfl))
            have dg : x 11 = .bool true := hv 11 (hp 11 (by kernel_rfl))
            have hS1 : PlS wq X (d 37) (x 37) w' := hS
            refine want_yes (by unfold pcA; rw [dg]; rfl) ?_
            unfold pcA at hK ⊢
            simp only [d0, d1, dg] at hK ⊢
            go_wp2
            exact hK (.bool false) w' (show PlS wq X (d 37) (x 37) w' from hS1) rfl
          · intro d x w' hS hdi hv hp hcl K hK
            have d0 : x 11 = .bool true := hv 11 (hp 11 (by kernel_rfl))
            have d1 : x 16 = .bool false := hv 16 (hp 16 (by kernel_rfl))
            have dg : x 9 = .bool false := hv 9 (hp 9 (by kernel_rfl))
            have hS1 : PlS wq X (d 37) (x 37) w' := hS
            refine want_yes (by unfold pcA; rw [dg]; rfl) ?_
            unfold pcA at hK ⊢
            simp only [d0, d1, dg] at hK ⊢
            go_wp2
            exact hK (.bool false) w' (show PlS wq X (d 37) (x 37) w' from hS1) rfl
          · intro d x w' hS hdi hv hp hcl K hK
            have d0 : x 9 = .bool false := hv 9 (hp 9 (by kernel_rfl))
            have d1 : x 17 = .bool false := hv 17 (hp 17 (by kernel_rfl))
            have hS1 : PlS wq X (d 37) (x 37) w' := hS
            refine want_yes (rfl) ?_
            unfold pcA at hK ⊢
            simp only [d0, d1] at hK ⊢
            go_wp2
            exact hK (.bool false) w' (show PlS wq X (d 37) (x 37) w' from hS1) rfl
          · intro d x w' hS hdi hv hp hcl K hK
            have d0 : x 18 = .bool false := hv 18 (hp 18 (by kernel_rfl))
            have hS1 : PlS wq X (d 37) (x 37) w' := hS
            refine want_yes (rfl) ?_
            unfold pcA at hK ⊢
            simp only [d0] at hK ⊢
            go_wp2
            exact hK (.bool false) w' (show PlS wq X (d 37) (x 37) w' from hS1) rfl
          · intro d x w' hS hdi hv hp hcl K hK
            have dg : x 19 = .bool false := hv 19 (hp 19 (by kernel_rfl))
            have hS1 : PlS wq X (d 37) (x 37) w' := hS
            refine want_yes (by unfold pcA; rw [dg]; rfl) ?_
            unfold pcA at hK ⊢
            simp only [dg] at hK ⊢
            go_wp2
            exact hK (.bool true) w' (show PlS wq X (d 37) (x 37) w' from hS1) rfl
          · intro d x w' hS hdi hv hp hcl K hK
            have d0 : x 20 = .bool true := hv 20 (hp 20 (by kernel_rfl))
            have dg : x 19 = .bool false := hv 19 (hp 19 (by kernel_rfl))
            have hS1 : PlS wq X (d 37) (x 37) w' := hS
            refine want_yes (by unfold pcA; rw [dg]; rfl) ?_
            unfold pcA at hK ⊢
            simp only [d0, dg] at hK ⊢
            go_wp2
            exact hK (.bool false) w' (show PlS wq X (d 37) (x 37) w' from hS1) rfl
          · intro d x w' hS hdi hv hp hcl K hK
            have d0 : x 21 = .bool false := hv 21 (hp 21 (by kernel_rfl))
            have dg : x 19 = .bool false := hv 19 (hp 19 (by kernel_rfl))
            have hS1 : PlS wq X (d 37) (x 37) w' := hS
            refine want_yes (by unfold pcA; rw [dg]; rfl) ?_
            unfold pcA at hK ⊢
            simp only [d0, dg] at hK ⊢
            go_wp2
            exact hK (.bool false) w' (show PlS wq X (d 37) (x 37) w' from hS1) rfl
          · intro d x w' hS hdi hv hp hcl K hK
            have dg : x 22 = .bool false := hv 22 (hp 22 (by kernel_rfl))
            exact want_no (by unfold pcA; rw [dg]; exact Bool.false_ne_true) (hK undef w' (show PlS wq X (d 37) (x 37) w' from hS) trivial)
          · intro d x w' hS hdi hv hp hcl K hK
            have dg : x 22 = .bool false := hv 22 (hp 22 (by kernel_rfl))
            exact want_no (by unfold pcA; rw [dg]; exact Bool.false_ne_true) (hK undef w' (show PlS wq X (d 37) (x 37) w' from hS) trivial)
          · intro d x w' hS hdi hv hp hcl K hK
            have dg : x 22 = .bool false := hv 22 (hp 22 (by kernel_rfl))
            exact want_no (by unfold pcA; rw [dg]; exact Bool.false_ne_true) (hK undef w' (show PlS wq X (d 37) (x 37) w' from hS) trivial)
          · intro d x w' hS hdi hv hp hcl K hK
            have d0 : x 22 = .bool false := hv 22 (hp 22 (by kernel_rfl))
            have dg : x 19 = .bool false := hv 19 (hp 19 (by kernel_rfl))
            have hS1 : PlS wq X (d 37) (x 37) w' := hS
            refine want_yes (by unfold pcA; rw [dg]; rfl) ?_
            unfold pcA at hK ⊢
            simp only [d0, dg] at hK ⊢
            go_wp2
            exact hK (.bool false) w' (show PlS wq X (d 37) (x 37) w' from hS1) rfl
          · intro d x w' hS hdi hv hp hcl K hK
            have d0 : x 19 = .bool false := hv 19 (hp 19 (by kernel_rfl))
            have d1 : x 26 = .bool false := hv 26 (hp 26 (by kernel_rfl))
            have hS1 : PlS wq X (d 37) (x 37) w' := hS
            refine want_yes (rfl) ?_
            unfold pcA at hK ⊢
            simp only [d0, d1] at hK ⊢
            go_wp2
            exact hK (.bool false) w' (show PlS wq X (d 37) (x 37) w' from hS1) rfl
          · intro d x w' hS hdi hv hp hcl K hK
            have d0 : x 27 = .bool false := hv 27 (hp 27 (by kernel_rfl))
            have hS1 : PlS wq X (d 37) (x 37) w' := hS
            refine want_yes (rfl) ?_
            unfold pcA at hK ⊢
            simp only [d0] at hK ⊢
            go_wp2
            exact hK (.bool false) w' (show PlS wq X (d 37) (x 37) w' from hS1) rfl
          · intro d x w' hS hdi hv hp hcl K hK
            have dg : x 28 = .bool false := hv 28 (hp 28 (by kernel_rfl))
            have hS1 : PlS wq X (d 37) (x 37) w' := hS
            refine want_yes (by unfold pcA; rw [dg]; rfl) ?_
            unfold pcA at hK ⊢
            simp only [dg] at hK ⊢
            go_wp2
            exact hK (.pointer (some ⟨t, 0, none⟩)) w' (show PlS wq X (d 37) (x 37) w' from hS1) rfl
          · intro d x w' hS hdi hv hp hcl K hK
            have d0 : x 29 = .pointer (some ⟨t, 0, none⟩) := hv 29 (hp 29 (by kernel_rfl))
            have dg : x 28 = .bool false := hv 28 (hp 28 (by kernel_rfl))
            have hS1 : PlS wq X (d 37) (x 37) w' := hS
            refine want_yes (by unfold pcA; rw [dg]; rfl) ?_
            unfold pcA at hK ⊢
            simp only [d0, dg] at hK ⊢
            go_wp2_with fail
            refine (tlen_any (HTX.out.below hS1.b)).mono ?_
            rintro e w3 ⟨rfl, rfl⟩
            rw [← HN.out]
            exact hK (.int .i64 (n : Int)) _ (show PlS wq X (d 37) (x 37) _ from hS1) rfl
          · intro d x w' hS hdi hv hp hcl K hK
            have dg : x 28 = .bool false := hv 28 (hp 28 (by kernel_rfl))
            have hS1 : PlS wq X (d 37) (x 37) w' := hS
            refine want_yes (by unfold pcA; rw [dg]; rfl) ?_
            unfold pcA at hK ⊢
            simp only [dg] at hK ⊢
            go_wp2
            exact hK (.slice (some ⟨r, 0, none⟩) n cap) w' (show PlS wq X (d 37) (x 37) w' from hS1) rfl
          · intro d x w' hS hdi hv hp hcl K hK
            have d0 : x 31 = .slice (some ⟨r, 0, none⟩) n cap := hv 31 (hp 31 (by kernel_rfl))
            have dg : x 28 = .bool false := hv 28 (hp 28 (by kernel_rfl))
            have hS1 : PlS wq X (d 37) (x 37) w' := hS
            refine want_yes (by unfold pcA; rw [dg]; rfl) ?_
            unfold pcA at hK ⊢
            simp only [d0, dg] at hK ⊢
            go_wp2
            exact hK (.int .i64 (n : Int)) w' (show PlS wq X (d 37) (x 37) w' from hS1) rfl
          · intro d x w' hS hdi hv hp hcl K hK
            have d0 : x 30 = .int .i64 (n : Int) := hv 30 (hp 30 (by kernel_rfl))
            have d1 : x 32 = .int .i64 (n : Int) := hv 32 (hp 32 (by kernel_rfl))
            have dg : x 28 = .bool false := hv 28 (hp 28 (by kernel_rfl))
            have hS1 : PlS wq X (d 37) (x 37) w' := hS
            refine want_yes (by unfold pcA; rw [dg]; rfl) ?_
            unfold pcA at hK ⊢
            simp only [d0, d1, dg] at hK ⊢
            go_wp2
            exact hK (.bool false) w' (show PlS wq X (d 37) (x 37) w' from hS1) rfl
          · intro d x w' hS hdi hv hp hcl K hK
            have d0 : x 28 = .bool false := hv 28 (hp 28 (by kernel_rfl))
            have d1 : x 33 = .bool false := hv 33 (hp 33 (by kernel_rfl))
            have hS1 : PlS wq X (d 37) (x 37) w' := hS
            refine want_yes (rfl) ?_
            unfold pcA at hK ⊢
            simp only [d0, d1] at hK ⊢
            go_wp2
            exact hK (.bool false) w' (show PlS wq X (d 37) (x 37) w' from hS1) rfl
          · intro d x w' hS hdi hv hp hcl K hK
            have d0 : x 34 = .bool false := hv 34 (hp 34 (by kernel_rfl))
            have hS1 : PlS wq X (d 37) (x 37) w' := hS
            refine want_yes (rfl) ?_
            unfold pcA at hK ⊢
            simp only [d0] at hK ⊢
            go_wp2
            exact hK (.bool false) w' (show PlS wq X (d 37) (x 37) w' from hS1) rfl
          · intro d x w' hS hdi hv hp hcl K hK
            have dg : x 35 = .bool false := hv 35 (hp 35 (by kernel_rfl))
            have hS1 : PlS wq X (d 37) (x 37) w' := hS
            refine want_yes (by unfold pcA; rw [dg]; rfl) ?_
            unfold pcA at hK ⊢
            simp only [dg] at hK ⊢
            go_wp2
            exact hK (.pointer (some ⟨t, 0, none⟩)) w' (show PlS wq X (d 37) (x 37) w' from hS1) rfl
          · intro d x w' hS hdi hv hp hcl K hK
            have d0 : x 36 = .pointer (some ⟨t, 0, none⟩) := hv 36 (hp 36 (by kernel_rfl))
            have dg : x 35 = .bool false := hv 35 (hp 35 (by kernel_rfl))
            have hS1 : PlS wq X (d 37) (x 37) w' := hS
            refine want_yes (by unfold pcA; rw [dg]; rfl) ?_
            unfold pcA at hK ⊢
            simp only [d0, dg] at hK ⊢
            go_wp2_with fail
            refine (tall_any (HTX.out.below hS1.b) HX.out).mono ?_
            rintro e w3 ⟨av, rfl, hr, hb⟩
            exact hK av w3 (show PlS wq X true av w3 from ⟨hS1.b.trans (hb.mono hS1.b.size), fun _ => EK.row_base hr hS1.b.size⟩) trivial
          · intro d x w' hS hdi hv hp hcl K hK
            have dg : x 35 = .bool false := hv 35 (hp 35 (by kernel_rfl))
            have hS1 : PlS wq X (d 37) (x 37) w' := hS
            refine want_yes (by unfold pcA; rw [dg]; rfl) ?_
            unfold pcA at hK ⊢
            simp only [dg] at hK ⊢
            go_wp2
            exact hK (.slice (some ⟨r, 0, none⟩) n cap) w' (show PlS wq X (d 37) (x 37) w' from hS1) rfl
          · intro d x w' hS hdi hv hp hcl K hK
            have d1 : x 38 = .slice (some ⟨r, 0, none⟩) n cap := hv 38 (hp 38 (by kernel_rfl))
            have dg : x 35 = .bool false := hv 35 (hp 35 (by kernel_rfl))
            have hS1 : PlS wq X (d 37) (x 37) w' := hS
            have y37 : d 37 = true := hp 37 (by kernel_rfl)
            refine want_yes (by unfold pcA; rw [dg]; rfl) ?_
            unfold pcA at hK ⊢
            simp only [d1, dg] at hK ⊢
            go_wp2_with fail
            refine (rsame_yes (hS1.r y37) (EK.row_below HRV.out hS1.b)).mono ?_
            rintro e w3 ⟨rfl, hb⟩
            exact hK (.bool true) w3 (show PlS wq X (d 37) (x 37) w3 from ⟨hS1.b.trans (hb.mono hS1.b.size), fun e => EK.row_below (hS1.r e) hb⟩) rfl
          · intro d x w' hS hdi hv hp hcl K hK
            have d0 : x 39 = .bool true := hv 39 (hp 39 (by kernel_rfl))
            have dg : x 35 = .bool false := hv 35 (hp 35 (by kernel_rfl))
            have hS1 : PlS wq X (d 37) (x 37) w' := hS
            refine want_yes (by unfold pcA; rw [dg]; rfl) ?_
            unfold pcA at hK ⊢
            simp only [d0, dg] at hK ⊢
            go_wp2
            exact hK (.bool false) w' (show PlS wq X (d 37) (x 37) w' from hS1) rfl
          · intro d x w' hS hdi hv hp hcl K hK
            have d0 : x 35 = .bool false := hv 35 (hp 35 (by kernel_rfl))
            have d1 : x 40 = .bool false := hv 40 (hp 40 (by kernel_rfl))
            have hS1 : PlS wq X (d 37) (x 37) w' := hS
            refine want_yes (rfl) ?_
            unfold pcA at hK ⊢
            simp only [d0, d1] at hK ⊢
            go_wp2
            exact hK (.bool false) w' (show PlS wq X (d 37) (x 37) w' from hS1) rfl
        · intro u hu d x w5 hS hd hv
          have HU := hide hu
          have hS1 : PlS wq X (d 37) (x 37) w5 := hS
          have e41 : x 41 = .bool false := hv 41 (by decide)
          have HRES := hide (show Pl0 w t p c ll w5 (.slice (some ⟨r, 0, none⟩) n cap) (.int .i64 ((k : Int) + 1)) from ⟨k + 1, rfl, hkl, v', X, HTX.out.below hS1.b, HX.out, EK.row_below HRV.out hS1.b, HNE.out, HBW.out.trans (hS1.b.mono HBW.out.size)⟩)
          clear hS hS1 hd hv hu
          unfold pcA
          simp only [e41]
          go_wp2_with fail
          refine ⟨?_, ?_⟩
          · rw [HU.out]
            (repeat apply Exists.intro)
            exact ⟨HRES.out, rfl⟩
          · show ll - (intOf (.int .i64 ((k : Int) + 1))).toNat < ll - (intOf (.int .i64 (k : Int))).toNat
            simp only [intOf]
            omega
    · have hke : ll = k := by omega
      subst hke
      clear ht hx hr hne hb
      go_wp2_with fail
      refine (AW.out _).mono ?_
      rintro e w2 ⟨rfl, hb⟩
      have HB2 := hide (HB.out.trans (hb.mono HB.out.size))
      clear hb
      go_wp2
      go_ret
      exact ⟨rfl, HB2.out⟩
end Go.Proofs.Ythbhpojbdpgajaa
