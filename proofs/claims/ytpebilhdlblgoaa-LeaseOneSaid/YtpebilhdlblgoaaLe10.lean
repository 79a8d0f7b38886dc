/- Chapter 27, lease: the walk of LeaseHolds. -/
import Derived.Test.YtpebilhdlblgoaaLeD
namespace Go.Proofs.Ytpebilhdlblgoaa
open Go.RowKit

def one27 (i cl til : Int) : Les := ⟨upm (fun _ => none) i (some ⟨i, cl, til, 1⟩), 1⟩
def two27 (i cl til ot tl : Int) : Les := ⟨upm (one27 i cl til).f i (some ⟨i, ot, tl, 2⟩), 2⟩
def ren27 (i cl til M : Int) : Les := ⟨upm (one27 i cl til).f i (some ⟨i, cl, M, 1⟩), 1⟩
theorem one27_old (i cl til : Int) : oldL (one27 i cl til) i = ⟨i, cl, til, 1⟩ := by
  unfold oldL one27
  simp only [upm_same]
  rfl
/-- What holds behind the first grant. -/
structure HG (w wx : World) (g c p q : Nat) (kd i cl nw n : Int) (x : Lse) (S : Les) : Prop where
  lv : LV wx g c S
  o : wx.heap[p]? = some (.cells #[.int .i64 kd, .int .i64 i, .int .i64 cl, .int .i64 nw, .int .i64 n] 28 (0, 0))
  r : wx.heap[q]? = some (.cells #[.int .i64 x.ino, .int .i64 x.cli, .int .i64 x.til, .int .i64 x.tok] 30 (0, 0))
  b : Below w.heap.size w wx
  gw : w.heap.size ≤ g ∧ w.heap.size ≤ c
  ne : p ≠ g ∧ p ≠ c ∧ q ≠ g ∧ q ≠ c
theorem HG.below {w wx wy : World} {g c p q : Nat} {kd i cl nw n : Int} {x : Lse} {S : Les} (h : HG w wx g c p q kd i cl nw n x S) (hb : Below wx.heap.size wx wy) : HG w wy g c p q kd i cl nw n x S :=
  ⟨h.lv.below hb, obj_below h.o hb, obj_below h.r hb, h.b.trans (hb.mono h.b.size), h.gw, h.ne⟩
theorem HG.fr {w wx wy : World} {g c p q : Nat} {kd i cl nw n : Int} {x : Lse} {S S' : Les} (h : HG w wx g c p q kd i cl nw n x S) (hv : LV wy g c S') (hf : Fr (fun j => j = g ∨ j = c) wx wy) : HG w wy g c p q kd i cl nw n x S' :=
  ⟨hv, hf.obj h.o (by have := h.ne; omega), hf.obj h.r (by have := h.ne; omega), h.b.trans (hf.below _ h.b.size (fun j hj e => by have := h.gw; omega)), h.gw, h.ne⟩
set_option maxHeartbeats 16000000 in
set_option maxRecDepth 100000 in
theorem walk_leaseHoldsS (HSORT : SortsL) (d : LDeed) (ot nn : Int) (w : World) (_h : d.wf) (_w1 : (Lit.int .i64 ot).wf = true) (_w2 : (Lit.int .i64 nn).wf = true) :
    Calls Try.prog 4 #[.agg d.lst.toArray, .int .i64 ot, .int .i64 nn] w fun e w' => e = .returned (.bool true) ∧ Below w.heap.size w w' := by
  obtain ⟨kd, i, cl, nw, n⟩ := d
  simp only [LDeed.lst]
  clear _h _w1 _w2
  have AW := hide (awake27 HSORT)
  obtain ⟨W0, hW0⟩ : ∃ W, W = w.alloc (.cells #[.int .i64 kd, .int .i64 i, .int .i64 cl, .int .i64 nw, .int .i64 n] 28) := ⟨_, rfl⟩
  obtain ⟨p, hp⟩ : ∃ p, p = w.heap.size := ⟨_, rfl⟩
  have hB0 : Below w.heap.size w W0 := by rw [hW0]; exact (Below.refl _ _).alloc (Nat.le_refl _) _
  have hs0 : W0.heap.size = p + 1 := by rw [hW0, hp]; simp
  have o0 : W0.heap[p]? = some (.cells #[.int .i64 kd, .int .i64 i, .int .i64 cl, .int .i64 nw, .int .i64 n] 28 (0, 0)) := by rw [hW0, hp]; exact obj_new _ _
  have HPW := hide hp
  go_enter Try.func4, Try.ntmps4
  go_wp2_with fail
  rw [← hW0, ← hp]
  clear hW0 hp
  refine (lnew_any _).mono ?_
  rintro e w1 ⟨g, c, rfl, hv1, hb, hg, hc⟩
  have o1 := obj_below o0 hb
  have hB1 := hB0.trans (hb.mono hB0.size)
  have HGC := hide (show w.heap.size ≤ g ∧ w.heap.size ≤ c ∧ p ≠ g ∧ p ≠ c from by have := HPW.out; omega)
  clear hB0 o0 hb hg hc hs0
  have x1 := obj_cell o1 1
  have x2 := obj_cell o1 2
  have x3 := obj_cell o1 3
  have x4 := obj_cell o1 4
  simp only [List.getElem?_toArray, List.getElem?_cons_zero, List.getElem?_cons_succ] at x1 x2 x3 x4
  by_cases hbad : badG i cl nw n
  · have HB := hide (grant_bad (g := g) i cl nw n w1 hbad)
    clear hbad
    go_wp2_with fail
    refine HB.out.mono ?_
    rintro e w2 ⟨rfl, hb⟩
    have hB2 := hB1.trans (hb.mono hB1.size)
    clear x1 x2 x3 x4 o1 hB1 hb hv1
    simp only [noL, Lse.cells]
    obtain ⟨W2, hW2⟩ : ∃ W, W = w2.alloc (.cells #[.int .i64 0, .int .i64 0, .int .i64 0, .int .i64 0] 30) := ⟨_, rfl⟩
    have hb : Below w2.heap.size w2 W2 := by rw [hW2]; exact (Below.refl _ _).alloc (Nat.le_refl _) _
    have hB3 := hB2.trans (hb.mono hB2.size)
    clear hB2 hb
    go_wp2_with fail
    rw [← hW2]
    clear hW2
    refine (AW.out _).mono ?_
    rintro e w5 ⟨rfl, hb⟩
    have hB6 := hB3.trans (hb.mono hB3.size)
    clear hB3 hb
    go_wp2
    go_ret
    exact ⟨rfl, hB6⟩
  · have HG1 := hide (show Calls Try.prog 12 #[.pointer (some ⟨g, 0, none⟩), .int .i64 i, .int .i64 cl, .int .i64 nw, .int .i64 n] w1 fun e w' => e = .returned (.tuple #[.agg #[.int .i64 i, .int .i64 cl, .int .i64 (nw + n), .int .i64 1], .int .i64 0]) ∧ LV w' g c (one27 i cl (nw + n)) ∧ Fr (fun j => j = g ∨ j = c) w1 w' from
      grant_new hv1 i cl nw n hbad noL rfl (show (0 : Int) ≤ nw by unfold badG at hbad; omega) (by decide) (by decide))
    have hnb : 0 ≤ nw ∧ nw ≤ 1099511627776 ∧ 1 ≤ n ∧ n ≤ 1000000 ∧ 1 ≤ i ∧ i < 256 ∧ 0 ≤ cl ∧ cl < 16 := by unfold badG at hbad; omega
    obtain ⟨tl, htl⟩ : ∃ tl, tl = nw + n := ⟨_, rfl⟩
    rw [← htl] at HG1
    have HTL := hide htl
    clear hbad htl
    go_wp2_with fail
    refine HG1.out.mono ?_
    rintro e w2 ⟨rfl, hv2, hf2⟩
    have hgc := HGC.out
    have o2 := hf2.obj o1 (by omega)
    have hB2 := hB1.trans (hf2.below _ hB1.size (fun j hj e => by omega))
    clear x1 x2 x3 x4 o1 hB1 hf2 hv1 HG1
    obtain ⟨q, hq⟩ : ∃ q, q = w2.heap.size := ⟨_, rfl⟩
    obtain ⟨W2, hW2⟩ : ∃ W, W = w2.alloc (.cells #[.int .i64 i, .int .i64 cl, .int .i64 tl, .int .i64 1] 30) := ⟨_, rfl⟩
    have hb : Below w2.heap.size w2 W2 := by rw [hW2]; exact (Below.refl _ _).alloc (Nat.le_refl _) _
    have hh : HG w W2 g c p q kd i cl nw n ⟨i, cl, tl, 1⟩ (one27 i cl tl) := ⟨hv2.below hb, obj_below o2 hb, by rw [hW2, hq]; exact obj_new _ _, hB2.trans (hb.mono hB2.size), ⟨hgc.1, hgc.2.1⟩, by have := hv2.lt; omega⟩
    clear o2 hB2 hb hv2 hgc
    have x1 := obj_cell hh.o 1
    have x2 := obj_cell hh.o 2
    have x3 := obj_cell hh.o 3
    have x4 := obj_cell hh.o 4
    have y0 := obj_cell hh.r 0
    have y1 := obj_cell hh.r 1
    have y2 := obj_cell hh.r 2
    have y3 := obj_cell hh.r 3
    simp only [List.getElem?_toArray, List.getElem?_cons_zero, List.getElem?_cons_succ] at x1 x2 x3 x4 y0 y1 y2 y3
    rw [hW2] at x1 x2 x3 x4 y0 y1 y2 y3
    rw [hq] at y0 y1 y2 y3
    by_cases h0 : ot = cl
    · subst h0
      go_wp2_with fail
      rw [← hW2, ← hq]
      clear hW2 hq x1 x2 x3 x4 y0 y1 y2 y3
      refine (AW.out _).mono ?_
      rintro e w5 ⟨rfl, hb⟩
      have hB6 := hh.b.trans (hb.mono hh.b.size)
      clear hb
      go_wp2
      go_ret
      exact ⟨rfl, hB6⟩
    have h0' : (ot == cl) = false := by simp [h0]
    by_cases h1 : ot < 0
    · go_wp2_with fail
      rw [← hW2, ← hq]
      clear hW2 hq x1 x2 x3 x4 y0 y1 y2 y3
      refine (AW.out _).mono ?_
      rintro e w5 ⟨rfl, hb⟩
      have hB6 := hh.b.trans (hb.mono hh.b.size)
      clear hb
      go_wp2
      go_ret
      exact ⟨rfl, hB6⟩
    have h1' : decide (ot < 0) = false := by simpa using h1
    by_cases h2 : 16 ≤ ot
    · go_wp2_with fail
      rw [← hW2, ← hq]
      clear hW2 hq x1 x2 x3 x4 y0 y1 y2 y3
      refine (AW.out _).mono ?_
      rintro e w5 ⟨rfl, hb⟩
      have hB6 := hh.b.trans (hb.mono hh.b.size)
      clear hb
      go_wp2
      go_ret
      exact ⟨rfl, hB6⟩
    have h2' : decide (16 ≤ ot) = false := by simpa using h2
    by_cases h3 : nn < nw
    · go_wp2_with fail
      rw [← hW2, ← hq]
      clear hW2 hq x1 x2 x3 x4 y0 y1 y2 y3
      refine (AW.out _).mono ?_
      rintro e w5 ⟨rfl, hb⟩
      have hB6 := hh.b.trans (hb.mono hh.b.size)
      clear hb
      go_wp2
      go_ret
      exact ⟨rfl, hB6⟩
    have h3' : decide (nn < nw) = false := by simpa using h3
    by_cases h4 : 1099511627776 < nn
    · go_wp2_with fail
      rw [← hW2, ← hq]
      clear hW2 hq x1 x2 x3 x4 y0 y1 y2 y3
      refine (AW.out _).mono ?_
      rintro e w5 ⟨rfl, hb⟩
      have hB6 := hh.b.trans (hb.mono hh.b.size)
      clear hb
      go_wp2
      go_ret
      exact ⟨rfl, hB6⟩
    have h4' : decide (1099511627776 < nn) = false := by simpa using h4
    by_cases h5 : tl ≤ nn
    · have HG2 := hide (show ∀ (W : World), LV W g c (one27 i cl tl) → Calls Try.prog 12 #[.pointer (some ⟨g, 0, none⟩), .int .i64 i, .int .i64 ot, .int .i64 nn, .int .i64 5] W fun e w' => e = .returned (.tuple #[.agg #[.int .i64 i, .int .i64 ot, .int .i64 (nn + 5), .int .i64 2], .int .i64 0]) ∧ LV w' g c (two27 i cl tl ot (nn + 5)) ∧ Fr (fun j => j = g ∨ j = c) W w' from fun W hv =>
        grant_new hv i ot nn 5 (by unfold badG; omega) ⟨i, cl, tl, 1⟩ (one27_old i cl tl) h5 (show (0 : Int) ≤ 1 by decide) (show (1 : Int) ≤ 1099511627776 by decide))
      have HCK := hide (show ∀ (W : World), LV W g c (two27 i cl tl ot (nn + 5)) → Calls Try.prog 15 #[.pointer (some ⟨g, 0, none⟩), .int .i64 i, .int .i64 cl, .int .i64 1, .int .i64 nn] W fun e w' => e = .returned (.bool false) ∧ Below W.heap.size W w' from fun W hv => by
        have h := check_any hv i cl 1 nn
        rw [show chkL (two27 i cl tl ot (nn + 5)) i cl 1 nn = false by
          unfold chkL
          rw [show (two27 i cl tl ot (nn + 5)).f i = some ⟨i, ot, nn + 5, 2⟩ from upm_same _ _ _]
          simp] at h
        exact h)
      go_wp2_with fail
      rw [← hW2, ← hq]
      clear hW2 hq
      refine (HG2.out _ hh.lv).mono ?_
      rintro e w3 ⟨rfl, hv3, hf3⟩
      have hh3 := hh.fr hv3 hf3
      clear hh hv3 hf3 x1 x2 x3 x4 y0 y1 y2 y3
      have y2 := obj_cell hh3.r 2
      simp only [List.getElem?_toArray, List.getElem?_cons_zero, List.getElem?_cons_succ] at y2
      obtain ⟨W3, hW3⟩ : ∃ W, W = w3.alloc (.cells #[.int .i64 i, .int .i64 ot, .int .i64 (nn + 5), .int .i64 2] 30) := ⟨_, rfl⟩
      have hb : Below w3.heap.size w3 W3 := by rw [hW3]; exact (Below.refl _ _).alloc (Nat.le_refl _) _
      have hh := hh3.below hb
      have z3 := obj_cell (obj_new w3 (.cells #[.int .i64 i, .int .i64 ot, .int .i64 (nn + 5), .int .i64 2] 30)) 3
      have y0 := obj_cell hh.r 0
      have y1 := obj_cell hh.r 1
      have y2 := obj_cell hh.r 2
      have y3 := obj_cell hh.r 3
      simp only [List.getElem?_toArray, List.getElem?_cons_zero, List.getElem?_cons_succ] at z3 y0 y1 y2 y3
      rw [hW3] at y0 y1 y2 y3
      clear hh3 hb
      go_wp2_with fail
      rw [← hW3]
      clear hW3 y0 y1 y2 y3 z3
      refine (HCK.out _ hh.lv).mono ?_
      rintro e w4 ⟨rfl, hb⟩
      have hB4 := hh.b.trans (hb.mono hh.b.size)
      clear hh hb
      go_wp2_with fail
      refine (AW.out _).mono ?_
      rintro e w5 ⟨rfl, hb⟩
      have hB6 := hB4.trans (hb.mono hB4.size)
      clear hb
      go_wp2
      go_ret
      exact ⟨rfl, hB6⟩
    · have hlt5 : nn < tl := by omega
      obtain ⟨M, hM⟩ : ∃ M, M = if nn + n > tl then nn + n else tl := ⟨_, rfl⟩
      have hMr : tl ≤ M ∧ nn < M ∧ M ≤ 2199023255552 := by
        have := HTL.out
        rw [hM]
        split <;> omega
      have HG2 := hide (show ∀ (W : World), LV W g c (one27 i cl tl) → Calls Try.prog 12 #[.pointer (some ⟨g, 0, none⟩), .int .i64 i, .int .i64 ot, .int .i64 nn, .int .i64 5] W fun e w' => e = .returned (.tuple #[.agg #[.int .i64 0, .int .i64 0, .int .i64 0, .int .i64 0], .int .i64 11]) ∧ Below W.heap.size W w' from fun W hv =>
        grant_held hv i ot nn 5 (by unfold badG; omega) ⟨i, cl, tl, 1⟩ (one27_old i cl tl) h5 (fun e => h0 e.symm))
      have HG3 := hide (show ∀ (W : World), LV W g c (one27 i cl tl) → Calls Try.prog 12 #[.pointer (some ⟨g, 0, none⟩), .int .i64 i, .int .i64 cl, .int .i64 nn, .int .i64 n] W fun e w' => e = .returned (.tuple #[.agg #[.int .i64 i, .int .i64 cl, .int .i64 M, .int .i64 1], .int .i64 0]) ∧ LV w' g c (ren27 i cl tl M) ∧ Fr (fun j => j = g ∨ j = c) W w' from fun W hv =>
        grant_renew hv i cl nn n (by unfold badG; omega) ⟨i, cl, tl, 1⟩ (one27_old i cl tl) h5 rfl M hM)
      have HCK := hide (show ∀ (W : World), LV W g c (ren27 i cl tl M) → Calls Try.prog 15 #[.pointer (some ⟨g, 0, none⟩), .int .i64 i, .int .i64 cl, .int .i64 1, .int .i64 nn] W fun e w' => e = .returned (.bool true) ∧ Below W.heap.size W w' from fun W hv => by
        have h := check_any hv i cl 1 nn
        rw [show chkL (ren27 i cl tl M) i cl 1 nn = true by
          unfold chkL
          rw [show (ren27 i cl tl M).f i = some ⟨i, cl, M, 1⟩ from upm_same _ _ _]
          simp
          omega] at h
        exact h)
      clear hM
      go_wp2_with fail
      rw [← hW2, ← hq]
      clear hW2 hq
      refine (HG2.out _ hh.lv).mono ?_
      rintro e w3 ⟨rfl, hb⟩
      have hh3 := hh.below hb
      clear hh hb x1 x2 x3 x4 y0 y1 y2 y3
      obtain ⟨W3, hW3⟩ : ∃ W, W = w3.alloc (.cells #[.int .i64 0, .int .i64 0, .int .i64 0, .int .i64 0] 30) := ⟨_, rfl⟩
      have hb : Below w3.heap.size w3 W3 := by rw [hW3]; exact (Below.refl _ _).alloc (Nat.le_refl _) _
      have hh := hh3.below hb
      have x1 := obj_cell hh.o 1
      have x2 := obj_cell hh.o 2
      have x4 := obj_cell hh.o 4
      have y2 := obj_cell hh.r 2
      simp only [List.getElem?_toArray, List.getElem?_cons_zero, List.getElem?_cons_succ] at x1 x2 x4 y2
      rw [hW3] at x1 x2 x4 y2
      clear hh3 hb
      go_wp2_with fail
      rw [← hW3]
      clear hW3 x1 x2 x4 y2
      refine (HG3.out _ hh.lv).mono ?_
      rintro e w4 ⟨rfl, hv4, hf4⟩
      have hh4 := hh.fr hv4 hf4
      clear hh hv4 hf4
      obtain ⟨W4, hW4⟩ : ∃ W, W = w4.alloc (.cells #[.int .i64 i, .int .i64 cl, .int .i64 M, .int .i64 1] 30) := ⟨_, rfl⟩
      have hb : Below w4.heap.size w4 W4 := by rw [hW4]; exact (Below.refl _ _).alloc (Nat.le_refl _) _
      have hh := hh4.below hb
      have z2 := obj_cell (obj_new w4 (.cells #[.int .i64 i, .int .i64 cl, .int .i64 M, .int .i64 1] 30)) 2
      have z3 := obj_cell (obj_new w4 (.cells #[.int .i64 i, .int .i64 cl, .int .i64 M, .int .i64 1] 30)) 3
      have y0 := obj_cell hh.r 0
      have y1 := obj_cell hh.r 1
      have y2 := obj_cell hh.r 2
      have y3 := obj_cell hh.r 3
      simp only [List.getElem?_toArray, List.getElem?_cons_zero, List.getElem?_cons_succ] at z2 z3 y0 y1 y2 y3
      rw [hW4] at y0 y1 y2 y3
      have hdM : decide (tl ≤ M) = true := by simpa using hMr.1
      clear hh4 hb
      go_wp2_with fail
      rw [← hW4]
      clear hW4 y0 y1 y2 y3 z2 z3
      refine (HCK.out _ hh.lv).mono ?_
      rintro e w5 ⟨rfl, hb⟩
      have hB4 := hh.b.trans (hb.mono hh.b.size)
      clear hh hb
      go_wp2_with fail
      refine (AW.out _).mono ?_
      rintro e w5 ⟨rfl, hb⟩
      have hB6 := hB4.trans (hb.mono hB4.size)
      clear hb
      go_wp2
      go_ret
      exact ⟨rfl, hB6⟩
end Go.Proofs.Ytpebilhdlblgoaa
