/- Chapter 27, lease: the chapter's example. -/
import Derived.Test.YtpebilhdlblgoaaLe7
namespace Go.Proofs.Ytpebilhdlblgoaa
open Go.RowKit

def les0 : Les := ⟨fun _ => none, 0⟩
def les1 : Les := ⟨upm (fun _ => none) 5 (some ⟨5, 1, 10, 1⟩), 1⟩
def les2 : Les := ⟨upm (upm (fun _ => none) 5 (some ⟨5, 1, 10, 1⟩)) 5 (some ⟨5, 2, 20, 2⟩), 2⟩
theorem les2_at (k : Int) : les2.f k = if k = 5 then some ⟨5, 2, 20, 2⟩ else none := by
  unfold les2 upm
  by_cases h : k = 5 <;> simp [h]
theorem allL_one {S : Les} {i : Int} {x : Lse} {l : List Lse} (h : ∀ k, S.f k = if k = i then some x else none) (hx : x.ino = i) (hl : AllL S l) : l = [x] := by
  obtain ⟨h1, h2⟩ := hl
  have hm : ∀ y ∈ l, y = x := fun y hy => by
    have := (h1 y).1 hy
    rw [h] at this
    split at this
    · cases this; rfl
    · cases this
  have hin : x ∈ l := (h1 x).2 (by rw [h, if_pos hx])
  match l, h2, hm, hin with
  | [y], _, hm, _ => rw [hm y (by simp)]
  | y :: z :: t, h2, hm, _ =>
    have := List.rel_of_pairwise_cons h2 (a' := z) (by simp)
    rw [hm y (by simp), hm z (by simp)] at this
    omega
theorem allL_none {S : Les} {l : List Lse} (h : ∀ k, S.f k = none) (hl : AllL S l) : l = [] := by
  rcases l with _ | ⟨x, t⟩
  · rfl
  · have := (hl.1 x).1 (by simp)
    rw [h] at this
    cases this
theorem les2_ok : LOk les2 := fun k x h => by
  rw [les2_at] at h
  split at h
  · cases h
    rename_i hk
    subst hk
    exact ⟨rfl, by decide, by decide⟩
  · cases h
theorem les2_swept (k : Int) : (sweepL les2 20).f k = none := by
  show (les2.f k).filter _ = none
  rw [les2_at]
  split
  · rfl
  · rfl
theorem nothing_ok {S : Les} (h : ∀ k, S.f k = none) : LOk S := fun k x e => by
  rw [h] at e
  cases e
set_option maxHeartbeats 8000000 in
set_option maxRecDepth 100000 in
theorem awake27 (HSORT : SortsL) (w : World) : Calls Try.prog 10 #[] w fun e w' => e = .returned (.bool true) ∧ Below w.heap.size w w' := by
  have HG1 := hide (show ∀ (W : World) (g c : Nat), LV W g c les0 → Calls Try.prog 12 #[.pointer (some ⟨g, 0, none⟩), .int .i64 5, .int .i64 1, .int .i64 0, .int .i64 10] W fun e w' => e = .returned (.tuple #[.agg #[.int .i64 5, .int .i64 1, .int .i64 10, .int .i64 1], .int .i64 0]) ∧ LV w' g c les1 ∧ Fr (fun j => j = g ∨ j = c) W w' from fun W g c h =>
    grant_new h 5 1 0 10 (by unfold badG; omega) noL rfl (by decide) (by decide) (by decide))
  have HG2 := hide (show ∀ (W : World) (g c : Nat), LV W g c les1 → Calls Try.prog 12 #[.pointer (some ⟨g, 0, none⟩), .int .i64 5, .int .i64 2, .int .i64 9, .int .i64 10] W fun e w' => e = .returned (.tuple #[.agg #[.int .i64 0, .int .i64 0, .int .i64 0, .int .i64 0], .int .i64 11]) ∧ Below W.heap.size W w' from fun W g c h =>
    grant_held h 5 2 9 10 (by unfold badG; omega) ⟨5, 1, 10, 1⟩ rfl (by decide) (by decide))
  have HC1 := hide (show ∀ (W : World) (g c : Nat), LV W g c les1 → Calls Try.prog 15 #[.pointer (some ⟨g, 0, none⟩), .int .i64 5, .int .i64 1, .int .i64 1, .int .i64 9] W fun e w' => e = .returned (.bool true) ∧ Below W.heap.size W w' from fun W g c h =>
    check_any h 5 1 1 9)
  have HC2 := hide (show ∀ (W : World) (g c : Nat), LV W g c les1 → Calls Try.prog 15 #[.pointer (some ⟨g, 0, none⟩), .int .i64 5, .int .i64 1, .int .i64 1, .int .i64 10] W fun e w' => e = .returned (.bool false) ∧ Below W.heap.size W w' from fun W g c h =>
    check_any h 5 1 1 10)
  have HG3 := hide (show ∀ (W : World) (g c : Nat), LV W g c les1 → Calls Try.prog 12 #[.pointer (some ⟨g, 0, none⟩), .int .i64 5, .int .i64 2, .int .i64 10, .int .i64 10] W fun e w' => e = .returned (.tuple #[.agg #[.int .i64 5, .int .i64 2, .int .i64 20, .int .i64 2], .int .i64 0]) ∧ LV w' g c les2 ∧ Fr (fun j => j = g ∨ j = c) W w' from fun W g c h =>
    grant_new h 5 2 10 10 (by unfold badG; omega) ⟨5, 1, 10, 1⟩ rfl (by decide) (by decide) (by decide))
  have HOF := hide (show ∀ (W : World) (g c : Nat), LV W g c les2 → Calls Try.prog 16 #[.pointer (some ⟨g, 0, none⟩), .int .i64 2] W fun e w' => (∃ A c, e = .returned (.slice A 1 c)) ∧ Below W.heap.size W w' from fun W g c h =>
    (lof_any HSORT h les2_ok 2).mono fun e w' ⟨l, v', hl, he, hr, hb⟩ => by
      rw [allL_one les2_at rfl hl] at hr
      obtain ⟨A, cc, e1⟩ := EK.row_slice hr
      exact ⟨⟨A, cc, by rw [he, e1]; rfl⟩, hb⟩)
  have HDR := hide (show ∀ (W : World) (g c : Nat), LV W g c les2 → Calls Try.prog 13 #[.pointer (some ⟨g, 0, none⟩), .int .i64 5, .int .i64 1, .int .i64 1] W fun e w' => e = .returned (.int .i64 11) ∧ LV w' g c les2 ∧ Fr (fun j => j = c) W w' from fun W g c h =>
    drop_any h 5 1 1)
  have HSW := hide (show ∀ (W : World) (g c : Nat), LV W g c les2 → Calls Try.prog 14 #[.pointer (some ⟨g, 0, none⟩), .int .i64 20] W fun e w' => e = .returned (.int .i64 1) ∧ LV w' g c (sweepL les2 20) ∧ Fr (fun j => j = c) W w' from fun W g c h =>
    (lsweep_any HSORT h les2_ok 20).mono fun e w' ⟨l, hl, he, hv, hf⟩ => by
      rw [allL_one les2_at rfl hl] at he
      exact ⟨he, hv, hf⟩)
  have HLN := hide (show ∀ (W : World) (g c : Nat), LV W g c (sweepL les2 20) → Calls Try.prog 17 #[.pointer (some ⟨g, 0, none⟩)] W fun e w' => e = .returned (.int .i64 0) ∧ Below W.heap.size W w' from fun W g c h =>
    (llen_any HSORT h (nothing_ok les2_swept)).mono fun e w' ⟨l, hl, he, hb⟩ => by
      rw [allL_none les2_swept hl] at he
      exact ⟨he, hb⟩)
  go_enter Try.func10, Try.ntmps10
  go_wp2_with fail
  refine (lnew_any _).mono ?_
  rintro e w1 ⟨g, c, rfl, hv, hb, hg, hc⟩
  have HGC := hide (show w.heap.size ≤ g ∧ w.heap.size ≤ c from ⟨hg, hc⟩)
  have hv1 : LV w1 g c les0 := hv
  clear hv hg hc
  go_wp2_with fail
  refine (HG1.out _ g c hv1).mono ?_
  rintro e w2 ⟨rfl, hv2, hf2⟩
  have hb2 := hb.trans (hf2.below _ hb.size (fun j hj e => by have := HGC.out; omega))
  clear hb hf2 hv1
  obtain ⟨W2, hW2⟩ : ∃ W, W = w2.alloc (.cells #[.int .i64 5, .int .i64 1, .int .i64 10, .int .i64 1] 30) := ⟨_, rfl⟩
  obtain ⟨p2, hp2⟩ : ∃ p, p = w2.heap.size := ⟨_, rfl⟩
  have hB2 : Below w2.heap.size w2 W2 := by rw [hW2]; exact (Below.refl _ _).alloc (Nat.le_refl _) _
  have o2 : W2.heap[p2]? = some (.cells #[.int .i64 5, .int .i64 1, .int .i64 10, .int .i64 1] 30 (0, 0)) := by rw [hW2, hp2]; exact obj_new _ _
  have hv2' := hv2.below hB2
  have hb2' := hb2.trans (hB2.mono hb2.size)
  have hne2 : p2 ≠ g ∧ p2 ≠ c := by have := hv2.lt; omega
  have hpw2 : w.heap.size ≤ p2 := by rw [hp2]; exact hb2.size
  clear hv2 hb2 hB2
  go_wp2_with fail
  rw [← hW2, ← hp2]
  clear hW2 hp2
  refine (HG2.out _ g c hv2').mono ?_
  rintro e w3 ⟨rfl, hb⟩
  have hv3 := hv2'.below hb
  have o3 := obj_below o2 hb
  have hb3 := hb2'.trans (hb.mono hb2'.size)
  clear hv2' o2 hb2' hb
  obtain ⟨W3, hW3⟩ : ∃ W, W = w3.alloc (.cells #[.int .i64 0, .int .i64 0, .int .i64 0, .int .i64 0] 30) := ⟨_, rfl⟩
  have hB3 : Below w3.heap.size w3 W3 := by rw [hW3]; exact (Below.refl _ _).alloc (Nat.le_refl _) _
  have hv3' := hv3.below hB3
  have o3' := obj_below o3 hB3
  have hb3' := hb3.trans (hB3.mono hb3.size)
  clear hv3 o3 hb3 hB3
  go_wp2_with fail
  rw [← hW3]
  clear hW3
  refine (HC1.out _ g c hv3').mono ?_
  rintro e w4 ⟨rfl, hb⟩
  have hv4 := hv3'.below hb
  have o4 := obj_below o3' hb
  have hb4 := hb3'.trans (hb.mono hb3'.size)
  clear hv3' o3' hb3' hb
  go_wp2_with fail
  refine (HC2.out _ g c hv4).mono ?_
  rintro e w5 ⟨rfl, hb⟩
  have hv5 := hv4.below hb
  have o5 := obj_below o4 hb
  have hb5 := hb4.trans (hb.mono hb4.size)
  clear hv4 o4 hb4 hb
  go_wp2_with fail
  refine (HG3.out _ g c hv5).mono ?_
  rintro e w6 ⟨rfl, hv6, hf⟩
  have o6 := hf.obj o5 (by omega)
  have hb6 := hb5.trans (hf.below _ hb5.size (fun j hj e => by have := HGC.out; omega))
  clear hv5 o5 hb5 hf
  obtain ⟨W6, hW6⟩ : ∃ W, W = w6.alloc (.cells #[.int .i64 5, .int .i64 2, .int .i64 20, .int .i64 2] 30) := ⟨_, rfl⟩
  obtain ⟨p6, hp6⟩ : ∃ p, p = w6.heap.size := ⟨_, rfl⟩
  have hB6 : Below w6.heap.size w6 W6 := by rw [hW6]; exact (Below.refl _ _).alloc (Nat.le_refl _) _
  have q6 : W6.heap[p6]? = some (.cells #[.int .i64 5, .int .i64 2, .int .i64 20, .int .i64 2] 30 (0, 0)) := by rw [hW6, hp6]; exact obj_new _ _
  have hv6' := hv6.below hB6
  have o6' := obj_below o6 hB6
  have hb6' := hb6.trans (hB6.mono hb6.size)
  clear hv6 o6 hb6 hB6
  have x0 := obj_cell o6' 0
  have x1 := obj_cell o6' 1
  have x2 := obj_cell o6' 2
  have x3 := obj_cell o6' 3
  have y3 := obj_cell q6 3
  simp only [List.getElem?_toArray, List.getElem?_cons_zero, List.getElem?_cons_succ] at x0 x1 x2 x3 y3
  rw [hW6] at x0 x1 x2 x3 y3
  rw [hp6] at y3
  go_wp2_with fail
  rw [← hW6]
  clear hW6 hp6 x0 x1 x2 x3 y3
  refine (HOF.out _ g c hv6').mono ?_
  rintro e w7 ⟨⟨A, cc, rfl⟩, hb⟩
  have hv7 := hv6'.below hb
  have hb7 := hb6'.trans (hb.mono hb6'.size)
  clear hv6' hb6' hb q6 o6'
  go_wp2_with fail
  refine (HDR.out _ g c hv7).mono ?_
  rintro e w8 ⟨rfl, hv8, hf⟩
  have hb8 := hb7.trans (hf.below _ hb7.size (fun j hj e => by have := HGC.out; omega))
  clear hv7 hf hb7
  go_wp2_with fail
  refine (HSW.out _ g c hv8).mono ?_
  rintro e w9 ⟨rfl, hv9, hf⟩
  have hb9 := hb8.trans (hf.below _ hb8.size (fun j hj e => by have := HGC.out; omega))
  clear hv8 hf hb8
  go_wp2_with fail
  refine (HLN.out _ g c hv9).mono ?_
  rintro e w10 ⟨rfl, hb⟩
  have hb10 := hb9.trans (hb.mono hb9.size)
  clear hv9 hb9 hb
  go_wp2
  go_ret
  exact ⟨rfl, hb10⟩
end Go.Proofs.Ytpebilhdlblgoaa
