/- Chapter 07, timers: All. -/
import Derived.Test.YthbhpojbdpgajaaSrc
import Derived.Ground.SlsfProg
import Derived.Test.YthbhpojbdpgajaaTiF
namespace Go.Proofs.Ythbhpojbdpgajaa
open Go.Shelf Go.RowKit Go.Sort
def sh_sortL_ren : Go.Shelf.Ren := ⟨fun | 6 => 25 | 15 => 30 | 14 => 29 | 28 => 39 | 29 => 40 | 20 => 31 | 21 => 32 | 22 => 33 | 23 => 34 | 24 => 35 | 25 => 36 | 26 => 37 | 27 => 38 | 46 => 41 | 47 => 42 | 48 => 43 | 49 => 44 | 50 => 45 | 57 => 46 | n => n, fun | 22 => 33 | 24 => 44 | 25 => 69 | 3 => 3 | 39 => 78 | 0 => 0 | 53 => 88 | 55 => 90 | 4 => 4 | 46 => 82 | 45 => 81 | 50 => 61 | 5 => 5 | 9 => 9 | 66 => 91 | 70 => 95 | 76 => 97 | 77 => 98 | n => n, fun | n => n⟩
theorem sh_sortL : Go.Proofs.SlLaysF0.n6 Try.prog sh_sortL_ren := {
  mixed := by kernel_rfl
  f6 := ⟨Try.f25.name, by decide, Try.func25.trans (congrArg some (by kernel_rfl))⟩
  f14 := ⟨Try.f29.name, by decide, Try.func29.trans (congrArg some (by kernel_rfl))⟩
  f15 := Try.func30.trans (congrArg some (by kernel_rfl))
  f20 := ⟨Try.f31.name, by decide, Try.func31.trans (congrArg some (by kernel_rfl))⟩
  f21 := ⟨Try.f32.name, by decide, Try.func32.trans (congrArg some (by kernel_rfl))⟩
  f22 := ⟨Try.f33.name, by decide, Try.func33.trans (congrArg some (by kernel_rfl))⟩
  f23 := ⟨Try.f34.name, by decide, Try.func34.trans (congrArg some (by kernel_rfl))⟩
  f24 := ⟨Try.f35.name, by decide, Try.func35.trans (congrArg some (by kernel_rfl))⟩
  f25 := ⟨Try.f36.name, by decide, Try.func36.trans (congrArg some (by kernel_rfl))⟩
  f26 := ⟨Try.f37.name, by decide, Try.func37.trans (congrArg some (by kernel_rfl))⟩
  f27 := ⟨Try.f38.name, by decide, Try.func38.trans (congrArg some (by kernel_rfl))⟩
  f28 := Try.func39.trans (congrArg some (by kernel_rfl))
  f29 := Try.func40.trans (congrArg some (by kernel_rfl))
  f46 := ⟨Try.f41.name, by decide, Try.func41.trans (congrArg some (by kernel_rfl))⟩
  f47 := Try.func42.trans (congrArg some (by kernel_rfl))
  f48 := Try.func43.trans (congrArg some (by kernel_rfl))
  f49 := ⟨Try.f44.name, by decide, Try.func44.trans (congrArg some (by kernel_rfl))⟩
  f50 := ⟨Try.f45.name, by decide, Try.func45.trans (congrArg some (by kernel_rfl))⟩
  f57 := ⟨Try.f46.name, by decide, Try.func46.trans (congrArg some (by kernel_rfl))⟩
  t0 := Try.underlying0
  a0 := Try.isAgg0
  z0 := Try.sizeOf0
  v0 := Try.zeroValue0
  t3 := Try.underlying3
  a3 := Try.isAgg3
  z3 := Try.sizeOf3
  v3 := Try.zeroValue3
  t4 := Try.underlying4
  a4 := Try.isAgg4
  z4 := Try.sizeOf4
  v4 := Try.zeroValue4
  t5 := Try.underlying5
  a5 := Try.isAgg5
  z5 := Try.sizeOf5
  v5 := Try.zeroValue5
  t9 := Try.underlying9
  a9 := Try.isAgg9
  z9 := Try.sizeOf9
  v9 := Try.zeroValue9
  t22 := Try.underlying33
  a22 := Try.isAgg33
  z22 := Try.sizeOf33
  v22 := Try.zeroValue33
  t25 := Try.underlying69
  a25 := Try.isAgg69
  z25 := Try.sizeOf69
  v25 := Try.zeroValue69
  t39 := Try.underlying78
  a39 := Try.isAgg78
  z39 := Try.sizeOf78
  v39 := Try.zeroValue78
  t45 := Try.underlying81
  a45 := Try.isAgg81
  z45 := Try.sizeOf81
  v45 := Try.zeroValue81
  t46 := Try.underlying82
  a46 := Try.isAgg82
  z46 := Try.sizeOf82
  v46 := Try.zeroValue82
  t50 := Try.underlying61
  a50 := Try.isAgg61
  z50 := Try.sizeOf61
  v50 := Try.zeroValue61
  t53 := Try.underlying88
  a53 := Try.isAgg88
  z53 := Try.sizeOf88
  v53 := Try.zeroValue88
  t55 := Try.underlying90
  a55 := Try.isAgg90
  z55 := Try.sizeOf90
  v55 := Try.zeroValue90
  t66 := Try.underlying91
  a66 := Try.isAgg91
  z66 := Try.sizeOf91
  v66 := Try.zeroValue91
  t70 := Try.underlying95
  a70 := Try.isAgg95
  z70 := Try.sizeOf95
  v70 := Try.zeroValue95
  t76 := Try.underlying97
  a76 := Try.isAgg97
  z76 := Try.sizeOf97
  v76 := Try.zeroValue97
  t77 := Try.underlying98
  a77 := Try.isAgg98
  z77 := Try.sizeOf98
  v77 := Try.zeroValue98 }
/-- w' is w with draws and blocks behind. -/
def Gw (w w' : World) : Prop := ∃ q os, w' = grow (w.drewN q) os
theorem Gw.refl (w : World) : Gw w w := ⟨0, #[], by rw [grow_empty]; rfl⟩
theorem Gw.trans {a b c : World} (h : Gw a b) (k : Gw b c) : Gw a c := by
  obtain ⟨q, os, rfl⟩ := h
  obtain ⟨q', os', rfl⟩ := k
  exact ⟨q + q', os ++ os', by rw [← grow_grow]; simp [grow, World.drewN, Nat.add_assoc]⟩
theorem Gw.drew {a b : World} (h : Gw a b) : Gw a b.drew := h.trans ⟨1, #[], by rw [grow_empty]; rfl⟩
theorem Gw.alloc {a b : World} (h : Gw a b) (o : Obj) : Gw a (b.alloc o) := h.trans ⟨0, #[o], by rw [alloc_eq_grow]; rfl⟩
theorem Gw.below {a b : World} (h : Gw a b) : Below a.heap.size a b := by
  obtain ⟨q, os, rfl⟩ := h
  refine ⟨rfl, rfl, rfl, by simp [grow, World.drewN], fun k hk => ?_⟩
  show (a.heap ++ os)[k]? = _
  rw [Array.getElem?_append_left hk]
set_option maxRecDepth 100000 in
theorem ahead_gw (a b : Tm) (w : World) : Calls Try.prog 68 #[.agg #[], .agg #[.int .i64 a.id, .int .i64 a.at_], .agg #[.int .i64 b.id, .int .i64 b.at_]] w fun e w' => e = .returned (.bool (tlt a b)) ∧ Gw w w' := by
  obtain ⟨ai, at1⟩ := a
  obtain ⟨bi, at2⟩ := b
  simp only
  have HB := hide ((((Gw.refl w).alloc (.cells #[] 54)).alloc (.cells #[.int .i64 ai, .int .i64 at1] 44)).alloc (.cells #[.int .i64 bi, .int .i64 at2] 44))
  by_cases h1 : at1 < at2
  · have h1' : decide (at1 < at2) = true := by simpa using h1
    have HR := hide (show tlt ⟨ai, at1⟩ ⟨bi, at2⟩ = true by simp [tlt, h1])
    clear h1
    go_enter Try.func68, Try.ntmps68
    go_wp2
    go_ret
    rw [HR.out]
    exact ⟨rfl, HB.out⟩
  · have h1' : decide (at1 < at2) = false := by simpa using h1
    by_cases h2 : at1 = at2
    · have h2' : (at1 == at2) = true := by simpa using h2
      have HR := hide (show tlt ⟨ai, at1⟩ ⟨bi, at2⟩ = decide (ai < bi) by simp [tlt, h2])
      clear h1 h2
      go_enter Try.func68, Try.ntmps68
      go_wp2
      go_ret
      rw [HR.out]
      exact ⟨rfl, HB.out⟩
    · have h2' : (at1 == at2) = false := by simpa using h2
      have HR := hide (show tlt ⟨ai, at1⟩ ⟨bi, at2⟩ = false by simp [tlt, h1, h2])
      clear h1 h2
      go_enter Try.func68, Try.ntmps68
      go_wp2
      go_ret
      rw [HR.out]
      exact ⟨rfl, HB.out⟩
def tcmp (a b : Tm) : Int := if tlt a b = true then -1 else if tlt b a = true then 1 else 0
/-- What the closure of All reads. -/
def Cap (w : World) (bx t p : Nat) : Prop := w.heap[bx]? = some (.cells #[.pointer (some ⟨t, 0, none⟩)] 23 (0, 0)) ∧ w.heap[t]? = some (.cells #[.pointer (some ⟨p, 0, none⟩)] 60 (0, 0)) ∧ ∃ x1 x2, w.heap[p]? = some (.cells #[x1, x2, byT] 58 (0, 0))
theorem Cap.below {w w' : World} {bx t p : Nat} (h : Cap w bx t p) (hb : Below w.heap.size w w') : Cap w' bx t p := by
  obtain ⟨h1, h2, x1, x2, h3⟩ := h
  exact ⟨obj_below h1 hb, obj_below h2 hb, x1, x2, obj_below h3 hb⟩
set_option maxHeartbeats 4000000 in
set_option maxRecDepth 100000 in
theorem tcmp_any {w : World} {bx t p : Nat} (h : Cap w bx t p) (a b : Tm) :
    Calls Try.prog 26 #[.agg #[.int .i64 a.id, .int .i64 a.at_], .agg #[.int .i64 b.id, .int .i64 b.at_], .pointer (some ⟨bx, 0, none⟩)] w fun e w' => e = .returned (.int .i64 (tcmp a b)) ∧ Gw w w' := by
  have HC := hide h
  have HA := hide (ahead_gw a b)
  have HA2 := hide (ahead_gw b a)
  obtain ⟨W1, hW1⟩ : ∃ W, W = (w.alloc (.cells #[.int .i64 a.id, .int .i64 a.at_] 44)).alloc (.cells #[.int .i64 b.id, .int .i64 b.at_] 44) := ⟨_, rfl⟩
  obtain ⟨pa, hpa⟩ : ∃ q, q = w.heap.size := ⟨_, rfl⟩
  have hg1 : Gw w W1 := by rw [hW1]; exact ((Gw.refl w).alloc _).alloc _
  have oa : W1.heap[pa]? = some (.cells #[.int .i64 a.id, .int .i64 a.at_] 44 (0, 0)) := by rw [hW1, hpa]; exact obj_alloc (obj_new w _) _
  have ob : W1.heap[pa + 1]? = some (.cells #[.int .i64 b.id, .int .i64 b.at_] 44 (0, 0)) := by
    rw [hW1, hpa]
    have := obj_new (w.alloc (.cells #[.int .i64 a.id, .int .i64 a.at_] 44)) (.cells #[.int .i64 b.id, .int .i64 b.at_] 44)
    simpa using this
  have hc1 := h.below hg1.below
  obtain ⟨c1, c2, x1, x2, c3⟩ := hc1
  have z0 := obj_cell c1 0
  have z1 := obj_cell c2 0
  have z2 := obj_cell c3 2
  have a0 := obj_cell oa 0
  have a1 := obj_cell oa 1
  have b0 := obj_cell ob 0
  have b1 := obj_cell ob 1
  simp only [List.getElem?_toArray, List.getElem?_cons_zero, List.getElem?_cons_succ, byT] at z0 z1 z2 a0 a1 b0 b1
  have HG1 := hide hg1
  have HOA := hide oa
  have HOB := hide ob
  have HC1 := hide (h.below hg1.below)
  clear h hg1 oa ob c1 c2 c3
  go_enter Try.func26, Try.ntmps26
  go_wp2_with fail
  rw [← hW1, ← hpa]
  clear hW1 hpa
  refine wp_stl 9 (by kernel_rfl) (by kernel_rfl) ?_
  simp only [List.take_succ_cons, List.take_zero, List.drop_succ_cons, List.drop_zero]
  repeat still_step
  refine wpStill_nil ?_
  go_wp2_with fail
  refine upon_meth 68 (.agg #[]) (by kernel_rfl) ?_
  go_wp2_with fail
  refine (HA.out _).mono ?_
  rintro e w2 ⟨rfl, hg2⟩
  have hg2' := HG1.out.drew.trans hg2
  have hb2 := (Gw.refl W1).drew.trans hg2
  clear z0 z1 z2 a0 a1 b0 b1 hg2
  have HG2 := hide hg2'
  rcases e1 : tlt a b with _ | _
  · obtain ⟨c1, c2, x1, x2, c3⟩ := HC1.out.below hb2.below
    have oa := obj_below HOA.out hb2.below
    have ob := obj_below HOB.out hb2.below
    have z0 := obj_cell c1 0
    have z1 := obj_cell c2 0
    have z2 := obj_cell c3 2
    have a0 := obj_cell oa 0
    have a1 := obj_cell oa 1
    have b0 := obj_cell ob 0
    have b1 := obj_cell ob 1
    simp only [List.getElem?_toArray, List.getElem?_cons_zero, List.getElem?_cons_succ, byT] at z0 z1 z2 a0 a1 b0 b1
    have HR := hide (show tcmp a b = if tlt b a = true then 1 else 0 by unfold tcmp; rw [e1]; rfl)
    clear e1 hb2 hg2' oa ob c1 c2 c3
    go_wp2_with fail
    refine wp_stl 9 (by kernel_rfl) (by kernel_rfl) ?_
    simp only [List.take_succ_cons, List.take_zero, List.drop_succ_cons, List.drop_zero]
    repeat still_step
    refine wpStill_nil ?_
    go_wp2_with fail
    refine upon_meth 68 (.agg #[]) (by kernel_rfl) ?_
    go_wp2_with fail
    refine (HA2.out _).mono ?_
    rintro e w3 ⟨rfl, hg3⟩
    have HG3 := hide (HG2.out.drew.trans hg3)
    clear hg3 z0 z1 z2 a0 a1 b0 b1
    rcases e2 : tlt b a with _ | _
    · rw [e2] at HR
      clear e2
      go_wp2
      go_ret
      rw [HR.out]
      exact ⟨rfl, HG3.out⟩
    · rw [e2] at HR
      clear e2
      go_wp2
      go_ret
      rw [HR.out]
      exact ⟨rfl, HG3.out⟩
  · have HR := hide (show tcmp a b = -1 by unfold tcmp; rw [e1]; rfl)
    clear e1 hb2 hg2'
    go_wp2
    go_ret
    rw [HR.out]
    exact ⟨rfl, HG2.out⟩
theorem tcmp_lt (a b : Tm) : tcmp a b < 0 ↔ Tlt a b := by
  unfold tcmp
  rcases h1 : tlt a b with _ | _
  · rw [if_neg (by decide), ← tlt_iff, h1]
    split <;> simp
  · rw [if_pos rfl, ← tlt_iff, h1]
    simp
/-- slices.SortFunc of timers, by their order. -/
theorem tsort_any {w : World} {B bx t p : Nat} {v : Value} {l : List Tm} (h : kT.row w B v l) (hc : Cap w bx t p) (hv : ∀ q, v.ownBlock = some q → q ≠ bx ∧ q ≠ t ∧ q ≠ p) (hl : l.length ≤ 65536) :
    Calls Try.prog 25 #[v, .func (.func 26) #[] #[.pointer (some ⟨bx, 0, none⟩)]] w fun e w' => e = .returned (.tuple #[]) ∧ ∃ l', l'.Perm l ∧ l'.Pairwise (fun a b => ¬ Tlt b a) ∧ kT.row w' B v l' ∧ Fr (fun j => v.ownBlock = some j) w w' := by
  have eg : ∀ args w, (callFunc 26 args).run Try.prog w = .ok (.enter 26 args) w := enters_of Try.func26 (by kernel_rfl) rfl
  obtain ⟨c1, c2, x1, x2, c3⟩ := hc
  exact EK.sortc kT sh_sortL Try.isAgg44 Try.sizeOf44 (fun _ => True) Tlt (fun x h => h.irrefl) (fun x y z h1 h2 => h1.trans h2) (fun x y z h1 h2 => by unfold Tlt at *; omega) tcmp (fun x y _ _ => tcmp_lt x y) 26 #[.pointer (some ⟨bx, 0, none⟩)] eg
    (fun x y _ _ W hW => tcmp_any (w := W) (bx := bx) (t := t) (p := p) ⟨(hW bx (obj_lt c1) (fun e => (hv _ e).1 rfl)).trans c1, (hW t (obj_lt c2) (fun e => (hv _ e).2.1 rfl)).trans c2, x1, x2, (hW p (obj_lt c3) (fun e => (hv _ e).2.2 rfl)).trans c3⟩ x y) h (fun _ _ => trivial) (by omega)
end Go.Proofs.Ythbhpojbdpgajaa
