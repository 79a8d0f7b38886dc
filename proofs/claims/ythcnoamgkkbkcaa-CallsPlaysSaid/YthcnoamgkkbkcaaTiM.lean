/- Chapter 07, timers: a pile in memory. -/
import Derived.Test.YthcnoamgkkbkcaaTiH
import Derived.Test.YthcnoamgkkbkcaaGr
import Derived.Test.YthcnoamgkkbkcaaMp2
import Derived.Test.YthcnoamgkkbkcaaOrd7
import Derived.Test.YthcnoamgkkbkcaaSto
import Derived.Test.YthcnoamgkkbkcaaOpl
namespace Go.Proofs.Ythcnoamgkkbkcaa
open Go.RowKit

theorem inf44 : (Try.prog.info? 153).map (fun i => (i.zero, i.size, i.bytes)) = some (some (.agg #[.int .i64 0, .int .i64 0]), 2, 16) := by kernel_rfl
theorem info44 : (Try.prog.info? 153).map (·.size) = some 2 := by kernel_rfl
/-- Rows of timers. -/
def kT : EK Try.prog Tm where
  cs x := [.int .i64 x.id, .int .i64 x.at_]
  sz := 2
  e := 153
  t := 145
  by_ := 16
  len _ := rfl
  one a u h := by
    simp only [List.mem_cons, List.not_mem_nil, or_false] at h
    rcases h with rfl | rfl <;> rfl
  pos := by decide
  und := Try.underlying145
  inf := ek_inf inf44 rfl
  small := by decide
/-- Maps of numbers to places. -/
def kA : MK Try.prog Int where
  m := 142
  k := 3
  e := 3
  val x := .int .i64 x
  z := .int .i64 0
  und := Try.underlying142
  key := Try.underlying3
  zero w := Try.zeroValue3 w
/-- f tells where each number stands in l. -/
def AtOk (l : List Tm) (f : Int → Option Int) : Prop := ∀ id x, f id = some x ↔ ∃ k : Nat, k < l.length ∧ (tat l k).id = id ∧ x = (k : Int)
def byT : Value := .iface 144 (.agg #[])
/-- A pile: p, its map c, its slice v; base B of the row. -/
def PV (w : World) (B p c : Nat) (v : Value) (l : List Tm) (f : Int → Option Int) : Prop :=
  w.heap[p]? = some (.cells #[v, .map (some c), byT] 149 (0, 0)) ∧ kT.row w B v l ∧ kA.mp w c f
theorem PV.below {w w' : World} {B p c : Nat} {v : Value} {l : List Tm} {f : Int → Option Int} (h : PV w B p c v l f) (hb : Below w.heap.size w w') : PV w' B p c v l f := ⟨obj_below h.1 hb, EK.row_below h.2.1 hb, MK.mp_below h.2.2 hb⟩
theorem PV.pc {w : World} {B p c : Nat} {v : Value} {l : List Tm} {f : Int → Option Int} (h : PV w B p c v l f) : p ≠ c := by
  obtain ⟨es, k, h3⟩ := MK.mp_obj h.2.2
  rintro rfl
  rw [h.1] at h3
  cases h3
theorem PV.vne {w : World} {B p c : Nat} {v : Value} {l : List Tm} {f : Int → Option Int} (h : PV w B p c v l f) {q : Nat} (hq : v.ownBlock = some q) : q ≠ p ∧ q ≠ c := by
  obtain ⟨-, -, cs, h7⟩ := EK.row_typed h.2.1 hq
  refine ⟨fun e => ?_, fun e => ?_⟩
  · subst e
    have h6 := h.1
    rw [h6] at h7
    simp only [Option.some.injEq, Obj.cells.injEq] at h7
    exact absurd h7.2.1 (by decide)
  · subst e
    obtain ⟨es, ck, h6⟩ := MK.mp_obj h.2.2
    rw [h6] at h7
    cases h7
theorem PV.lt {w : World} {B p c : Nat} {v : Value} {l : List Tm} {f : Int → Option Int} (h : PV w B p c v l f) : p < w.heap.size ∧ c < w.heap.size := ⟨obj_lt h.1, MK.mp_lt h.2.2⟩
theorem plen_any {w : World} {B p c : Nat} {v : Value} {l : List Tm} {f : Int → Option Int} (h : PV w B p c v l f) : Calls Try.prog 141 #[.pointer (some ⟨p, 0, none⟩)] w fun e w' => e = .returned (.int .i64 (l.length : Int)) ∧ w = w' := by
  obtain ⟨A, cc, rfl⟩ := EK.row_slice h.2.1
  have z0 := obj_cell h.1 0
  simp only [List.getElem?_toArray, List.getElem?_cons_zero] at z0
  clear h
  go_enter Try.func141, Try.ntmps141
  go_wp2
  go_ret
  exact ⟨rfl, rfl⟩
set_option maxRecDepth 100000 in
theorem ahead_any (a b : Tm) (w : World) : Calls Try.prog 146 #[.agg #[], .agg #[.int .i64 a.id, .int .i64 a.at_], .agg #[.int .i64 b.id, .int .i64 b.at_]] w fun e w' => e = .returned (.bool (tlt a b)) ∧ Below w.heap.size w w' := by
  obtain ⟨ai, at1⟩ := a
  obtain ⟨bi, at2⟩ := b
  simp only
  have HB := hide ((((Below.refl w.heap.size w).alloc (Nat.le_refl _) (.cells #[] 144)).alloc (by simp) (.cells #[.int .i64 ai, .int .i64 at1] 153)).alloc (by simp only [World.size_alloc]; omega) (.cells #[.int .i64 bi, .int .i64 at2] 153))
  by_cases h1 : at1 < at2
  · have h1' : decide (at1 < at2) = true := by simpa using h1
    have HR := hide (show tlt ⟨ai, at1⟩ ⟨bi, at2⟩ = true by simp [tlt, h1])
    clear h1
    go_enter Try.func146, Try.ntmps146
    go_wp2
    go_ret
    rw [HR.out]
    exact ⟨rfl, HB.out⟩
  · have h1' : decide (at1 < at2) = false := by simpa using h1
    by_cases h2 : at1 = at2
    · have h2' : (at1 == at2) = true := by simpa using h2
      have HR := hide (show tlt ⟨ai, at1⟩ ⟨bi, at2⟩ = decide (ai < bi) by simp [tlt, h2])
      clear h1 h2
      go_enter Try.func146, Try.ntmps146
      go_wp2
      go_ret
      rw [HR.out]
      exact ⟨rfl, HB.out⟩
    · have h2' : (at1 == at2) = false := by simpa using h2
      have HR := hide (show tlt ⟨ai, at1⟩ ⟨bi, at2⟩ = false by simp [tlt, h1, h2])
      clear h1 h2
      go_enter Try.func146, Try.ntmps146
      go_wp2
      go_ret
      rw [HR.out]
      exact ⟨rfl, HB.out⟩
set_option maxRecDepth 100000 in
theorem pless_any {w : World} {B p c : Nat} {v : Value} {l : List Tm} {f : Int → Option Int} (h : PV w B p c v l f) (i j : Nat) (hi : i < l.length) (hj : j < l.length) :
    Calls Try.prog 142 #[.pointer (some ⟨p, 0, none⟩), .int .i64 (i : Int), .int .i64 (j : Int)] w fun e w' => e = .returned (.bool (tlt (tat l i) (tat l j))) ∧ Below w.heap.size w w' := by
  obtain ⟨r, cap, rfl, hn, hc, -, hrl, hcell⟩ := EK.row_cells h.2.1 hi
  obtain ⟨r', cap', e2, -, -, -, -, hcell2⟩ := EK.row_cells h.2.1 hj
  cases e2
  simp only [maxLen] at hc
  have z0 := obj_cell h.1 0
  have z2 := obj_cell h.1 2
  simp only [List.getElem?_toArray, List.getElem?_cons_zero, List.getElem?_cons_succ, byT] at z0 z2
  obtain ⟨a, ha⟩ : ∃ a, a = tat l i := ⟨_, rfl⟩
  obtain ⟨b, hb⟩ : ∃ b, b = tat l j := ⟨_, rfl⟩
  have a0 : w.cell? ⟨r, i * 2, none⟩ = some (.int .i64 a.id) := by rw [ha, tat_eq hi]; exact hcell 0 (by decide)
  have a1 : w.cell? ⟨r, i * 2 + 1, none⟩ = some (.int .i64 a.at_) := by rw [ha, tat_eq hi]; exact hcell 1 (by decide)
  have b0 : w.cell? ⟨r, j * 2, none⟩ = some (.int .i64 b.id) := by rw [hb, tat_eq hj]; exact hcell2 0 (by decide)
  have b1 : w.cell? ⟨r, j * 2 + 1, none⟩ = some (.int .i64 b.at_) := by rw [hb, tat_eq hj]; exact hcell2 1 (by decide)
  rw [← ha, ← hb]
  have hii : (i : Int) < (l.length : Int) := by omega
  have hji : (j : Int) < (l.length : Int) := by omega
  have HA := hide (ahead_any a b)
  obtain ⟨n, hnn⟩ : ∃ n, n = l.length := ⟨_, rfl⟩
  rw [← hnn] at z0 hn hii hji
  clear h ha hb hcell hcell2 hi hj hnn
  go_enter Try.func142, Try.ntmps142
  go_wp2_with fail
  refine wp_stl 20 (by kernel_rfl) (by kernel_rfl) ?_
  simp only [List.take_succ_cons, List.take_zero, List.drop_succ_cons, List.drop_zero]
  repeat still_step
  refine wpStill_nil ?_
  go_wp2_with fail
  refine upon_meth 146 (.agg #[]) (by kernel_rfl) ?_
  go_wp2_with fail
  refine (HA.out _).mono ?_
  rintro e w1 ⟨rfl, hb1⟩
  have hb2 : Below w.heap.size w w1 := (Below.refl w.heap.size w).drew.trans hb1
  clear hb1
  go_wp2
  go_ret
  exact ⟨rfl, hb2⟩
end Go.Proofs.Ythcnoamgkkbkcaa
