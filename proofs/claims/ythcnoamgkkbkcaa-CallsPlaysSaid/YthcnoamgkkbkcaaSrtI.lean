/- slices.Sort of a row of numbers. -/
import Derived.Test.YthcnoamgkkbkcaaTiF
import Derived.Test.YthcnoamgkkbkcaaLib1
namespace Go.Proofs.Ythcnoamgkkbkcaa
open Go.RowKit

theorem kI_vals (l : List Int) : kI.vals l = l.map (Value.int .i64) := by
  unfold EK.vals
  induction l with
  | nil => rfl
  | cons a l ih => rw [List.flatMap_cons, ih]; rfl
def lenV (v : Value) : Nat := match v with
  | .slice _ n _ => n
  | _ => 0
theorem sorted_getD (l : List Int) (j : Nat) (h : j < l.length) : (l.toArray)[j]! = l[j] := by
  rw [getElem!_pos _ j (by simpa using h)]
  simp
/-- slices.Sort of a row. -/
theorem sort_row {w : World} {B : Nat} {v : Value} {l : List Int} (h : kI.row w B v l) (hl : l.length ≤ 1073741824) :
    Calls Try.prog 52 #[v] w fun e w' => e = .returned (.tuple #[]) ∧ kI.row w' B v (l.mergeSort fun x y => decide (x ≤ y)) ∧ Fr (fun j => v.ownBlock = some j) w w' := by
  rcases h.2 with ⟨rfl, h0⟩ | ⟨g, cap, cur, rfl, hb, hc, hn, hm, hs, ht⟩
  · have e : l = [] := List.length_eq_zero_iff.1 h0
    subst e
    refine (sh_slices_Sort_int_none none 0 w).mono ?_
    rintro e w' ⟨rfl, rfl⟩
    exact ⟨rfl, by rw [List.mergeSort_nil]; exact h, Fr.refl _ _⟩
  · have hcl : ∀ j (hj : j < l.length), cur[j]? = some (.int .i64 l[j]) := fun j hj => by
      have e1 : (kI.vals l)[j]? = some (.int .i64 l[j]) := by rw [kI_vals]; simp [hj]
      rw [← Array.getElem?_toList, ← e1, ← ht, List.getElem?_take, if_pos (by rw [show kI.sz = 1 from rfl]; omega)]
    refine (sh_slices_Sort_int g 0 cap l w (fun j hj => ?_) (obj_lt hc) (by omega)).mono ?_
    · have hj' : j < l.length := by simpa using hj
      refine ⟨?_, obj_frozen hc _⟩
      rw [Nat.zero_add, obj_cell hc, hcl j hj', sorted_getD l j hj']
    · rintro e w' ⟨rfl, n, os, rfl⟩
      have hblk : ∀ k, k < w.heap.size → (Go.Sort.grow (Go.Sort.putRow (Value.int .i64) (Go.Sort.ahead w n) g 0 (l.mergeSort fun x y => decide (x ≤ y)).toArray) os).heap[k]? = if g = k then some (.cells (Go.Sort.putCells (Value.int .i64) 0 (l.mergeSort fun x y => decide (x ≤ y)).toArray cur) 3 (0, 0)) else w.heap[k]? := fun k hk => by
        show ((w.heap.modify g (Go.Sort.onCells _)) ++ os)[k]? = _
        rw [Array.getElem?_append_left (by simpa using hk), Array.getElem?_modify]
        split
        · rename_i e
          subst e
          rw [hc]
          rfl
        · rfl
      have hg := hblk g (obj_lt hc)
      rw [if_pos rfl] at hg
      have hlen : (l.mergeSort fun x y => decide (x ≤ y)).length = l.length := List.length_mergeSort _
      refine ⟨rfl, ⟨by rw [EK.vlen], .inr ⟨g, cap, _, by rw [hlen], hb, hg, by rw [hlen]; exact hn, hm, ?_, ?_⟩⟩, rfl, rfl, rfl, ?_, fun k hk hk2 => ?_⟩
      · simpa [Go.Sort.putCells] using hs
      · have hcs : l.length ≤ cur.size := by
          rw [hs]
          show l.length ≤ cap * 1
          omega
        rw [kI_vals, hlen, show l.length * kI.sz = l.length from Nat.mul_one _]
        apply List.ext_getElem?
        intro j
        rw [List.getElem?_take]
        by_cases hj : j < l.length
        · rw [if_pos hj, Array.getElem?_toList]
          have hjc : j < cur.size := by omega
          simp only [Go.Sort.putCells, Array.getElem?_mapIdx, Array.getElem?_eq_getElem hjc, Option.map_some, Nat.zero_le, true_and, Nat.zero_add, Nat.sub_zero]
          rw [if_pos (by simpa [hlen] using hj), sorted_getD _ j (by rw [hlen]; exact hj)]
          simp [hlen, hj]
        · rw [if_neg hj, List.getElem?_eq_none (by rw [List.length_map, hlen]; omega)]
      · show w.heap.size ≤ ((w.heap.modify g (Go.Sort.onCells _)) ++ os).size
        simp
      · rw [hblk k hk, if_neg (fun e => hk2 (by rw [e]; rfl))]
end Go.Proofs.Ythcnoamgkkbkcaa
