/- A region that draws its order, by what each operation yields; what holds of the world may turn with what has come up. -/
import Derived.Test.YtljmaicobafgkaaOrd3
namespace Go.Proofs.Ytljmaicobafgkaa
open Go.RowKit

section
variable {P : Program} {ops : Array Oper} {Q : Exit → Act → World → Prop}
theorem wp_region_g {id : Nat} (A : (Nat → Value) → Act) (x0 : Nat → Value) (S : (Nat → Value) → World → Prop) (V : Nat → Value → World → Prop) {a : Act} {w : World}
    (hm : P.follows .mixedOrders = true) (hord : orderedB ops = true) (ha : a = A x0) (h0 : S x0 w.drew)
    (hput : Puts A ops.toList 0) (hstep : StepsG P ops Q A x0 S V ops.toList 0)
    (hdone : ∀ x w', S x w' → (∀ i, i < ops.size → V i (x i) w') → Q .normal (A x) w') : (Code.region id ops true).wp P Q a w := by
  subst ha
  refine wp_region_any hm (wpAny_inv (fun li a w => ∃ x, a = A x ∧ S x w ∧ (∀ i, li.getD i false = true → V i (x i) w) ∧ ∀ i, i < ops.size → li.getD i false = false → x i = x0 i) hord ?_ ?_ _ _ _ _ (by simp) ?_ ⟨x0, rfl, h0, ?_, fun _ _ _ => rfl⟩)
  · rintro l a w _ ⟨x, rfl, hs, hv, _⟩ hall
    exact hdone x w hs fun i hi => hv i (hall i hi)
  · rintro i o ho l a w ⟨x, rfl, hs, hv, hu⟩ h0 hdep K hK
    have hl : ops.toList[i]? = some o := by rw [Array.getElem?_toList]; exact ho
    have hi2 : i < ops.size := (Array.getElem?_eq_some_iff.1 ho).1
    have hil : i < l.size := by
      rcases Nat.lt_or_ge i l.size with h' | h'
      · exact h'
      · simp [Array.getElem?_eq_none h'] at h0
    have hxi : x i = x0 i := hu i hi2 (by
      simp only [Array.getD_eq_getD_getElem?, Array.getElem?_eq_getElem hil, Option.getD_some] at h0 ⊢
      exact h0)
    have hg : Region.wanted o (yielded ops (A x).tmps) = true ∧ Oper.wp P o (A x) w K Q := by
      refine StepsG.get ops.toList 0 hstep i o hl x w hs (by rw [Nat.zero_add]; exact hxi) (fun e he => ?_) K fun v w' hs' hv' hst => hK _ _ ⟨fun j => if j = 0 + i then v else x j, Puts.get ops.toList 0 hput i o hl x v, hs', fun j hj => ?_, fun j hjl hj => ?_⟩
      · rw [List.mem_filter] at he
        exact hv e.on (hdep e (by simpa using he.1) he.2)
      · by_cases hji : j = i
        · subst hji
          show V j (if j = 0 + j then v else x j) w'
          rw [Nat.zero_add, if_pos rfl]
          rw [Nat.zero_add] at hv'
          exact hv'
        · show V j (if j = 0 + i then v else x j) w'
          rw [Nat.zero_add, if_neg hji]
          rw [getD_set_ne false (Ne.symm hji)] at hj
          exact hst j _ (by omega) (hv j hj)
      · show (if j = 0 + i then v else x j) = x0 j
        by_cases hji : j = i
        · subst hji
          simp [hil] at hj
        · rw [Nat.zero_add, if_neg hji]
          rw [getD_set_ne false (Ne.symm hji)] at hj
          exact hu j hjl hj
    rw [if_pos hg.1]
    exact hg.2
  · simp
  · intro i hi
    exfalso
    simp [Array.getElem?_replicate] at hi
    split at hi <;> simp at hi
end
end Go.Proofs.Ytljmaicobafgkaa
