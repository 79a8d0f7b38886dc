/- A region that draws its order, by what each operation yields; what holds of the world may turn with what has come up (told by d). -/
import Derived.Test.YthcnoamgkkbkcaaOrd3
namespace Go.Proofs.Ythcnoamgkkbkcaa
open Go.RowKit

section
variable {P : Program} {ops : Array Oper} {Q : Exit → Act → World → Prop}
def StepsD (P : Program) (ops : Array Oper) (Q : Exit → Act → World → Prop) (A : (Nat → Value) → Act) (S : (Nat → Bool) → (Nat → Value) → World → Prop) (V : Nat → Value → World → Prop) : List Oper → Nat → Prop
  | [], _ => True
  | o :: l, i => (∀ d x w, S d x w → d i = false → (∀ e ∈ o.after.toList.filter (Region.binds .any), V e.on (x e.on) w) → (∀ e ∈ o.after.toList.filter (Region.binds .any), d e.on = true) → ∀ K : Act → World → Prop,
      (∀ v w', S (fun j => if j = i then true else d j) (fun j => if j = i then v else x j) w' → V i v w' → (∀ j u, j ≠ i → V j u w → V j u w') → K ((A x).put o.dst v) w') → Region.wanted o (yielded ops (A x).tmps) = true ∧ Oper.wp P o (A x) w K Q) ∧ StepsD P ops Q A S V l (i + 1)
theorem StepsD.get {A : (Nat → Value) → Act} {S : (Nat → Bool) → (Nat → Value) → World → Prop} {V : Nat → Value → World → Prop} : ∀ (l : List Oper) (k : Nat), StepsD P ops Q A S V l k → ∀ (i : Nat) (o : Oper), l[i]? = some o →
    ∀ d x w, S d x w → d (k + i) = false → (∀ e ∈ o.after.toList.filter (Region.binds .any), V e.on (x e.on) w) → (∀ e ∈ o.after.toList.filter (Region.binds .any), d e.on = true) → ∀ K : Act → World → Prop,
      (∀ v w', S (fun j => if j = k + i then true else d j) (fun j => if j = k + i then v else x j) w' → V (k + i) v w' → (∀ j u, j ≠ k + i → V j u w → V j u w') → K ((A x).put o.dst v) w') → Region.wanted o (yielded ops (A x).tmps) = true ∧ Oper.wp P o (A x) w K Q
  | [], _, _, _, _, h => by simp at h
  | _ :: _, _, hs, 0, _, h => by
    simp only [List.getElem?_cons_zero, Option.some.injEq] at h
    subst h
    exact hs.1
  | _ :: l, k, hs, i + 1, o, h => by
    have := StepsD.get l (k + 1) hs.2 i o (by simpa using h)
    rw [show k + 1 + i = k + (i + 1) from by omega] at this
    exact this
theorem wp_region_d {id : Nat} (A : (Nat → Value) → Act) (x0 : Nat → Value) (S : (Nat → Bool) → (Nat → Value) → World → Prop) (V : Nat → Value → World → Prop) {a : Act} {w : World}
    (hm : P.follows .mixedOrders = true) (hord : orderedB ops = true) (ha : a = A x0) (h0 : S (fun _ => false) x0 w.drew)
    (hput : Puts A ops.toList 0) (hstep : StepsD P ops Q A S V ops.toList 0)
    (hdone : ∀ d x w', S d x w' → (∀ i, i < ops.size → d i = true) → (∀ i, i < ops.size → V i (x i) w') → Q .normal (A x) w') : (Code.region id ops true).wp P Q a w := by
  subst ha
  refine wp_region_any hm (wpAny_inv (fun li a w => ∃ x, a = A x ∧ S (fun j => li.getD j false) x w ∧ ∀ i, li.getD i false = true → V i (x i) w) hord ?_ ?_ _ _ _ _ (by simp) ?_ ⟨x0, rfl, ?_, ?_⟩)
  · rintro l a w _ ⟨x, rfl, hs, hv⟩ hall
    exact hdone _ x w hs hall fun i hi => hv i (hall i hi)
  · rintro i o ho l a w ⟨x, rfl, hs, hv⟩ h0 hdep K hK
    have hl : ops.toList[i]? = some o := by rw [Array.getElem?_toList]; exact ho
    have hi2 : i < ops.size := (Array.getElem?_eq_some_iff.1 ho).1
    have hil : i < l.size := by
      rcases Nat.lt_or_ge i l.size with h' | h'
      · exact h'
      · simp [Array.getElem?_eq_none h'] at h0
    have hdi : l.getD i false = false := by
      simp only [Array.getD_eq_getD_getElem?, Array.getElem?_eq_getElem hil, Option.getD_some] at h0 ⊢
      exact h0
    have hset : (fun j => (l.setIfInBounds i true).getD j false) = fun j => if j = 0 + i then true else l.getD j false := by
      funext j
      rw [Nat.zero_add]
      by_cases hji : j = i
      · subst hji
        simp [hil]
      · rw [getD_set_ne false (Ne.symm hji), if_neg hji]
    have hg : Region.wanted o (yielded ops (A x).tmps) = true ∧ Oper.wp P o (A x) w K Q := by
      refine StepsD.get ops.toList 0 hstep i o hl (fun j => l.getD j false) x w hs (by rw [Nat.zero_add]; exact hdi) (fun e he => ?_) (fun e he => ?_) K fun v w' hs' hv' hst => hK _ _ ⟨fun j => if j = 0 + i then v else x j, Puts.get ops.toList 0 hput i o hl x v, by rw [hset]; exact hs', fun j hj => ?_⟩
      · rw [List.mem_filter] at he
        exact hv e.on (hdep e (by simpa using he.1) he.2)
      · rw [List.mem_filter] at he
        exact hdep e (by simpa using he.1) he.2
      · by_cases hji : j = i
        · subst hji
          show V j (if j = 0 + j then v else x j) w'
          rw [Nat.zero_add, if_pos rfl]
          rw [Nat.zero_add] at hv'
          exact hv'
        · show V j (if j = 0 + i then v else x j) w'
          rw [Nat.zero_add, if_neg hji]
          rw [getD_set_ne false (Ne.symm hji)] at hj
          exact hst j _ (by omega) (hv j hj)
    rw [if_pos hg.1]
    exact hg.2
  · simp
  · have : (fun j => (Array.replicate ops.size false).getD j false) = fun _ => false := by
      funext j
      simp [Array.getElem?_replicate]
      split <;> rfl
    first
      | exact this ▸ h0
      | (rw [this]; exact h0)
  · intro i hi
    exfalso
    simp [Array.getElem?_replicate] at hi
    split at hi <;> simp at hi
end
end Go.Proofs.Ythcnoamgkkbkcaa
