/- As Ord7, with operations that are not wanted (a guard says no): they give undef. -/
import Derived.Test.YthcnoamgkkbkcaaOrd7
namespace Go.Proofs.Ythcnoamgkkbkcaa
open Go.RowKit

section
variable {P : Program} {ops : Array Oper} {Q : Exit → Act → World → Prop}
def StepsE (P : Program) (ops : Array Oper) (Q : Exit → Act → World → Prop) (A : (Nat → Value) → Act) (S : (Nat → Bool) → (Nat → Value) → World → Prop) (V : Nat → Value → Prop) : List Oper → Nat → Prop
  | [], _ => True
  | o :: l, i => (∀ d x w, S d x w → d i = false → (∀ j, d j = true → V j (x j)) → (∀ j, ancB ops i j = true → d j = true) → (∀ k j, d k = true → ancB ops k j = true → d j = true) → ∀ K : Act → World → Prop,
      (∀ v w', S (fun j => if j = i then true else d j) (fun j => if j = i then v else x j) w' → V i v → K ((A x).put o.dst v) w') → if Region.wanted o (yielded ops (A x).tmps) = true then Oper.wp P o (A x) w K Q else K ((A x).put o.dst undef) w) ∧ StepsE P ops Q A S V l (i + 1)
theorem StepsE.get {A : (Nat → Value) → Act} {S : (Nat → Bool) → (Nat → Value) → World → Prop} {V : Nat → Value → Prop} : ∀ (l : List Oper) (k : Nat), StepsE P ops Q A S V l k → ∀ (i : Nat) (o : Oper), l[i]? = some o →
    ∀ d x w, S d x w → d (k + i) = false → (∀ j, d j = true → V j (x j)) → (∀ j, ancB ops (k + i) j = true → d j = true) → (∀ k j, d k = true → ancB ops k j = true → d j = true) → ∀ K : Act → World → Prop,
      (∀ v w', S (fun j => if j = k + i then true else d j) (fun j => if j = k + i then v else x j) w' → V (k + i) v → K ((A x).put o.dst v) w') → if Region.wanted o (yielded ops (A x).tmps) = true then Oper.wp P o (A x) w K Q else K ((A x).put o.dst undef) w
  | [], _, _, _, _, h => by simp at h
  | _ :: _, _, hs, 0, _, h => by
    simp only [List.getElem?_cons_zero, Option.some.injEq] at h
    subst h
    exact hs.1
  | _ :: l, k, hs, i + 1, o, h => by
    have := StepsE.get l (k + 1) hs.2 i o (by simpa using h)
    rw [show k + 1 + i = k + (i + 1) from by omega] at this
    exact this
theorem wp_region_e {id : Nat} (F : (Nat → Value) → (Nat → Value) → Act) (pos : Nat → Nat) (S : (Nat → Bool) → (Nat → Value) → World → Prop) (V : Nat → Value → Prop) {a : Act} {w : World}
    (hm : P.follows .mixedOrders = true) (hord : orderedB ops = true) (ha : a = F (fun j => a.tmps.getD j undef) (fun j => a.tmps.getD (pos j) undef)) (h0 : S (fun _ => false) (fun j => a.tmps.getD (pos j) undef) w.drew)
    (hput : ∀ u, Puts (F u) ops.toList 0) (hstep : ∀ u, StepsE P ops Q (F u) S V ops.toList 0)
    (hdone : ∀ u, (u = fun j => a.tmps.getD j undef) → ∀ d x w', S d x w' → (∀ i, i < ops.size → d i = true) → (∀ i, i < ops.size → V i (x i)) → Q .normal (F u x) w') : (Code.region id ops true).wp P Q a w := by
  obtain ⟨u, hu⟩ : ∃ u : Nat → Value, u = fun j => a.tmps.getD j undef := ⟨_, rfl⟩
  have hput1 := hput u
  have hstep1 := hstep u
  have hdone1 := hdone u hu
  clear hput hstep hdone
  rw [← hu] at ha
  generalize (fun j => a.tmps.getD (pos j) undef) = x0 at ha h0
  subst ha
  clear hu
  refine wp_region_any hm (wpAny_inv (fun li a w => ∃ x, a = F u x ∧ S (fun j => li.getD j false) x w ∧ Closed ops li ∧ li.size = ops.size ∧ ∀ i, li.getD i false = true → V i (x i)) hord ?_ ?_ _ _ _ _ (by simp) ?_ ⟨x0, rfl, ?_, ?_, ?_, ?_⟩)
  · rintro l a w _ ⟨x, rfl, hs, hc, hz, hv⟩ hall
    exact hdone1 _ x w hs hall fun i hi => hv i (hall i hi)
  · rintro i o ho l a w ⟨x, rfl, hs, hc, hz, hv⟩ h0 hdep K hK
    have hl : ops.toList[i]? = some o := by rw [Array.getElem?_toList]; exact ho
    have hi2 : i < ops.size := (Array.getElem?_eq_some_iff.1 ho).1
    have hil : i < l.size := by omega
    have hdi : l.getD i false = false := by
      simp only [Array.getD_eq_getD_getElem?, Array.getElem?_eq_getElem hil, Option.getD_some] at h0 ⊢
      exact h0
    have hset : (fun j => (l.setIfInBounds i true).getD j false) = fun j => if j = 0 + i then true else l.getD j false := by
      funext j
      rw [Nat.zero_add]
      by_cases hji : j = i
      · subst hji
        simp [hil]
      · rw [getD_set_ne false (Ne.symm hji), if_neg hji]
    have hc2 : Closed ops (l.setIfInBounds i true) := by
      intro j o' ho' hj e he hb
      have hget : ∀ k, (l.setIfInBounds i true).getD k false = if k = i then true else l.getD k false := fun k => by
        have := congrFun hset k
        simpa using this
      rw [hget] at hj ⊢
      by_cases hji : j = i
      · subst hji
        rw [ho] at ho'
        cases ho'
        split
        · rfl
        · exact hdep e he hb
      · rw [if_neg hji] at hj
        split
        · rfl
        · exact hc j o' ho' hj e he hb
    have hanc : ∀ k j, l.getD k false = true → ancB ops k j = true → l.getD j false = true := fun k j hk hj => ancs_sound (d := fun j => l.getD j false) (fun j o ho hj => hc j o ho hj) ops.size k j hj hk
    have hanc2 : ∀ j, ancB ops i j = true → j ≠ i → l.getD j false = true := fun j hj hne => by
      have h := ancs_sound (ops := ops) (d := fun j => (l.setIfInBounds i true).getD j false) (fun j o ho hj => hc2 j o ho hj) ops.size i j hj (by simp [hil])
      rwa [getD_set_ne false (Ne.symm hne)] at h
    have hg : if Region.wanted o (yielded ops (F u x).tmps) = true then Oper.wp P o (F u x) w K Q else K ((F u x).put o.dst undef) w := by
      refine StepsE.get ops.toList 0 hstep1 i o hl (fun j => l.getD j false) x w hs (by rw [Nat.zero_add]; exact hdi) hv (fun j hj => ?_) hanc K fun v w' hs' hv' => hK _ _ ⟨fun j => if j = 0 + i then v else x j, Puts.get ops.toList 0 hput1 i o hl x v, by rw [hset]; exact hs', hc2, by simpa using hz, fun j hj => ?_⟩
      · rw [Nat.zero_add] at hj
        by_cases hji : j = i
        · subst hji
          exfalso
          have hlt : ∀ n k j, ((ancs ops n).getD k 0).testBit j = true → j < k := by
            intro n
            induction n with
            | zero => intro k j h; simp [ancs] at h
            | succ n ih =>
              intro k j h
              have hl := ancs_length ops n
              unfold ancs at h
              rw [List.getD_eq_getElem?_getD] at h
              rcases Nat.lt_trichotomy k n with h1 | rfl | h1
              · rw [List.getElem?_append_left (by omega), ← List.getD_eq_getElem?_getD] at h
                exact ih k j h
              · rw [List.getElem?_append_right (by omega), hl, Nat.sub_self, List.getElem?_cons_zero, Option.getD_some] at h
                rcases ho : ops[k]? with _ | o
                · rw [ho] at h
                  simp at h
                · rw [ho] at h
                  rcases ancsOf_fold _ j _ 0 h with h2 | ⟨e, he, hb, h2⟩
                  · simp at h2
                  · have h3 := orderedB_spec hord ho e (by simpa using he) hb
                    rcases h2 with h2 | h2
                    · omega
                    · have := ih e.on j h2
                      omega
              · rw [List.getElem?_append_right (by omega), List.getElem?_eq_none (by simp; omega)] at h
                simp at h
          exact absurd (hlt _ _ _ hj) (by omega)
        · exact hanc2 j hj hji
      · by_cases hji : j = i
        · subst hji
          show V j (if j = 0 + j then v else x j)
          rw [Nat.zero_add, if_pos rfl]
          rw [Nat.zero_add] at hv'
          exact hv'
        · show V j (if j = 0 + i then v else x j)
          rw [Nat.zero_add, if_neg hji]
          rw [getD_set_ne false (Ne.symm hji)] at hj
          exact hv j hj
    exact hg
  · simp
  · have : (fun j => (Array.replicate ops.size false).getD j false) = fun _ => false := by
      funext j
      simp [Array.getElem?_replicate]
      split <;> rfl
    rw [this]
    exact h0
  · intro j o ho hj
    exfalso
    simp [Array.getElem?_replicate] at hj
    split at hj <;> simp at hj
  · simp
  · intro i hi
    exfalso
    simp [Array.getElem?_replicate] at hi
    split at hi <;> simp at hi
end
end Go.Proofs.Ythcnoamgkkbkcaa
