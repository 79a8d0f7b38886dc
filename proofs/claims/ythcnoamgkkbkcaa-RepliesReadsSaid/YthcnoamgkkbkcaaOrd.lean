/- A region that draws its order, by what each operation yields: whatever order, number i yields a value of V i, and the world stays one of S. -/
import Derived.Test.YthcnoamgkkbkcaaBase
import Derived.RegionTactic
namespace Go.Proofs.Ythcnoamgkkbkcaa
open Go.RowKit

section
variable {P : Program} {ops : Array Oper} {Q : Exit → Act → World → Prop}

/-- An operation waits for earlier ones alone. -/
def orderedB (ops : Array Oper) : Bool := (List.range ops.size).all fun i => match ops[i]? with | some o => o.after.all fun e => !Region.binds .any e || decide (e.on < i) | none => true
theorem orderedB_spec (h : orderedB ops = true) {i : Nat} {o : Oper} (ho : ops[i]? = some o) : ∀ e ∈ o.after, Region.binds .any e = true → e.on < i := fun e he hb => by
  have h1 := List.all_eq_true.1 h i (List.mem_range.2 (Array.getElem?_eq_some_iff.1 ho).1)
  rw [ho] at h1
  have h2 := Array.all_eq_true_iff_forall_mem.1 h1 e he
  simp only [hb, Bool.not_true, Bool.false_or, decide_eq_true_eq] at h2
  exact h2
theorem all_listed (h : orderedB ops = true) {l : Array Bool} (hl : l.size = ops.size) (hr : Region.ready .any ops l = []) : ∀ i, i < ops.size → l.getD i false = true := by
  intro i
  induction i using Nat.strongRecOn with
  | _ i ih =>
    intro hi
    rcases hc : l.getD i false with _ | _
    · exfalso
      have ho : ops[i]? = some ops[i] := Array.getElem?_eq_getElem hi
      have hm : i ∈ Region.ready .any ops l := mem_ready.2 ⟨by
        have hi2 : i < l.size := by omega
        simp [Array.getElem?_eq_getElem hi2] at hc ⊢
        exact hc, _, ho, fun e he hb => ih e.on (orderedB_spec h ho e he hb) (by have := orderedB_spec h ho e he hb; omega)⟩
      rw [hr] at hm
      cases hm
    · rfl
theorem wpAny_inv (J : Array Bool → Act → World → Prop) (hord : orderedB ops = true)
    (hdone : ∀ l a w, l.size = ops.size → J l a w → (∀ i, i < ops.size → l.getD i false = true) → Q .normal a w)
    (hstep : ∀ i o, ops[i]? = some o → ∀ l a w, J l a w → l.getD i true = false → (∀ e ∈ o.after, Region.binds .any e = true → l.getD e.on false = true) →
      ∀ K : Act → World → Prop, (∀ a' w', J (l.setIfInBounds i true) a' w' → K a' w') → if Region.wanted o (yielded ops a.tmps) = true then Oper.wp P o a w K Q else K (a.put o.dst undef) w) :
    ∀ (fuel : Nat) (l : Array Bool) (a : Act) (w : World), l.size = ops.size → l.toList.count false ≤ fuel → J l a w → wpAny P .any ops Q fuel l a w
  | 0, l, a, w, hl, hc, hJ => by
    have hr : Region.ready .any ops l = [] := by
      rcases e : Region.ready .any ops l with _ | ⟨i, r⟩
      · rfl
      · exfalso
        have hi : i ∈ Region.ready .any ops l := by rw [e]; exact List.mem_cons_self
        have h0 := (mem_ready.1 hi).1
        have hi2 : i < l.size := by
          rcases Nat.lt_or_ge i l.size with h' | h'
          · exact h'
          · simp [Array.getElem?_eq_none h'] at h0
        simp [Array.getElem?_eq_getElem hi2] at h0
        have : false ∈ l.toList := by
          rw [← h0]
          exact Array.getElem_mem_toList hi2
        have := List.count_pos_iff.2 this
        omega
    exact ⟨hr, hdone l a w hl hJ (all_listed hord hl hr)⟩
  | fuel + 1, l, a, w, hl, hc, hJ => by
    refine ⟨fun hr => hdone l a w hl hJ (all_listed hord hl hr), fun i hi => ?_⟩
    obtain ⟨h0, o, ho, hdep⟩ := mem_ready.1 hi
    refine wpOp_step ho fun K hK => hstep i o ho l a w hJ h0 hdep K fun a' w' h' => hK a' w' ?_
    refine wpAny_inv J hord hdone hstep fuel _ a' w' (by simpa using hl) ?_ h'
    have hi2 : i < l.size := by
      rcases Nat.lt_or_ge i l.size with h' | h'
      · exact h'
      · simp [Array.getElem?_eq_none h'] at h0
    have h1 : l[i] = false := by simpa [Array.getElem?_eq_getElem hi2] using h0
    have h2 : l.toList[i]'(by simpa using hi2) = false := h1
    have hm : false ∈ l.toList := by rw [← h1]; exact Array.getElem_mem_toList hi2
    have hp := List.count_pos_iff.2 hm
    rw [Array.toList_setIfInBounds, List.count_set (by simpa using hi2), h2]
    simp only [BEq.rfl, if_true, Bool.true_beq, Bool.false_eq_true, if_false]
    omega

theorem wanted_none {o : Oper} (h : o.guard = none) (f : Nat → Option Bool) : Region.wanted o f = true := by unfold Region.wanted; rw [h]
/-- What is asked of each operation, one by one. -/
def Steps (P : Program) (ops : Array Oper) (Q : Exit → Act → World → Prop) (A : (Nat → Value) → Act) (S : World → Prop) (V : Nat → Value → World → Prop) : List Oper → Nat → Prop
  | [], _ => True
  | o :: l, i => (∀ x w, S w → (∀ e ∈ o.after.toList.filter (Region.binds .any), V e.on (x e.on) w) → ∀ K : Act → World → Prop,
      (∀ v w', Below w.heap.size w w' → V i v w' → K ((A x).put o.dst v) w') → Region.wanted o (yielded ops (A x).tmps) = true ∧ Oper.wp P o (A x) w K Q) ∧ Steps P ops Q A S V l (i + 1)
theorem Steps.get {A : (Nat → Value) → Act} {S : World → Prop} {V : Nat → Value → World → Prop} : ∀ (l : List Oper) (k : Nat), Steps P ops Q A S V l k → ∀ (i : Nat) (o : Oper), l[i]? = some o →
    ∀ x w, S w → (∀ e ∈ o.after.toList.filter (Region.binds .any), V e.on (x e.on) w) → ∀ K : Act → World → Prop,
      (∀ v w', Below w.heap.size w w' → V (k + i) v w' → K ((A x).put o.dst v) w') → Region.wanted o (yielded ops (A x).tmps) = true ∧ Oper.wp P o (A x) w K Q
  | [], _, _, _, _, h => by simp at h
  | _ :: _, _, hs, 0, _, h => by
    simp only [List.getElem?_cons_zero, Option.some.injEq] at h
    subst h
    exact hs.1
  | _ :: l, k, hs, i + 1, o, h => by
    have := Steps.get l (k + 1) hs.2 i o (by simpa using h)
    rw [show k + 1 + i = k + (i + 1) from by omega] at this
    exact this
def Puts (A : (Nat → Value) → Act) : List Oper → Nat → Prop
  | [], _ => True
  | o :: l, i => (∀ x v, (A x).put o.dst v = A (fun j => if j = i then v else x j)) ∧ Puts A l (i + 1)
theorem Puts.get {A : (Nat → Value) → Act} : ∀ (l : List Oper) (k : Nat), Puts A l k → ∀ (i : Nat) (o : Oper), l[i]? = some o → ∀ x v, (A x).put o.dst v = A (fun j => if j = k + i then v else x j)
  | [], _, _, _, _, h => by simp at h
  | _ :: _, _, hs, 0, _, h => by
    simp only [List.getElem?_cons_zero, Option.some.injEq] at h
    subst h
    exact hs.1
  | _ :: l, k, hs, i + 1, o, h => by
    have := Puts.get l (k + 1) hs.2 i o (by simpa using h)
    rw [show k + 1 + i = k + (i + 1) from by omega] at this
    exact this

theorem wp_region_vals {id : Nat} (A : (Nat → Value) → Act) (x0 : Nat → Value) (S : World → Prop) (V : Nat → Value → World → Prop) {a : Act} {w : World}
    (hm : P.follows .mixedOrders = true) (hord : orderedB ops = true) (ha : a = A x0)
    (hS : ∀ w w', Below w.heap.size w w' → S w → S w') (hV : ∀ i v w w', Below w.heap.size w w' → V i v w → V i v w') (h0 : S w.drew)
    (hput : Puts A ops.toList 0) (hstep : Steps P ops Q A S V ops.toList 0)
    (hdone : ∀ x w', S w' → (∀ i, i < ops.size → V i (x i) w') → Q .normal (A x) w') : (Code.region id ops true).wp P Q a w := by
  subst ha
  refine wp_region_any hm (wpAny_inv (fun l a w => ∃ x, a = A x ∧ S w ∧ ∀ i, l.getD i false = true → V i (x i) w) hord ?_ ?_ _ _ _ _ (by simp) ?_ ⟨x0, rfl, h0, ?_⟩)
  · rintro l a w _ ⟨x, rfl, hs, hv⟩ hall
    exact hdone x w hs fun i hi => hv i (hall i hi)
  · rintro i o ho l a w ⟨x, rfl, hs, hv⟩ h0 hdep K hK
    have hl : ops.toList[i]? = some o := by rw [Array.getElem?_toList]; exact ho
    have hg : Region.wanted o (yielded ops (A x).tmps) = true ∧ Oper.wp P o (A x) w K Q := by
     refine Steps.get ops.toList 0 hstep i o hl x w hs (fun e he => ?_) K fun v w' hb hv' => hK _ _ ⟨fun j => if j = 0 + i then v else x j, Puts.get ops.toList 0 hput i o hl x v, hS _ _ hb hs, fun j hj => ?_⟩
     · rw [List.mem_filter] at he
       exact hv e.on (hdep e (by simpa using he.1) he.2)
     · by_cases hji : j = i
       · subst hji
         show V j (if j = 0 + j then v else x j) w'
         rw [Nat.zero_add, if_pos rfl]
         rw [Nat.zero_add] at hv'
         exact hv'
       · show V j (if j = 0 + i then v else x j) w'
         rw [Nat.zero_add, if_neg hji]
         rw [getD_set_ne false (Ne.symm hji)] at hj
         exact hV _ _ _ _ hb (hv j hj)
    rw [if_pos hg.1]
    exact hg.2
  · simp
  · intro i hi
    exfalso
    simp [Array.getElem?_replicate] at hi
    split at hi <;> simp at hi
end
end Go.Proofs.Ythcnoamgkkbkcaa
