/- A region that draws its order and ends in one operation that waits for all others (a store, mostly). -/
import Derived.Test.YthcnoamgkkbkcaaOrd2
namespace Go.Proofs.Ythcnoamgkkbkcaa
open Go.RowKit

section
variable {P : Program} {ops : Array Oper} {Q : Exit → Act → World → Prop}

/-- Each operation but the last one is waited for by a later one. -/
def lastB (ops : Array Oper) : Bool := (List.range (ops.size - 1)).all fun j => (List.range ops.size).any fun k => decide (j < k) && match ops[k]? with | some o => o.after.any fun e => Region.binds .any e && e.on == j | none => false
theorem lastB_spec (h : lastB ops = true) {j : Nat} (hj : j + 1 < ops.size) : ∃ k o, j < k ∧ ops[k]? = some o ∧ ∃ e ∈ o.after, Region.binds .any e = true ∧ e.on = j := by
  have h1 := List.all_eq_true.1 h j (List.mem_range.2 (by omega))
  obtain ⟨k, _, hk⟩ := List.any_eq_true.1 h1
  simp only [Bool.and_eq_true, decide_eq_true_eq] at hk
  rcases ho : ops[k]? with _ | o
  · rw [ho] at hk
    cases hk.2
  · rw [ho] at hk
    obtain ⟨e, he, hb⟩ := Array.any_eq_true'.1 hk.2
    simp only [Bool.and_eq_true, beq_iff_eq] at hb
    exact ⟨k, o, hk.1, ho, e, he, hb.1, hb.2⟩
/-- What has come up is closed under what it waits for. -/
def Closed (ops : Array Oper) (l : Array Bool) : Prop := ∀ (j : Nat) (o : Oper), ops[j]? = some o → l.getD j false = true → ∀ e ∈ o.after, Region.binds .any e = true → l.getD e.on false = true
theorem all_before (h : lastB ops = true) {l : Array Bool} (hc : Closed ops l) {o : Oper} (ho : ops[ops.size - 1]? = some o) (hd : ∀ e ∈ o.after, Region.binds .any e = true → l.getD e.on false = true) :
    ∀ (n j : Nat), ops.size - j ≤ n → j + 1 < ops.size → l.getD j false = true
  | 0, j, hn, hj => by omega
  | n + 1, j, hn, hj => by
    obtain ⟨k, ok, hjk, hok, e, he, hb, rfl⟩ := lastB_spec h hj
    have hks : k < ops.size := (Array.getElem?_eq_some_iff.1 hok).1
    rcases Nat.lt_or_ge (k + 1) ops.size with h1 | h1
    · exact hc k ok hok (all_before h hc ho hd n k (by omega) h1) e he hb
    · have : k = ops.size - 1 := by omega
      subst this
      rw [ho] at hok
      cases hok
      exact hd e he hb

/-- What is asked of each operation, one by one: S anew, its own value, and the others' values as they were. -/
def StepsG (P : Program) (ops : Array Oper) (Q : Exit → Act → World → Prop) (A : (Nat → Value) → Act) (x0 : Nat → Value) (S : (Nat → Value) → World → Prop) (V : Nat → Value → World → Prop) : List Oper → Nat → Prop
  | [], _ => True
  | o :: l, i => (∀ x w, S x w → x i = x0 i → (∀ e ∈ o.after.toList.filter (Region.binds .any), V e.on (x e.on) w) → ∀ K : Act → World → Prop,
      (∀ v w', S (fun j => if j = i then v else x j) w' → V i v w' → (∀ j u, j ≠ i → V j u w → V j u w') → K ((A x).put o.dst v) w') → Region.wanted o (yielded ops (A x).tmps) = true ∧ Oper.wp P o (A x) w K Q) ∧ StepsG P ops Q A x0 S V l (i + 1)
theorem StepsG.get {A : (Nat → Value) → Act} {x0 : Nat → Value} {S : (Nat → Value) → World → Prop} {V : Nat → Value → World → Prop} : ∀ (l : List Oper) (k : Nat), StepsG P ops Q A x0 S V l k → ∀ (i : Nat) (o : Oper), l[i]? = some o →
    ∀ x w, S x w → x (k + i) = x0 (k + i) → (∀ e ∈ o.after.toList.filter (Region.binds .any), V e.on (x e.on) w) → ∀ K : Act → World → Prop,
      (∀ v w', S (fun j => if j = k + i then v else x j) w' → V (k + i) v w' → (∀ j u, j ≠ k + i → V j u w → V j u w') → K ((A x).put o.dst v) w') → Region.wanted o (yielded ops (A x).tmps) = true ∧ Oper.wp P o (A x) w K Q
  | [], _, _, _, _, h => by simp at h
  | _ :: _, _, hs, 0, _, h => by
    simp only [List.getElem?_cons_zero, Option.some.injEq] at h
    subst h
    exact hs.1
  | _ :: l, k, hs, i + 1, o, h => by
    have := StepsG.get l (k + 1) hs.2 i o (by simpa using h)
    rw [show k + 1 + i = k + (i + 1) from by omega] at this
    exact this

theorem wp_region_end {id : Nat} (A : (Nat → Value) → Act) (x0 : Nat → Value) (S : (Nat → Value) → World → Prop) (V : Nat → Value → World → Prop) {a : Act} {w : World} (last : Oper) (l : List Oper)
    (hops : ops.toList = l ++ [last]) (hm : P.follows .mixedOrders = true) (hord : orderedB ops = true) (hlast : lastB ops = true) (ha : a = A x0) (h0 : S x0 w.drew)
    (hput : Puts A l 0) (hstep : StepsG P ops Q A x0 S V l 0)
    (hfin : ∀ x w', S x w' → (∀ i, i < l.length → V i (x i) w') → ∀ K : Act → World → Prop, (∀ a' w'', Q .normal a' w'' → K a' w'') → Region.wanted last (yielded ops (A x).tmps) = true ∧ Oper.wp P last (A x) w' K Q) :
    (Code.region id ops true).wp P Q a w := by
  subst ha
  have hsz : ops.size = l.length + 1 := by rw [← Array.length_toList, hops]; simp
  have hl1 : ops[ops.size - 1]? = some last := by
    rw [← Array.getElem?_toList, hops, hsz]
    simp
  refine wp_region_any hm (wpAny_inv (fun li a w => Closed ops li ∧ ((li.getD l.length false = false ∧ ∃ x, a = A x ∧ S x w ∧ (∀ i, i < l.length → li.getD i false = true → V i (x i) w) ∧ ∀ i, i < l.length → li.getD i false = false → x i = x0 i) ∨ (li.getD l.length false = true ∧ Q .normal a w))) hord ?_ ?_ _ _ _ _ (by simp) ?_ ⟨?_, .inl ⟨?_, x0, rfl, h0, ?_, fun _ _ _ => rfl⟩⟩)
  · rintro li a w _ ⟨_, h | h⟩ hall
    · have := hall l.length (by omega)
      rw [h.1] at this
      cases this
    · exact h.2
  · rintro i o ho li a w ⟨hcl, h⟩ h0 hdep K hK
    have hi2 : i < ops.size := (Array.getElem?_eq_some_iff.1 ho).1
    have hcl' : Closed ops (li.setIfInBounds i true) := fun j oj hoj hj e he hb => by
      by_cases hji : j = i
      · subst hji
        rw [ho] at hoj
        cases hoj
        exact getD_set_true (hdep e he hb)
      · rw [getD_set_ne false (Ne.symm hji)] at hj
        exact getD_set_true (hcl j oj hoj hj e he hb)
    have hil : i < li.size := by
      rcases Nat.lt_or_ge i li.size with h' | h'
      · exact h'
      · simp [Array.getElem?_eq_none h'] at h0
    rcases h with ⟨hlf, x, rfl, hs, hv, hu⟩ | ⟨hlt, hq⟩
    · by_cases hil1 : i = l.length
      · subst hil1
        have hol : o = last := by
          rw [hsz, Nat.add_sub_cancel] at hl1
          rw [hl1] at ho
          cases ho
          rfl
        subst hol
        have hall := all_before hlast hcl hl1 hdep
        have hg := hfin x w hs (fun j hj => hv j hj (hall ops.size j (by omega) (by omega))) K (fun a' w'' hq => hK _ _ ⟨hcl', .inr ⟨by simp [hil], hq⟩⟩)
        rw [if_pos hg.1]
        exact hg.2
      · have hil2 : i < l.length := by omega
        have hlo : l[i]? = some o := by
          have : ops.toList[i]? = some o := by rw [Array.getElem?_toList]; exact ho
          rw [hops, List.getElem?_append_left hil2] at this
          exact this
        have hg : Region.wanted o (yielded ops (A x).tmps) = true ∧ Oper.wp P o (A x) w K Q := by
          refine StepsG.get l 0 hstep i o hlo x w hs (by rw [Nat.zero_add]; exact hu i hil2 (by simpa [Array.getElem?_eq_getElem hil] using h0)) (fun e he => ?_) K fun v w' hs' hv' hst => hK _ _ ⟨hcl', .inl ⟨?_, fun j => if j = 0 + i then v else x j, Puts.get l 0 hput i o hlo x v, hs', fun j hjl hj => ?_, fun j hjl hj => ?_⟩⟩
          · rw [List.mem_filter] at he
            have hin := orderedB_spec hord ho e (by simpa using he.1) he.2
            exact hv e.on (by omega) (hdep e (by simpa using he.1) he.2)
          · rw [getD_set_ne false hil1]
            exact hlf
          · by_cases hji : j = i
            · subst hji
              show V j (if j = 0 + j then v else x j) w'
              rw [Nat.zero_add, if_pos rfl]
              rw [Nat.zero_add] at hv'
              exact hv'
            · show V j (if j = 0 + i then v else x j) w'
              rw [Nat.zero_add, if_neg hji]
              rw [getD_set_ne false (Ne.symm hji)] at hj
              exact hst j _ (by omega) (hv j hjl hj)
          · show (if j = 0 + i then v else x j) = x0 j
            by_cases hji : j = i
            · subst hji
              simp [hil] at hj
            · rw [Nat.zero_add, if_neg hji]
              rw [getD_set_ne false (Ne.symm hji)] at hj
              exact hu j hjl hj
        rw [if_pos hg.1]
        exact hg.2
    · exfalso
      have hd2 : ∀ e ∈ last.after, Region.binds .any e = true → li.getD e.on false = true := fun e he hb => by
        rw [hsz, Nat.add_sub_cancel] at hl1
        exact hcl _ last hl1 hlt e he hb
      have hall := all_before hlast hcl hl1 hd2
      have hi3 : li.getD i false = true := by
        rcases Nat.lt_or_ge (i + 1) ops.size with h1 | h1
        · exact hall ops.size i (by omega) h1
        · have : i = l.length := by omega
          rw [this]
          exact hlt
      have : li[i] = false := by simpa [Array.getElem?_eq_getElem hil] using h0
      simp [Array.getElem?_eq_getElem hil, this] at hi3
  · simp
  · intro j o _ hj
    exfalso
    simp [Array.getElem?_replicate] at hj
    split at hj <;> simp at hj
  · simp [Array.getElem?_replicate]
    split <;> rfl
  · intro i _ hi
    exfalso
    simp [Array.getElem?_replicate] at hi
    split at hi <;> simp at hi
theorem wp_region_fin {id : Nat} (A : (Nat → Value) → Act) (x0 : Nat → Value) (S : (Nat → Value) → World → Prop) (V : Nat → Value → World → Prop) {a : Act} {w : World} (last : Oper)
    (hops : ops.toList.getLast? = some last) (hm : P.follows .mixedOrders = true) (hord : orderedB ops = true) (hlast : lastB ops = true) (ha : a = A x0) (h0 : S x0 w.drew)
    (hput : Puts A ops.toList.dropLast 0) (hstep : StepsG P ops Q A x0 S V ops.toList.dropLast 0)
    (hfin : ∀ x w', S x w' → (∀ i, i + 1 < ops.size → V i (x i) w') → ∀ K : Act → World → Prop, (∀ a' w'', Q .normal a' w'' → K a' w'') → Region.wanted last (yielded ops (A x).tmps) = true ∧ Oper.wp P last (A x) w' K Q) :
    (Code.region id ops true).wp P Q a w :=
  wp_region_end A x0 S V last ops.toList.dropLast (by
    have hne : ops.toList ≠ [] := fun h => by rw [h] at hops; cases hops
    rw [List.getLast?_eq_some_getLast hne] at hops
    cases hops
    exact (List.dropLast_concat_getLast hne).symm) hm hord hlast ha h0 hput hstep
    (fun x w' hS hv => hfin x w' hS (fun i hi => hv i (by simpa using (by omega : i < ops.size - 1))))
end
end Go.Proofs.Ythcnoamgkkbkcaa
