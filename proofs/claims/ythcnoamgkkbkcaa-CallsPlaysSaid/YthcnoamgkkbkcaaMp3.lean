/- Maps of ints: an entry is asked for, and stored into (m[a], m[b] = x, y). -/
import Derived.Test.YthcnoamgkkbkcaaMp1
import Derived.WideKeyEntry
namespace Go.Proofs.Ythcnoamgkkbkcaa
open Go.RowKit

section
variable {P : Program} {α : Type} (K : MK P α)
/-- The block c is the map f, in which the keys of ss have their stamps. -/
def MK.mps (w : World) (c : Nat) (f : Int → Option α) (ss : List (Int × Nat)) : Prop :=
  ∃ (L : List (Nat × Int × α)) (clock : Nat), w.heap[c]? = some (.map (L.map K.ent).toArray clock) ∧ ME L clock f ∧ ∀ p ∈ ss, ∃ x, (p.2, p.1, x) ∈ L
variable {K}
theorem MK.mps_mp {w : World} {c : Nat} {f : Int → Option α} {ss : List (Int × Nat)} (h : K.mps w c f ss) : K.mp w c f := by
  obtain ⟨L, k, h1, h2, -⟩ := h
  exact ⟨L, k, h1, h2⟩
theorem MK.mps_start {w : World} {c : Nat} {f : Int → Option α} (h : K.mp w c f) {k1 k2 : Int} (h1 : (f k1).isSome) (h2 : (f k2).isSome) : ∃ s1 s2, K.mps w c f [(k1, s1), (k2, s2)] := by
  obtain ⟨L, k, h3, h4⟩ := h
  obtain ⟨x1, e1⟩ := Option.isSome_iff_exists.1 h1
  obtain ⟨x2, e2⟩ := Option.isSome_iff_exists.1 h2
  obtain ⟨s1, m1⟩ := (h4.is _ _).1 e1
  obtain ⟨s2, m2⟩ := (h4.is _ _).1 e2
  refine ⟨s1, s2, L, k, h3, h4, fun p hp => ?_⟩
  simp only [List.mem_cons, List.not_mem_nil, or_false] at hp
  rcases hp with rfl | rfl
  · exact ⟨x1, m1⟩
  · exact ⟨x2, m2⟩
theorem MK.mps_fr {F : Nat → Prop} {w w' : World} {c : Nat} {f : Int → Option α} {ss : List (Int × Nat)} (h : K.mps w c f ss) (hf : Fr F w w') (hc : ¬ F c) : K.mps w' c f ss := by
  obtain ⟨L, k, h1, h2⟩ := h
  exact ⟨L, k, hf.obj h1 hc, h2⟩
theorem MK.at_key {L : List (Nat × Int × α)} {clock : Nat} {f : Int → Option α} (h : ME L clock f) {j n : Nat} {p q : Nat × Int × α} (hp : L[j]? = some p) (hq : L[n]? = some q) (e : p.2.1 = q.2.1) : j = n := by
  have hjl := (List.getElem?_eq_some_iff.1 hp).1
  refine (List.getElem?_inj (by simpa using hjl) h.keys).1 ?_
  simp [hp, hq, e]
theorem setIfSame {A : Type} (xs : Array A) (i : Nat) (x : A) (h : xs[i]? = some x) : xs.setIfInBounds i x = xs := by
  apply Array.ext_getElem?
  intro k
  rw [Array.getElem?_setIfInBounds]
  by_cases hk : i = k
  · subst hk
    rw [if_pos rfl, if_pos (Array.getElem?_eq_some_iff.1 h).1, h]
  · rw [if_neg hk]
/-- The entry of a key that is there. -/
theorem MK.run_ent {w : World} {c : Nat} {f : Int → Option α} {ss : List (Int × Nat)} (h : K.mps w c f ss) {k : Int} {st : Nat} (hk : (k, st) ∈ ss) :
    ∃ v0, (Instr.mapEntry K.m (.map (some c)) (.int .i64 k)).run P w = .ok (.tuple #[v0, .int .i64 (st : Int)]) w := by
  obtain ⟨L, clock, h1, h2, h3⟩ := h
  obtain ⟨x, hx⟩ := h3 _ hk
  simp only at hx
  have hg : (getObj c).run P w = .ok (.map (L.map K.ent).toArray clock) w := by simp [getObj, Sem.run, h1]
  have hs : ∀ es' clock', (setObj c (.map es' clock')).run P w = .ok () { w with heap := w.heap.setIfInBounds c (.map es' clock') } := fun es' clock' => by simp [setObj, Sem.run, h1]
  obtain ⟨n, hn⟩ := List.getElem?_of_mem hx
  rcases e : lookAt k L 0 with _ | ⟨j, y⟩
  · exact absurd rfl (lookAt_none e _ hx)
  · obtain ⟨n', b, hj, hn'⟩ := lookAt_some e
    have hj : j = n' := by omega
    subst hj
    have hjn := MK.at_key h2 hn' hn rfl
    subst hjn
    rw [hn] at hn'
    simp only [Option.some.injEq, Prod.mk.injEq, true_and] at hn'
    obtain ⟨rfl, rfl⟩ := hn'
    have hk1 : ((((L.map K.ent).toArray)[j]?).map (·.key)).getD (.int .i64 k) = .int .i64 k := by simp [hn, MK.ent]
    have hb1 : ((((L.map K.ent).toArray)[j]?).map (fun x => (x.born : Int))).getD 0 = (st : Int) := by simp [hn, MK.ent]
    have hstay : (Instr.keyThatStays (.int .i64 k) (.int .i64 k)).run P w = .ok (.int .i64 k) w := by simp [Instr.keyThatStays, Instr.sameBits]
    have hm : (L.map K.ent).toArray.modify j (fun e => { e with key := .int .i64 k }) = (L.map K.ent).toArray := by
      rw [← Array.toList_inj]
      rw [Array.toList_modify, ChangeMaps.modify_eq_set _ _ j (K.ent (st, k, x)) (by simp [hn])]
      have : ((L.map K.ent).set j { (K.ent (st, k, x)) with key := .int .i64 k }) = L.map K.ent := by
        apply List.ext_getElem?
        intro t
        by_cases ht : j = t
        · subst ht
          rw [List.getElem?_set_self (by simpa using (List.getElem?_eq_some_iff.1 hn).1), List.getElem?_map, hn]
          rfl
        · rw [List.getElem?_set_ne ht]
      exact this
    refine ⟨K.val x, ?_⟩
    simp only [Instr.mapEntry, Sem.run_bind, run_underlying K.und, Result.andThen, hg, run_checkInt K.key, run_findInt, e, Option.map_some, hk1, hb1, hstay, hm, hs, Sem.run_pure]
    rw [setIfSame _ _ _ h1]
    rfl
/-- A value is stored into a key's entry. -/
theorem MK.run_sto {w : World} {c : Nat} {f : Int → Option α} {ss : List (Int × Nat)} (h : K.mps w c f ss) {k : Int} {st : Nat} (hk : (k, st) ∈ ss) (x : α) :
    ∃ w', (Instr.entryStore K.m (.map (some c)) (.int .i64 (st : Int)) (K.val x)).run P w = .ok () w' ∧ K.mps w' c (upm f k (some x)) ss ∧ Fr (fun j => j = c) w w' ∧ w'.heap.size = w.heap.size := by
  obtain ⟨L, clock, h1, h2, h3⟩ := h
  obtain ⟨y, hy⟩ := h3 _ hk
  simp only at hy
  have hg : (getObj c).run P w = .ok (.map (L.map K.ent).toArray clock) w := by simp [getObj, Sem.run, h1]
  have hs : ∀ es' clock', (setObj c (.map es' clock')).run P w = .ok () { w with heap := w.heap.setIfInBounds c (.map es' clock') } := fun es' clock' => by simp [setObj, Sem.run, h1]
  have hlt := obj_lt h1
  obtain ⟨j, hn⟩ := List.getElem?_of_mem hy
  have hjl : j < L.length := (List.getElem?_eq_some_iff.1 hn).1
  have hidx : (L.map K.ent).toArray.findIdx? (fun e => (e.born : Int) == (st : Int)) = some j := by
    rw [WideElems.findIdx_arr]
    exact WideElems.findIdx_born (l := L.map K.ent) (j := j) (e0 := K.ent (st, k, y)) (by simpa [MK.ent, Function.comp_def] using h2.born) (by simp [hn])
  have hm : (L.map K.ent).toArray.modify j (fun e => { e with val := K.val x }) = ((L.set j (st, k, x)).map K.ent).toArray := by
    rw [← Array.toList_inj]
    rw [Array.toList_modify, ChangeMaps.modify_eq_set _ _ j (K.ent (st, k, y)) (by simp [hn]), List.map_set]
    rfl
  have hkeep : ∀ p ∈ ss, ∃ z, (p.2, p.1, z) ∈ L.set j (st, k, x) := fun p hp => by
    obtain ⟨z, hz⟩ := h3 p hp
    obtain ⟨i, hi⟩ := List.getElem?_of_mem hz
    by_cases hij : i = j
    · subst hij
      rw [hn] at hi
      simp only [Option.some.injEq, Prod.mk.injEq] at hi
      exact ⟨x, List.mem_of_getElem? (i := i) (by rw [List.getElem?_set_self hjl, hi.1, hi.2.1])⟩
    · exact ⟨z, List.mem_of_getElem? (i := i) (by rw [List.getElem?_set_ne (fun h => hij h.symm)]; exact hi)⟩
  refine ⟨_, ?_, ⟨L.set j (st, k, x), clock, by simp [hlt], ⟨?_, ?_, ?_, ?_⟩, hkeep⟩, frSetObj w c (.map ((L.set j (st, k, x)).map K.ent).toArray clock), by simp⟩
  · simp only [Instr.entryStore, Sem.run_bind, Result.andThen, hg, asInt, asIntOf, Sem.run_pure, hidx, hm, hs]
  · rw [List.map_set, show (st, k, x).1 = (L.map (·.1))[j]'(by simp [hjl]) by
      have := (List.getElem?_eq_some_iff.1 hn).2
      simp [this], List.set_getElem_self]
    exact h2.born
  · intro p hp
    rcases List.mem_or_eq_of_mem_set hp with hp | rfl
    · exact h2.old p hp
    · exact h2.old (st, k, y) (List.mem_of_getElem? hn)
  · rw [List.map_set, show (st, k, x).2.1 = (L.map (·.2.1))[j]'(by simp [hjl]) by
      have := (List.getElem?_eq_some_iff.1 hn).2
      simp [this], List.set_getElem_self]
    exact h2.keys
  · intro q y'
    by_cases hq : q = k
    · subst hq
      rw [upm_same]
      constructor
      · intro h
        cases h
        exact ⟨st, List.mem_of_getElem? (by rw [List.getElem?_set_self hjl])⟩
      · rintro ⟨b', hb⟩
        obtain ⟨i, hi⟩ := List.getElem?_of_mem hb
        by_cases hij : i = j
        · subst hij
          rw [List.getElem?_set_self hjl] at hi
          simp at hi
          rw [hi.2]
        · rw [List.getElem?_set_ne (fun h => hij h.symm)] at hi
          exact absurd (MK.at_key h2 hi hn rfl) hij
    · rw [upm_other f _ hq, h2.is q y']
      constructor
      · rintro ⟨b', hb⟩
        obtain ⟨i, hi⟩ := List.getElem?_of_mem hb
        have hij : i ≠ j := fun e => by
          subst e
          rw [hn] at hi
          simp at hi
          exact hq hi.2.1.symm
        exact ⟨b', List.mem_of_getElem? (i := i) (by rw [List.getElem?_set_ne (fun h => hij h.symm)]; exact hi)⟩
      · rintro ⟨b', hb⟩
        obtain ⟨i, hi⟩ := List.getElem?_of_mem hb
        by_cases hij : i = j
        · subst hij
          rw [List.getElem?_set_self hjl] at hi
          simp at hi
          exact absurd hi.2.1.symm hq
        · rw [List.getElem?_set_ne (fun h => hij h.symm)] at hi
          exact ⟨b', List.mem_of_getElem? hi⟩
end
end Go.Proofs.Ythcnoamgkkbkcaa
