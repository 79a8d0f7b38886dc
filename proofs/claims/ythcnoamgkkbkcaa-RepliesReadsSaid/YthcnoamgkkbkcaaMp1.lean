/- Maps of ints to elements of whatever kind: made, looked up, laid, dropped, cleared. -/
import Derived.Test.YthcnoamgkkbkcaaBase
import Derived.Maps.RangeWalk
namespace Go.Proofs.Ythcnoamgkkbkcaa
open Go.RowKit

/-- How an element of a Go map of ints is a value. -/
structure MK (P : Program) (α : Type) where
  m : TypeId
  k : TypeId
  e : TypeId
  val : α → Value
  z : Value
  und : P.underlying m = some (.map k e)
  key : P.underlying k = some (.int .i64)
  zero : ∀ w : World, (zeroValue e).run P w = .ok z w
section
variable {P : Program} {α : Type} (K : MK P α)
def MK.ent (p : Nat × Int × α) : MapEntry := { key := .int .i64 p.2.1, val := K.val p.2.2, born := p.1 }
/-- What the entries of a map must be. -/
structure ME (L : List (Nat × Int × α)) (clock : Nat) (f : Int → Option α) : Prop where
  born : (L.map (·.1)).Nodup
  old : ∀ p ∈ L, p.1 < clock
  keys : (L.map (·.2.1)).Nodup
  is : ∀ k x, f k = some x ↔ ∃ b, (b, k, x) ∈ L
/-- The block c is the map f. -/
def MK.mp (w : World) (c : Nat) (f : Int → Option α) : Prop := ∃ (L : List (Nat × Int × α)) (clock : Nat), w.heap[c]? = some (.map (L.map K.ent).toArray clock) ∧ ME L clock f
def upm (f : Int → Option α) (k : Int) (x : Option α) : Int → Option α := fun j => if j = k then x else f j
theorem upm_same (f : Int → Option α) (k : Int) (x : Option α) : upm f k x k = x := if_pos rfl
theorem upm_other (f : Int → Option α) {k j : Int} (x : Option α) (h : j ≠ k) : upm f k x j = f j := if_neg h
variable {K}
theorem MK.mp_fr {F : Nat → Prop} {w w' : World} {c : Nat} {f : Int → Option α} (h : K.mp w c f) (hf : Fr F w w') (hc : ¬ F c) : K.mp w' c f := by
  obtain ⟨L, k, h1, h2⟩ := h
  exact ⟨L, k, hf.obj h1 hc, h2⟩
theorem MK.mp_below {w w' : World} {c : Nat} {f : Int → Option α} (h : K.mp w c f) (hb : Below w.heap.size w w') : K.mp w' c f := by
  obtain ⟨L, k, h1, h2⟩ := h
  exact ⟨L, k, obj_below h1 hb, h2⟩
theorem MK.mp_lt {w : World} {c : Nat} {f : Int → Option α} (h : K.mp w c f) : c < w.heap.size := by
  obtain ⟨L, k, h1, h2⟩ := h
  exact obj_lt h1
theorem MK.mp_obj {w : World} {c : Nat} {f : Int → Option α} (h : K.mp w c f) : ∃ es clock, w.heap[c]? = some (.map es clock) := by
  obtain ⟨L, k, h1, h2⟩ := h
  exact ⟨_, _, h1⟩
theorem MK.mp_made (w : World) : K.mp (w.alloc (.map #[] 0)) w.heap.size (fun _ => none) :=
  ⟨[], 0, obj_new w _, List.nodup_nil, fun _ h => by simp at h, List.nodup_nil, fun k x => by simp⟩
theorem MK.mp_new {w : World} {c clock : Nat} (h : w.heap[c]? = some (.map #[] clock)) : K.mp w c (fun _ => none) :=
  ⟨[], clock, h, List.nodup_nil, fun _ h => by simp at h, List.nodup_nil, fun k x => by simp⟩
/-- Where a key stands. -/
def lookAt (k : Int) : List (Nat × Int × α) → Nat → Option (Nat × α)
  | [], _ => none
  | p :: L, i => if k = p.2.1 then some (i, p.2.2) else lookAt k L (i + 1)
theorem lookAt_none {k : Int} : ∀ {L : List (Nat × Int × α)} {i : Nat}, lookAt k L i = none → ∀ p ∈ L, p.2.1 ≠ k
  | [], _, _, p, hp => by simp at hp
  | q :: L, i, h, p, hp => by
    unfold lookAt at h
    split at h
    · cases h
    · rcases List.mem_cons.1 hp with rfl | hp
      · rename_i hne
        exact fun e => hne e.symm
      · exact lookAt_none h p hp
theorem lookAt_some {k : Int} : ∀ {L : List (Nat × Int × α)} {i j : Nat} {x : α}, lookAt k L i = some (j, x) → ∃ n b, j = i + n ∧ L[n]? = some (b, k, x)
  | [], _, _, _, h => by simp [lookAt] at h
  | q :: L, i, j, x, h => by
    unfold lookAt at h
    split at h
    · rename_i he
      simp only [Option.some.injEq, Prod.mk.injEq] at h
      exact ⟨0, q.1, by omega, by rw [List.getElem?_cons_zero, he, ← h.2]⟩
    · obtain ⟨n, b, h1, h2⟩ := lookAt_some h
      exact ⟨n + 1, b, by omega, by rw [List.getElem?_cons_succ]; exact h2⟩
theorem findNow_look (k : Int) : ∀ (L : List (Nat × Int × α)) (i : Nat), Instr.findNow (.int .i64) (.int .i64 k) (L.map K.ent) i = some ((lookAt k L i).map fun p => (p.1, K.val p.2))
  | [], i => rfl
  | p :: L, i => by
    rw [List.map_cons]
    unfold Instr.findNow lookAt
    by_cases h : k = p.2.1
    · simp [Instr.sameNow, MK.ent, h]
    · have hb : (k == p.2.1) = false := by simp [h]
      simp [Instr.sameNow, MK.ent, h, hb, findNow_look k L (i + 1)]
theorem ME.look {L : List (Nat × Int × α)} {clock : Nat} {f : Int → Option α} (h : ME L clock f) (k : Int) (i : Nat) : (lookAt k L i).map (·.2) = f k := by
  rcases e : lookAt k L i with _ | ⟨j, x⟩
  · rcases e2 : f k with _ | x
    · rfl
    · obtain ⟨b, hb⟩ := (h.is k x).1 e2
      exact absurd rfl (lookAt_none e _ hb)
  · obtain ⟨n, b, -, h2⟩ := lookAt_some e
    rw [(h.is k x).2 ⟨b, List.mem_of_getElem? h2⟩]
    rfl
theorem run_checkInt {k : TypeId} (hk : P.underlying k = some (.int .i64)) (em : Bool) (x : Int) (w : World) : (Instr.checkKey em 10000 k (.int .i64 x)).run P w = .ok () w := by
  unfold Instr.checkKey
  simp [run_underlying hk]
theorem run_findInt (k : Int) (L : List (Nat × Int × α)) (w : World) : (Instr.findKey K.k (.int .i64 k) (L.map K.ent)).run P w = .ok ((lookAt k L 0).map fun p => (p.1, K.val p.2)) w := by
  unfold Instr.findKey
  simp [run_underlying K.key, findNow_look]
/-- m[k]. -/
theorem MK.run_look {w : World} {c : Nat} {f : Int → Option α} (h : K.mp w c f) (k : Int) : (Instr.lookup K.m (.map (some c)) (.int .i64 k) false).run P w = .ok (((f k).map K.val).getD K.z) w := by
  obtain ⟨L, clock, h1, h2⟩ := h
  have hg : (getObj c).run P w = .ok (.map (L.map K.ent).toArray clock) w := by simp [getObj, Sem.run, h1]
  rw [← h2.look k 0]
  rcases e : lookAt k L 0 with _ | ⟨j, x⟩
  · simp [Instr.lookup, run_underlying K.und, hg, run_checkInt K.key, run_findInt, e, K.zero]
  · simp [Instr.lookup, run_underlying K.und, hg, run_checkInt K.key, run_findInt, e]
/-- v, ok := m[k]. -/
theorem MK.run_look_ok {w : World} {c : Nat} {f : Int → Option α} (h : K.mp w c f) (k : Int) : (Instr.lookup K.m (.map (some c)) (.int .i64 k) true).run P w = .ok (.tuple #[((f k).map K.val).getD K.z, .bool (f k).isSome]) w := by
  obtain ⟨L, clock, h1, h2⟩ := h
  have hg : (getObj c).run P w = .ok (.map (L.map K.ent).toArray clock) w := by simp [getObj, Sem.run, h1]
  rw [← h2.look k 0]
  rcases e : lookAt k L 0 with _ | ⟨j, x⟩
  · simp [Instr.lookup, run_underlying K.und, hg, run_checkInt K.key, run_findInt, e, K.zero]
  · simp [Instr.lookup, run_underlying K.und, hg, run_checkInt K.key, run_findInt, e]
theorem MK.run_look_nil (w : World) (k : Int) (ok : Bool) : (Instr.lookup K.m (.map none) (.int .i64 k) ok).run P w = .ok (if ok then .tuple #[K.z, .bool false] else K.z) w := by
  have := run_findInt (K := K) k [] w
  simp only [List.map_nil, lookAt, Option.map_none] at this
  cases ok <;> simp [Instr.lookup, run_underlying K.und, run_checkInt K.key, this, K.zero]
theorem frSetObj (w : World) (c : Nat) (o : Obj) : Fr (fun j => j = c) w { w with heap := w.heap.setIfInBounds c o } :=
  ⟨rfl, rfl, rfl, by simp, fun j _ hj => by simp [Ne.symm hj]⟩
/-- m[k] = x. -/
theorem MK.run_put {w : World} {c : Nat} {f : Int → Option α} (h : K.mp w c f) (k : Int) (x : α) : ∃ w', (Instr.mapUpdate K.m (.map (some c)) (.int .i64 k) (K.val x)).run P w = .ok () w' ∧ K.mp w' c (upm f k (some x)) ∧ Fr (fun j => j = c) w w' ∧ w'.heap.size = w.heap.size := by
  obtain ⟨L, clock, h1, h2⟩ := h
  have hg : (getObj c).run P w = .ok (.map (L.map K.ent).toArray clock) w := by simp [getObj, Sem.run, h1]
  have hs : ∀ es' clock', (setObj c (.map es' clock')).run P w = .ok () { w with heap := w.heap.setIfInBounds c (.map es' clock') } := fun es' clock' => by simp [setObj, Sem.run, h1]
  have hlt := obj_lt h1
  rcases e : lookAt k L 0 with _ | ⟨j, y⟩
  · refine ⟨_, ?_, ?_, frSetObj w c (.map ((L ++ [(clock, k, x)]).map K.ent).toArray (clock + 1)), by simp⟩
    · simp [Instr.mapUpdate, run_underlying K.und, hg, run_checkInt K.key, run_findInt, e]
      exact hs _ _
    · have hno := lookAt_none e
      refine ⟨L ++ [(clock, k, x)], clock + 1, by simp [hlt], ?_, ?_, ?_, ?_⟩
      · rw [List.map_append, List.nodup_append]
        refine ⟨h2.born, by simp, fun a ha b hb => ?_⟩
        obtain ⟨p, hp, rfl⟩ := List.mem_map.1 ha
        simp at hb
        have := h2.old p hp
        omega
      · intro p hp
        rcases List.mem_append.1 hp with hp | hp
        · have := h2.old p hp
          omega
        · simp at hp
          subst hp
          show clock < clock + 1
          omega
      · rw [List.map_append, List.nodup_append]
        refine ⟨h2.keys, by simp, fun a ha b hb => ?_⟩
        obtain ⟨p, hp, rfl⟩ := List.mem_map.1 ha
        simp at hb
        rw [hb]
        exact hno p hp
      · intro q y
        by_cases hq : q = k
        · subst hq
          rw [upm_same]
          constructor
          · intro h
            cases h
            exact ⟨clock, by simp⟩
          · rintro ⟨b, hb⟩
            rcases List.mem_append.1 hb with hb | hb
            · exact absurd rfl (hno _ hb)
            · simp at hb
              rw [hb.2]
        · rw [upm_other f _ hq, h2.is q y]
          constructor
          · rintro ⟨b, hb⟩
            exact ⟨b, List.mem_append.2 (.inl hb)⟩
          · rintro ⟨b, hb⟩
            rcases List.mem_append.1 hb with hb | hb
            · exact ⟨b, hb⟩
            · simp at hb
              exact absurd hb.2.1 hq
  · obtain ⟨n, b, hj, hn⟩ := lookAt_some e
    have hj : j = n := by omega
    subst hj
    have hjl : j < L.length := (List.getElem?_eq_some_iff.1 hn).1
    refine ⟨_, ?_, ?_, frSetObj w c (.map ((L.set j (b, k, x)).map K.ent).toArray clock), by simp⟩
    · have hk : ((((L.map K.ent).toArray)[j]?).map (·.key)).getD (.int .i64 k) = .int .i64 k := by
        simp [hn, MK.ent]
      have hstay : (Instr.keyThatStays (.int .i64 k) (.int .i64 k)).run P w = .ok (.int .i64 k) w := by
        simp [Instr.keyThatStays, Instr.sameBits]
      have hm : (L.map K.ent).toArray.modify j (fun e => { e with key := .int .i64 k, val := K.val x }) = ((L.set j (b, k, x)).map K.ent).toArray := by
        rw [← Array.toList_inj]
        rw [Array.toList_modify, ChangeMaps.modify_eq_set _ _ j (K.ent (b, k, y)) (by simp [hn]), List.map_set]
        rfl
      simp only [Instr.mapUpdate, Sem.run_bind, run_underlying K.und, Result.andThen, hg, run_checkInt K.key, run_findInt, e, Option.map_some, hk, hstay, hm, hs]
    · refine ⟨L.set j (b, k, x), clock, by simp [hlt], ?_, ?_, ?_, ?_⟩
      · rw [List.map_set, show (b, k, x).1 = (L.map (·.1))[j]'(by simp [hjl]) by
          have := (List.getElem?_eq_some_iff.1 hn).2
          simp [this], List.set_getElem_self]
        exact h2.born
      · intro p hp
        rcases List.mem_or_eq_of_mem_set hp with hp | rfl
        · exact h2.old p hp
        · exact h2.old (b, k, y) (List.mem_of_getElem? hn)
      · rw [List.map_set, show (b, k, x).2.1 = (L.map (·.2.1))[j]'(by simp [hjl]) by
          have := (List.getElem?_eq_some_iff.1 hn).2
          simp [this], List.set_getElem_self]
        exact h2.keys
      · have huniq : ∀ i p, L[i]? = some p → p.2.1 = k → i = j := fun i p hi hp => by
          have hil := (List.getElem?_eq_some_iff.1 hi).1
          refine (List.getElem?_inj (by simpa using hil) h2.keys).1 ?_
          simp [hi, hn, hp]
        intro q y'
        by_cases hq : q = k
        · subst hq
          rw [upm_same]
          constructor
          · intro h
            cases h
            exact ⟨b, List.mem_of_getElem? (by rw [List.getElem?_set_self hjl])⟩
          · rintro ⟨b', hb⟩
            obtain ⟨i, hi⟩ := List.getElem?_of_mem hb
            by_cases hij : i = j
            · subst hij
              rw [List.getElem?_set_self hjl] at hi
              simp at hi
              rw [hi.2]
            · rw [List.getElem?_set_ne (fun h => hij h.symm)] at hi
              exact absurd (huniq i _ hi rfl) hij
        · rw [upm_other f _ hq, h2.is q y']
          constructor
          · rintro ⟨b', hb⟩
            obtain ⟨i, hi⟩ := List.getElem?_of_mem hb
            have hij : i ≠ j := fun e => by
              subst e
              rw [hn] at hi
              simp at hi
              exact hq hi.2.1.symm
            exact ⟨b', List.mem_of_getElem? (i := i) (by rw [List.getElem?_set_ne (fun h => hij h.symm)]; exact hi)⟩
          · rintro ⟨b', hb⟩
            obtain ⟨i, hi⟩ := List.getElem?_of_mem hb
            by_cases hij : i = j
            · subst hij
              rw [List.getElem?_set_self hjl] at hi
              simp at hi
              exact absurd hi.2.1.symm hq
            · rw [List.getElem?_set_ne (fun h => hij h.symm)] at hi
              exact ⟨b', List.mem_of_getElem? hi⟩
/-- delete(m, k). -/
theorem MK.run_del {w : World} {c : Nat} {f : Int → Option α} (h : K.mp w c f) (k : Int) (ty : TypeId) : ∃ w', (Builtin.delete_ #[K.m, K.k] ty #[.map (some c), .int .i64 k]).run P w = .ok (.tuple #[]) w' ∧ K.mp w' c (upm f k none) ∧ Fr (fun j => j = c) w w' ∧ w'.heap.size = w.heap.size := by
  obtain ⟨L, clock, h1, h2⟩ := h
  have hg : (getObj c).run P w = .ok (.map (L.map K.ent).toArray clock) w := by simp [getObj, Sem.run, h1]
  have hs : ∀ es' clock', (setObj c (.map es' clock')).run P w = .ok () { w with heap := w.heap.setIfInBounds c (.map es' clock') } := fun es' clock' => by simp [setObj, Sem.run, h1]
  have hlt := obj_lt h1
  rcases e : lookAt k L 0 with _ | ⟨j, y⟩
  · refine ⟨_, ?_, ?_, frSetObj w c (.map (L.map K.ent).toArray clock), by simp⟩
    · simp [Builtin.delete_, run_underlying K.und, hg, run_checkInt K.key, run_findInt, e, hs]
    · refine ⟨_, _, by simp [hlt], h2.born, h2.old, h2.keys, fun q y => ?_⟩
      by_cases hq : q = k
      · subst hq
        rw [upm_same]
        constructor
        · intro h
          cases h
        · rintro ⟨b, hb⟩
          exact absurd rfl (lookAt_none e _ hb)
      · rw [upm_other f _ hq, h2.is q y]
  · obtain ⟨n, b, hj, hn⟩ := lookAt_some e
    have hj : j = n := by omega
    subst hj
    have hjl : j < L.length := (List.getElem?_eq_some_iff.1 hn).1
    have hsub : (L.eraseIdx j).Sublist L := List.eraseIdx_sublist _ _
    refine ⟨_, ?_, ?_, frSetObj w c (.map ((L.eraseIdx j).map K.ent).toArray clock), by simp⟩
    · simp [Builtin.delete_, run_underlying K.und, hg, run_checkInt K.key, run_findInt, e, hs, ChangeMaps.map_eraseIdx]
    · refine ⟨L.eraseIdx j, clock, by simp [hlt], (hsub.map _).nodup h2.born, fun p hp => h2.old p (hsub.subset hp), (hsub.map _).nodup h2.keys, fun q y' => ?_⟩
      have huniq : ∀ i p, L[i]? = some p → p.2.1 = k → i = j := fun i p hi hp => by
        have hil := (List.getElem?_eq_some_iff.1 hi).1
        refine (List.getElem?_inj (by simpa using hil) h2.keys).1 ?_
        simp [hi, hn, hp]
      by_cases hq : q = k
      · subst hq
        rw [upm_same]
        constructor
        · intro h
          cases h
        · rintro ⟨b', hb⟩
          rw [List.mem_eraseIdx_iff_getElem?] at hb
          obtain ⟨i, hij, hi⟩ := hb
          exact absurd (huniq i _ hi rfl) hij
      · rw [upm_other f _ hq, h2.is q y']
        constructor
        · rintro ⟨b', hb⟩
          refine ⟨b', ?_⟩
          rw [List.mem_eraseIdx_iff_getElem?]
          obtain ⟨i, hi⟩ := List.getElem?_of_mem hb
          refine ⟨i, fun e => ?_, hi⟩
          subst e
          rw [hn] at hi
          simp at hi
          exact hq hi.2.1.symm
        · rintro ⟨b', hb⟩
          exact ⟨b', hsub.subset hb⟩
/-- clear(m). -/
theorem MK.run_clear {w : World} {c : Nat} {f : Int → Option α} (h : K.mp w c f) (ty : TypeId) : ∃ w', (Builtin.clear_ #[K.m] ty #[.map (some c)]).run P w = .ok (.tuple #[]) w' ∧ K.mp w' c (fun _ => none) ∧ Fr (fun j => j = c) w w' ∧ w'.heap.size = w.heap.size := by
  obtain ⟨L, clock, h1, h2⟩ := h
  have hg : (getObj c).run P w = .ok (.map (L.map K.ent).toArray clock) w := by simp [getObj, Sem.run, h1]
  have hs : ∀ es' clock', (setObj c (.map es' clock')).run P w = .ok () { w with heap := w.heap.setIfInBounds c (.map es' clock') } := fun es' clock' => by simp [setObj, Sem.run, h1]
  refine ⟨_, ?_, MK.mp_new (clock := clock) ?_, frSetObj w c (.map #[] clock), by simp⟩
  · simp [Builtin.clear_, run_underlying K.und, hg, hs]
  · simp [obj_lt h1]
end
end Go.Proofs.Ythcnoamgkkbkcaa
