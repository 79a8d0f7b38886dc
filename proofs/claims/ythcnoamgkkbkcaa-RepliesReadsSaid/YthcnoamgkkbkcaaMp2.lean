/- Maps of ints: ranging over one, in whatever order. -/
import Derived.Test.YthcnoamgkkbkcaaMp1
namespace Go.Proofs.Ythcnoamgkkbkcaa
open Go.RowKit

theorem nodup_map_inj {β γ : Type} {g : β → γ} : ∀ {L : List β}, (L.map g).Nodup → ∀ {p q : β}, p ∈ L → q ∈ L → g p = g q → p = q
  | [], _, p, q, hp, _, _ => by simp at hp
  | a :: L, h, p, q, hp, hq, e => by
    rw [List.map_cons, List.nodup_cons] at h
    rcases List.mem_cons.1 hp with ep | hp
    · rcases List.mem_cons.1 hq with eq_ | hq
      · rw [ep, eq_]
      · exact absurd (List.mem_map.2 ⟨q, hq, by rw [← e, ep]⟩) h.1
    · rcases List.mem_cons.1 hq with eq_ | hq
      · exact absurd (List.mem_map.2 ⟨p, hp, by rw [e, eq_]⟩) h.1
      · exact nodup_map_inj h.2 hp hq e
theorem nodup_sub_len {β : Type} : ∀ {S L : List β}, S.Nodup → (∀ p ∈ S, p ∈ L) → S.length ≤ L.length
  | [], _, _, _ => Nat.zero_le _
  | p :: S, L, h, hs => by
    rw [List.nodup_cons] at h
    obtain ⟨A, B, rfl⟩ := List.append_of_mem (hs p (by simp))
    have := nodup_sub_len (S := S) (L := A ++ B) h.2 (fun q hq => by
      have h1 := hs q (by simp [hq])
      have h2 : q ≠ p := fun e => h.1 (e ▸ hq)
      simp only [List.mem_append, List.mem_cons] at h1 ⊢
      rcases h1 with h1 | h1 | h1
      · exact .inl h1
      · exact absurd h1 h2
      · exact .inr h1)
    simp only [List.length_append, List.length_cons] at this ⊢
    omega
theorem map_nodup {β γ : Type} {g : β → γ} : ∀ {S : List β}, S.Nodup → (∀ p ∈ S, ∀ q ∈ S, g p = g q → p = q) → (S.map g).Nodup
  | [], _, _ => List.nodup_nil
  | a :: S, h, hi => by
    rw [List.nodup_cons] at h
    rw [List.map_cons, List.nodup_cons]
    refine ⟨fun hm => ?_, map_nodup h.2 (fun p hp q hq => hi p (by simp [hp]) q (by simp [hq]))⟩
    obtain ⟨q, hq, e⟩ := List.mem_map.1 hm
    exact h.1 ((hi q (by simp [hq]) a (by simp) e) ▸ hq)
section
variable {P : Program} {α : Type} (K : MK P α)
/-- The block r ranges over the map f of block c, which has N entries; D have come. -/
def MK.rg (w : World) (c r : Nat) (f : Int → Option α) (N : Nat) (D : List (Int × α)) : Prop :=
  ∃ (L : List (Nat × Int × α)) (clock since : Nat) (seen : Array Nat) (c0 : Nat), w.heap[c]? = some (.map (L.map K.ent).toArray clock) ∧ ME L clock f ∧ w.heap[r]? = some (.mapIter (some c) since seen c0) ∧
    (∀ p ∈ L, p.1 < since) ∧ since ≤ c0 ∧ since ≤ clock ∧ L.length = N ∧ ∃ S : List (Nat × Int × α), (∀ p ∈ S, p ∈ L) ∧ S.Nodup ∧ seen.toList = S.map (·.1) ∧ D = S.map (·.2)
variable {K}
theorem MK.rg_mp {w : World} {c r N : Nat} {f : Int → Option α} {D : List (Int × α)} (h : K.rg w c r f N D) : K.mp w c f := by
  obtain ⟨L, clock, since, seen, c0, h1, h2, _⟩ := h
  exact ⟨L, clock, h1, h2⟩
theorem MK.rg_lt {w : World} {c r N : Nat} {f : Int → Option α} {D : List (Int × α)} (h : K.rg w c r f N D) : r < w.heap.size ∧ r ≠ c := by
  obtain ⟨L, clock, since, seen, c0, h1, h2, h3, _⟩ := h
  refine ⟨obj_lt h3, fun e => ?_⟩
  subst e
  rw [h1] at h3
  cases h3
theorem MK.rg_fr {F : Nat → Prop} {w w' : World} {c r N : Nat} {f : Int → Option α} {D : List (Int × α)} (h : K.rg w c r f N D) (hf : Fr F w w') (hc : ¬ F c) (hr : ¬ F r) : K.rg w' c r f N D := by
  obtain ⟨L, clock, since, seen, c0, h1, h2, h3, h4⟩ := h
  exact ⟨L, clock, since, seen, c0, hf.obj h1 hc, h2, hf.obj h3 hr, h4⟩
theorem MK.rg_below {w w' : World} {c r N : Nat} {f : Int → Option α} {D : List (Int × α)} (h : K.rg w c r f N D) (hb : Below w.heap.size w w') : K.rg w' c r f N D := by
  obtain ⟨L, clock, since, seen, c0, h1, h2, h3, h4⟩ := h
  exact ⟨L, clock, since, seen, c0, obj_below h1 hb, h2, obj_below h3 hb, h4⟩
theorem MK.rg_nodup {w : World} {c r N : Nat} {f : Int → Option α} {D : List (Int × α)} (h : K.rg w c r f N D) : (D.map (·.1)).Nodup ∧ D.length ≤ N ∧ ∀ k x, (k, x) ∈ D → f k = some x := by
  obtain ⟨L, clock, since, seen, c0, h1, h2, h3, h4, h5, h6, h7, S, s1, s2, s3, rfl⟩ := h
  refine ⟨?_, ?_, fun k x hx => ?_⟩
  · rw [List.map_map]
    refine map_nodup s2 (fun p hp q hq e => nodup_map_inj h2.keys (s1 p hp) (s1 q hq) e)
  · rw [List.length_map, ← h7]
    exact nodup_sub_len s2 s1
  · obtain ⟨p, hp, e⟩ := List.mem_map.1 hx
    refine (h2.is k x).2 ⟨p.1, ?_⟩
    rw [← e]
    exact s1 p hp
/-- range m. -/
theorem MK.run_rng {w : World} {c : Nat} {f : Int → Option α} (h : K.mp w c f) :
    ∃ N w', (Instr.range K.m (.map (some c))).run P w = .ok (.pointer (some ⟨w.heap.size, 0, none⟩)) w' ∧ K.rg w' c w.heap.size f N [] ∧ Below w.heap.size w w' ∧ w'.heap.size = w.heap.size + 1 := by
  obtain ⟨L, clock, h1, h2⟩ := h
  refine ⟨L.length, _, run_range_map w K.m K.k K.e c _ clock K.und h1, ⟨L, clock, clock, #[], clock, ?_, h2, obj_new w _, h2.old, Nat.le_refl _, Nat.le_refl _, rfl, [], by simp, List.nodup_nil, rfl, rfl⟩, (Below.refl _ _).alloc (Nat.le_refl _) _, by simp⟩
  exact obj_below h1 ((Below.refl _ _).alloc (Nat.le_refl _) _)
/-- The next entry. -/
theorem MK.run_nxt {w : World} {c r N : Nat} {f : Int → Option α} {D : List (Int × α)} (h : K.rg w c r f N D) (ty : TypeId) :
    ((∀ k x, f k = some x ↔ (k, x) ∈ D) ∧ D.length = N ∧ (Instr.next (.pointer (some ⟨r, 0, none⟩)) false ty).run P w = .ok (.tuple #[.bool false]) w) ∨
    ∃ k x w', D.length < N ∧ f k = some x ∧ (Instr.next (.pointer (some ⟨r, 0, none⟩)) false ty).run P w = .ok (.tuple #[.bool true, .int .i64 k, K.val x]) w' ∧ K.rg w' c r f N (D ++ [(k, x)]) ∧
      Fr (fun j => j = r) w w' ∧ w'.heap.size = w.heap.size ∧ (Instr.entry (.pointer (some ⟨r, 0, none⟩))).run P w' = .ok (.tuple #[.int .i64 k, K.val x]) w' := by
  have hlen := (MK.rg_nodup h).2.1
  have hne := (MK.rg_lt h).2
  obtain ⟨L, clock, since, seen, c0, h1, h2, h3, h4, h5, h6, h7, S, s1, s2, s3, rfl⟩ := h
  have hold : ∀ x ∈ ((L.map K.ent).toArray).toList, x.born < since := fun x hx => by
    simp only [List.mem_map] at hx
    obtain ⟨p, hp, rfl⟩ := hx
    exact h4 p hp
  have hmem : ∀ n : Nat, seen.contains n = true ↔ ∃ p ∈ S, p.1 = n := fun n => by
    rw [Array.contains_iff_mem, ← Array.mem_toList_iff, s3, List.mem_map]
  rcases run_next_at (P := P) w ty r c since c0 seen _ clock h3 h1 hold h5 with ⟨h0, hrun⟩ | ⟨e, he, w1, hal, hrun⟩
  · refine .inl ⟨fun k x => ?_, ?_, hrun⟩
    all_goals
      have hall : ∀ p ∈ L, p ∈ S := fun p hp => by
        have hc : seen.contains p.1 = true := by
          rcases hcc : seen.contains p.1 with _ | _
          · have : K.ent p ∈ leftOf (L.map K.ent).toArray seen := by
              unfold leftOf
              rw [Array.mem_filter]
              refine ⟨by simp; exact ⟨p.1, p.2.1, p.2.2, hp, rfl⟩, by show (!seen.contains p.1) = true; rw [hcc]; rfl⟩
            rw [Array.eq_empty_of_size_eq_zero h0] at this
            simp at this
          · rfl
        obtain ⟨q, hq, e⟩ := (hmem p.1).1 hc
        rw [← nodup_map_inj h2.born (s1 q hq) hp e]
        exact hq
    · rw [h2.is k x]
      constructor
      · rintro ⟨b, hb⟩
        exact List.mem_map.2 ⟨_, hall _ hb, rfl⟩
      · intro hx
        obtain ⟨p, hp, e⟩ := List.mem_map.1 hx
        refine ⟨p.1, ?_⟩
        rw [← e]
        exact s1 p hp
    · have hLn : L.Nodup := by
        have := h2.born
        rw [List.nodup_iff_pairwise_ne, List.pairwise_map] at this
        exact this.imp (fun hne e => hne (by rw [e]))
      have := nodup_sub_len hLn hall
      rw [List.length_map] at hlen ⊢
      omega
  · have he2 : e ∈ (L.map K.ent).toArray ∧ (!seen.contains e.born) = true := by
      have : e ∈ leftOf (L.map K.ent).toArray seen := by simpa using he
      unfold leftOf at this
      rw [Array.mem_filter] at this
      exact this
    obtain ⟨hem, hes⟩ := he2
    have hem' : e ∈ L.map K.ent := by simpa using hem
    obtain ⟨p, hp, rfl⟩ := List.mem_map.1 hem'
    have hpS : p ∉ S := fun hin => by
      have := (hmem p.1).2 ⟨p, hin, rfl⟩
      rw [show (K.ent p).born = p.1 from rfl, this] at hes
      cases hes
    have hsz : w1.heap = w.heap ∧ w1.os = w.os ∧ w1.tape = w.tape ∧ w1.output = w.output := by rcases hal with rfl | rfl <;> exact ⟨rfl, rfl, rfl, rfl⟩
    have hset := MapKept.heap_set (o' := .mapIter (some c) since (seen.push p.1) clock) (show w1.heap[r]? = some (.mapIter (some c) since seen c0) by rw [hsz.1]; exact h3)
    have hfr : Fr (fun j => j = r) w (ChangeMaps.setBlock w1 r (.mapIter (some c) since (seen.push p.1) clock)) := by
      refine ⟨hsz.2.1, hsz.2.2.1, hsz.2.2.2, ?_, fun j _ hj => ?_⟩
      · simp [ChangeMaps.setBlock, hsz.1]
      · exact (hset.2 j hj).trans (by rw [hsz.1])
    have hS2 : (S ++ [p]).Nodup := by
      rw [List.nodup_append]
      refine ⟨s2, by simp, fun a ha b hb => ?_⟩
      simp at hb
      subst hb
      exact fun e => hpS (e ▸ ha)
    have hS1 : ∀ q ∈ S ++ [p], q ∈ L := fun q hq => by
      rcases List.mem_append.1 hq with hq | hq
      · exact s1 q hq
      · simp at hq
        rw [hq]
        exact hp
    have hc1 := hfr.obj h1 (fun e => hne e.symm)
    refine .inr ⟨p.2.1, p.2.2, _, ?_, (h2.is _ _).2 ⟨p.1, hp⟩, hrun, ⟨L, clock, since, seen.push p.1, clock, hc1, h2, hset.1, h4, h6, h6, h7, S ++ [p], hS1, hS2, by simp [s3], by simp⟩, hfr, ?_, ?_⟩
    · have := nodup_sub_len hS2 hS1
      rw [List.length_append, List.length_singleton] at this
      rw [List.length_map]
      omega
    · simp [ChangeMaps.setBlock, hsz.1]
    · exact run_entry_at _ r c since seen _ clock (K.ent p) hset.1 hc1 hem' (by
        rw [show ((L.map K.ent).toArray.toList.map (·.born)) = L.map (·.1) by simp [MK.ent, Function.comp_def]]
        exact h2.born)
end
/-- Two rising rows of the same numbers are one. -/
theorem rising_eq : ∀ {a b : List Int}, a.Pairwise (· < ·) → b.Pairwise (· < ·) → (∀ x, x ∈ a ↔ x ∈ b) → a = b
  | [], [], _, _, _ => rfl
  | [], y :: b, _, _, h => by have := (h y).2 (by simp); simp at this
  | x :: a, [], _, _, h => by have := (h x).1 (by simp); simp at this
  | x :: a, y :: b, ha, hb, h => by
    rw [List.pairwise_cons] at ha hb
    have hxy : x = y := by
      have h1 := (h x).1 (by simp)
      have h2 := (h y).2 (by simp)
      rcases List.mem_cons.1 h1 with e | h1
      · exact e
      · rcases List.mem_cons.1 h2 with e | h2
        · exact e.symm
        · have := hb.1 x h1
          have := ha.1 y h2
          omega
    subst hxy
    rw [rising_eq ha.2 hb.2 (fun z => ?_)]
    constructor
    · intro hz
      have := (h z).1 (by simp [hz])
      rcases List.mem_cons.1 this with e | h1
      · have := ha.1 z hz
        omega
      · exact h1
    · intro hz
      have := (h z).2 (by simp [hz])
      rcases List.mem_cons.1 this with e | h1
      · have := hb.1 z hz
        omega
      · exact h1
theorem sort_rising {l : List Int} (h : l.Nodup) : (l.mergeSort fun x y => decide (x ≤ y)).Pairwise (· < ·) := by
  have h1 := List.pairwise_mergeSort (le := fun x y : Int => decide (x ≤ y)) (fun a b c h1 h2 => by simp at *; omega) (fun a b => by simp; omega) l
  have h2 : (l.mergeSort fun x y => decide (x ≤ y)).Nodup := (List.mergeSort_perm l _).nodup_iff.2 h
  rw [List.nodup_iff_pairwise_ne] at h2
  refine (h1.and h2).imp (fun ⟨a, b⟩ => ?_)
  simp at a
  omega
/-- Rising numbers that are those of a row, sorted. -/
theorem sort_is {l r : List Int} (h : l.Nodup) (hr : r.Pairwise (· < ·)) (hm : ∀ x, x ∈ l ↔ x ∈ r) : (l.mergeSort fun x y => decide (x ≤ y)) = r :=
  rising_eq (sort_rising h) hr (fun x => by rw [List.mem_mergeSort]; exact hm x)
end Go.Proofs.Ythcnoamgkkbkcaa
