/- Chapter 14, calls: the reference's Due, plainly: who is first of those that are due. -/
import Derived.Test.YthcnoamgkkbkcaaCaD
namespace Go.Proofs.Ythcnoamgkkbkcaa

def dueO (now : Int) (k : Ck) : Bool := k.st == 1 && decide (k.due ≤ now)
/-- The first of those that are due, by place; -1: none. -/
def FirstIs (L : List Ck) (now r : Int) : Prop := (r = -1 ∧ ∀ k ∈ L, dueO now k = false) ∨
  ∃ (j : Nat) (h : j < L.length), r = (j : Int) ∧ dueO now L[j] = true ∧ ∀ (i : Nat) (hi : i < L.length), dueO now L[i] = true → L[j].due < L[i].due ∨ (L[j].due = L[i].due ∧ j ≤ i)
theorem first_is {S : CS} {x rest : List Tm} {now r : Int} (h : CD S x rest) (hx : ∀ t ∈ x, now < t.at_) (hr : ∀ t ∈ rest, t.at_ ≤ now) (hs : rest.Pairwise Tlt) (hf : FirstIs S.L now r) :
    (rest = [] ∧ r = -1) ∨ ∃ d t, rest = d :: t ∧ ∃ (j : Nat) (hj : j < S.L.length), r = (j : Int) ∧ S.L[j].id = d.id ∧ S.L[j].st = 1 := by
  have hmem : ∀ t ∈ rest, ∃ (i : Nat) (hi : i < S.L.length), S.L[i].tm = t ∧ S.L[i].st = 1 ∧ dueO now S.L[i] = true := fun t ht => by
    obtain ⟨k, hk, h1, h2⟩ := tms_mem.1 (h.per.mem_iff.1 (List.mem_append_right x ht))
    obtain ⟨i, hi, rfl⟩ := List.getElem_of_mem hk
    refine ⟨i, hi, h2, h1, ?_⟩
    have := hr t ht
    rw [← h2] at this
    unfold dueO
    simp only [Ck.tm] at this
    simp [h1, this]
  rcases hf with ⟨rfl, hn⟩ | ⟨j, hj, rfl, hd, hmin⟩
  · refine .inl ⟨?_, rfl⟩
    rcases rest with _ | ⟨d, t⟩
    · rfl
    · obtain ⟨i, hi, -, -, h3⟩ := hmem d (by simp)
      rw [hn _ (List.getElem_mem hi)] at h3
      cases h3
  · have hd2 : S.L[j].st = 1 ∧ S.L[j].due ≤ now := by
      unfold dueO at hd
      simpa using hd
    have hjm : S.L[j].tm ∈ rest := by
      have := h.per.mem_iff.2 (tms_mem.2 ⟨S.L[j], List.getElem_mem hj, hd2.1, rfl⟩)
      rcases List.mem_append.1 this with hm | hm
      · have := hx _ hm
        simp only [Ck.tm] at this
        omega
      · exact hm
    rcases rest with _ | ⟨d, t⟩
    · cases hjm
    · refine .inr ⟨d, t, rfl, j, hj, rfl, ?_, hd2.1⟩
      obtain ⟨i, hi, h1, h2, h3⟩ := hmem d (by simp)
      have hm := hmin i hi h3
      rcases List.mem_cons.1 hjm with e | e
      · rw [← e]
        rfl
      · have hlt := (List.pairwise_cons.1 hs).1 _ e
        rw [← h1] at hlt
        unfold Tlt at hlt
        simp only [Ck.tm] at hlt
        exfalso
        have hij : ∀ a b (ha : a < S.L.length) (hb : b < S.L.length), a < b → S.L[a].id < S.L[b].id := fun a b ha hb hab => List.pairwise_iff_getElem.1 h.ids a b ha hb hab
        rcases Nat.lt_trichotomy i j with h4 | h4 | h4
        · omega
        · subst h4
          omega
        · have := hij j i hj hi h4
          omega
theorem upd_set {L : List Ck} (hs : L.Pairwise fun a b => a.id < b.id) {j : Nat} (hj : j < L.length) (g : Ck → Ck) : upd L L[j].id g = L.set j (g L[j]) := by
  apply List.ext_getElem
  · rw [upd_len, List.length_set]
  · intro i h1 h2
    rw [List.length_set] at h2
    simp only [upd, List.getElem_map, List.getElem_set]
    by_cases hij : j = i
    · subst hij
      rw [if_pos rfl, if_pos rfl]
    · rw [if_neg hij, if_neg]
      intro e
      rcases Nat.lt_or_gt_of_ne hij with h | h
      · have := List.pairwise_iff_getElem.1 hs j i hj h2 h
        omega
      · have := List.pairwise_iff_getElem.1 hs i j h2 hj h
        omega
theorem fnd_at {L : List Ck} (hs : L.Pairwise fun a b => a.id < b.id) {j : Nat} (hj : j < L.length) : fnd L L[j].id = some L[j] := fnd_of hs (List.getElem_mem hj)
end Go.Proofs.Ythcnoamgkkbkcaa
