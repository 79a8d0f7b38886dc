/- Chapter 07, timers: heaps of timers, in plain lists. -/
import Derived.Test.YthcnoamgkkbkcaaBase
namespace Go.Proofs.Ythcnoamgkkbkcaa

structure Tm where
  id : Int
  at_ : Int
def noT : Tm := ⟨0, 0⟩
def tlt (a b : Tm) : Bool := decide (a.at_ < b.at_) || (a.at_ == b.at_ && decide (a.id < b.id))
def Tlt (a b : Tm) : Prop := a.at_ < b.at_ ∨ (a.at_ = b.at_ ∧ a.id < b.id)
theorem tlt_iff (a b : Tm) : tlt a b = true ↔ Tlt a b := by simp [tlt, Tlt]
theorem tlt_not (a b : Tm) : tlt a b = false ↔ ¬ Tlt a b := by rw [← tlt_iff]; simp
/-- b is not ahead of a. -/
def Tle (a b : Tm) : Prop := ¬ Tlt b a
theorem Tle.trans {a b c : Tm} (h1 : Tle a b) (h2 : Tle b c) : Tle a c := by unfold Tle Tlt at *; omega
theorem Tle.refl (a : Tm) : Tle a a := by unfold Tle Tlt; omega
theorem Tle.of_lt {a b : Tm} (h : Tlt a b) : Tle a b := by unfold Tle Tlt at *; omega
/-- The k-th one. -/
def tat (l : List Tm) (k : Nat) : Tm := l.getD k noT
theorem tat_eq {l : List Tm} {k : Nat} (h : k < l.length) : tat l k = l[k] := by simp [tat, h]
theorem tat_mem {l : List Tm} {k : Nat} (h : k < l.length) : tat l k ∈ l := by rw [tat_eq h]; exact List.getElem_mem h
def tset (l : List Tm) (i : Nat) (x : Tm) : List Tm := l.set i x
theorem tat_set {l : List Tm} {i : Nat} (h : i < l.length) (x : Tm) (k : Nat) : tat (l.set i x) k = if k = i then x else tat l k := by
  unfold tat
  by_cases hk : k = i
  · subst hk
    simp [h]
  · simp [Ne.symm hk, hk]
def swp (l : List Tm) (i j : Nat) : List Tm := (l.set i (tat l j)).set j (tat l i)
theorem swp_len (l : List Tm) (i j : Nat) : (swp l i j).length = l.length := by simp [swp]
theorem swp_at {l : List Tm} {i j : Nat} (hi : i < l.length) (hj : j < l.length) (k : Nat) : tat (swp l i j) k = if k = j then tat l i else if k = i then tat l j else tat l k := by
  unfold swp
  rw [tat_set (by simpa using hj), tat_set hi]
theorem swp_perm {l : List Tm} {i j : Nat} (hi : i < l.length) (hj : j < l.length) : (swp l i j).Perm l := by
  have e : swp l i j = (l.set i l[j]).set j l[i] := by
    unfold swp
    rw [tat_eq hi, tat_eq hj]
  rw [e]
  exact List.set_set_perm hi hj
/-- The first n are a heap. -/
def HpI (l : List Tm) (n : Nat) : Prop := ∀ k, 0 < k → k < n → Tle (tat l ((k - 1) / 2)) (tat l k)
/-- .., but for j against the one above it. -/
def UPre (l : List Tm) (n j : Nat) : Prop := (∀ k, 0 < k → k < n → k ≠ j → Tle (tat l ((k - 1) / 2)) (tat l k)) ∧ ∀ k, 0 < k → k < n → (k - 1) / 2 = j → 0 < j → Tle (tat l ((j - 1) / 2)) (tat l k)
/-- .., but for i against those below it (and i0 against the one above it, as long as nothing has moved). -/
def DPre (l : List Tm) (n i i0 : Nat) : Prop := (∀ k, 0 < k → k < n → (k - 1) / 2 ≠ i → (k = i0 → i ≠ i0) → Tle (tat l ((k - 1) / 2)) (tat l k)) ∧ ∀ k, 0 < k → k < n → (k - 1) / 2 = i → 0 < i → Tle (tat l ((i - 1) / 2)) (tat l k)
theorem UPre.done0 {l : List Tm} {n : Nat} (h : UPre l n 0) : HpI l n := fun k h1 h2 => h.1 k h1 h2 (by omega)
theorem UPre.done {l : List Tm} {n j : Nat} (h : UPre l n j) (hj : Tle (tat l ((j - 1) / 2)) (tat l j)) : HpI l n := fun k h1 h2 => by
  by_cases hk : k = j
  · rw [hk]
    exact hj
  · exact h.1 k h1 h2 hk
theorem UPre.step {l : List Tm} {n j : Nat} (h : UPre l n j) (hn : n ≤ l.length) (hj : j < n) (h0 : 0 < j) (hlt : Tlt (tat l j) (tat l ((j - 1) / 2))) : UPre (swp l ((j - 1) / 2) j) n ((j - 1) / 2) := by
  obtain ⟨i, hi⟩ : ∃ i, i = (j - 1) / 2 := ⟨_, rfl⟩
  rw [← hi] at hlt ⊢
  have hij : i < j := by omega
  have hil : i < l.length := by omega
  have hjl : j < l.length := by omega
  refine ⟨fun k h1 h2 h3 => ?_, fun k h1 h2 h3 h4 => ?_⟩
  · rw [swp_at hil hjl, swp_at hil hjl]
    by_cases hkj : k = j
    · subst hkj
      rw [if_pos rfl, if_neg (by omega), if_pos hi.symm]
      exact Tle.of_lt hlt
    · rw [if_neg hkj, if_neg h3]
      by_cases hp : (k - 1) / 2 = j
      · rw [if_pos hp]
        have := h.2 k h1 h2 hp h0
        rw [← hi] at this
        exact this
      · rw [if_neg hp]
        by_cases hp2 : (k - 1) / 2 = i
        · rw [if_pos hp2]
          have := h.1 k h1 h2 hkj
          rw [hp2] at this
          exact (Tle.of_lt hlt).trans this
        · rw [if_neg hp2]
          exact h.1 k h1 h2 hkj
  · rw [swp_at hil hjl, swp_at hil hjl, if_neg (by omega), if_neg (by omega)]
    have hi0 := h.1 i h4 (by omega) (by omega)
    by_cases hkj : k = j
    · rw [if_pos hkj]
      exact hi0
    · rw [if_neg hkj, if_neg (by omega)]
      have := h.1 k h1 h2 hkj
      rw [h3] at this
      exact hi0.trans this
/-- Down's step: to the lesser one below. -/
theorem DPre.step {l : List Tm} {n i i0 c : Nat} (h : DPre l n i i0) (hn : n ≤ l.length) (hc : c < n) (hp : (c - 1) / 2 = i) (hc0 : 0 < c) (hlt : Tlt (tat l c) (tat l i)) (hmin : ∀ k, 0 < k → k < n → (k - 1) / 2 = i → Tle (tat l c) (tat l k)) (hi0 : i0 ≤ i) : DPre (swp l i c) n c i0 := by
  have hic : i < c := by omega
  have hil : i < l.length := by omega
  have hcl : c < l.length := by omega
  refine ⟨fun k h1 h2 h3 h4 => ?_, fun k h1 h2 h3 _ => ?_⟩
  · rw [swp_at hil hcl, swp_at hil hcl]
    by_cases hkc : k = c
    · subst hkc
      rw [if_pos rfl, if_neg (by omega), if_pos hp]
      exact Tle.of_lt hlt
    · rw [if_neg h3, if_neg hkc]
      by_cases hki : k = i
      · subst hki
        rw [if_neg (by omega), if_pos rfl]
        exact h.2 c hc0 hc hp h1
      · rw [if_neg hki]
        by_cases hp2 : (k - 1) / 2 = i
        · rw [if_pos hp2]
          exact hmin k h1 h2 hp2
        · rw [if_neg hp2]
          exact h.1 k h1 h2 hp2 (fun e => by omega)
  · rw [swp_at hil hcl, swp_at hil hcl, if_neg (by omega), if_pos hp, if_neg (by omega), if_neg (by omega)]
    have := h.1 k h1 h2 (by omega) (fun e => by omega)
    rw [h3] at this
    exact this
theorem DPre.done {l : List Tm} {n i i0 : Nat} (h : DPre l n i i0) (hmin : ∀ k, 0 < k → k < n → (k - 1) / 2 = i → Tle (tat l i) (tat l k)) (hm : i ≠ i0) : HpI l n := fun k h1 h2 => by
  by_cases hp : (k - 1) / 2 = i
  · rw [hp]
    exact hmin k h1 h2 hp
  · exact h.1 k h1 h2 hp (fun _ => hm)
theorem DPre.done0 {l : List Tm} {n i : Nat} (h : DPre l n i i) (hmin : ∀ k, 0 < k → k < n → (k - 1) / 2 = i → Tle (tat l i) (tat l k)) : UPre l n i :=
  ⟨fun k h1 h2 h3 => by
    by_cases hp : (k - 1) / 2 = i
    · rw [hp]
      exact hmin k h1 h2 hp
    · exact h.1 k h1 h2 hp (fun e => absurd e h3), h.2⟩
/-- One has another moment. -/
theorem HpI.fix {l : List Tm} {n i : Nat} (h : HpI l n) (hi : i < n) (hn : n ≤ l.length) (x : Tm) : DPre (l.set i x) n i i := by
  have hil : i < l.length := by omega
  refine ⟨fun k h1 h2 h3 h4 => ?_, fun k h1 h2 h3 h4 => ?_⟩
  · have hki : k ≠ i := fun e => h4 e rfl
    rw [tat_set hil, tat_set hil, if_neg h3, if_neg hki]
    exact h k h1 h2
  · rw [tat_set hil, tat_set hil, if_neg (by omega), if_neg (by omega)]
    have a := h i h4 hi
    have b := h k h1 h2
    rw [h3] at b
    exact a.trans b
theorem HpI.push {l : List Tm} (h : HpI l l.length) (x : Tm) : UPre (l ++ [x]) (l.length + 1) l.length := by
  have e : ∀ k, k < l.length → tat (l ++ [x]) k = tat l k := fun k hk => by
    unfold tat
    rw [List.getD_eq_getElem?_getD, List.getElem?_append_left hk, List.getD_eq_getElem?_getD]
  refine ⟨fun k h1 h2 h3 => ?_, fun k h1 h2 h3 h4 => by omega⟩
  rw [e _ (by omega), e _ (by omega)]
  exact h k h1 (by omega)
/-- The last one is put at i's place. -/
theorem HpI.take {l : List Tm} {m i : Nat} (h : HpI l (m + 1)) (hl : m < l.length) (hi : i < m) : DPre (swp l i m) m i i := by
  have hil : i < l.length := by omega
  refine ⟨fun k h1 h2 h3 h4 => ?_, fun k h1 h2 h3 h4 => ?_⟩
  · have hki : k ≠ i := fun e => h4 e rfl
    rw [swp_at hil hl, swp_at hil hl, if_neg (by omega), if_neg h3, if_neg (by omega), if_neg hki]
    exact h k h1 (by omega)
  · rw [swp_at hil hl, swp_at hil hl, if_neg (by omega), if_neg (by omega), if_neg (by omega), if_neg (by omega)]
    have a := h i h4 (by omega)
    have b := h k h1 (by omega)
    rw [h3] at b
    exact a.trans b
theorem HpI.least {l : List Tm} {n : Nat} (h : HpI l n) : ∀ k, k < n → Tle (tat l 0) (tat l k) := by
  intro k
  induction k using Nat.strongRecOn with
  | _ k ih =>
    intro hk
    by_cases h0 : k = 0
    · subst h0
      exact Tle.refl _
    · exact (ih ((k - 1) / 2) (by omega) (by omega)).trans (h k (by omega) hk)
theorem HpI.congr {l l' : List Tm} {n : Nat} (h : HpI l n) (e : ∀ k, k < n → tat l' k = tat l k) : HpI l' n := fun k h1 h2 => by
  rw [e _ h2, e _ (by omega)]
  exact h k h1 h2
theorem HpI.less {l : List Tm} {n m : Nat} (h : HpI l n) (hm : m ≤ n) : HpI l m := fun k h1 h2 => h k h1 (by omega)
end Go.Proofs.Ythcnoamgkkbkcaa
