/- Chapter 10, super: what a place tells; the better one of two. -/
import Derived.Test.YtljmaicobafgkaaSp5
namespace Go.Proofs.Ytljmaicobafgkaa
open Go.RowKit

theorem openL_sealed (l : List UInt8) : openL (l ++ le4 (crc l)) = some l := by
  have e : (l ++ le4 (crc l)).length - 4 = l.length := by rw [List.length_append]; show l.length + 4 - 4 = _; omega
  unfold openL
  rw [e, List.take_left, List.drop_left, if_pos rfl]
theorem openL_is {l t : List UInt8} (h : openL l = some t) : t = l.take (l.length - 4) := by
  unfold openL at h
  split at h
  · cases h
    rfl
  · cases h
/-- What a place tells: the generation and the body. -/
def opn (s : ByteArray) (at_ : Int) : Option (Nat × ByteArray) :=
  match openL s.data.toList with
  | none => none
  | some t => if num4 ⟨(t.drop 4).toArray⟩ ≤ 244 ∧ plc (num4 ⟨t.toArray⟩) = at_ ∧ 1 ≤ num4 ⟨t.toArray⟩ ∧ num4 ⟨t.toArray⟩ < 2147483648 ∧ packS ⟨((t.drop 8).take (num4 ⟨(t.drop 4).toArray⟩)).toArray⟩ (num4 ⟨t.toArray⟩ : Int) = s
    then some (num4 ⟨t.toArray⟩, ⟨((t.drop 8).take (num4 ⟨(t.drop 4).toArray⟩)).toArray⟩) else none
theorem opn_good {s : ByteArray} {at_ : Int} {g : Nat} {b : ByteArray} (h : Good s at_ g b) : opn s at_ = some (g, b) := by
  obtain ⟨e1, e2, e3⟩ := good_inj h
  obtain ⟨h1, h2, h3, h4, rfl⟩ := h
  have ho : openL (packS b g).data.toList = some (headL g b) := by
    unfold packS sealS
    rw [app_list, str_list, pad_list b g h3]
    exact openL_sealed _
  unfold opn
  rw [ho]
  dsimp only
  rw [e1, e2, e3, str_eta, if_pos ⟨h3, h4, h1, h2, rfl⟩]
theorem opn_some {s : ByteArray} {at_ : Int} {g : Nat} {b : ByteArray} (h : opn s at_ = some (g, b)) : 1 ≤ g ∧ g < 2147483648 ∧ plc g = at_ := by
  unfold opn at h
  split at h
  · cases h
  · split at h
    · rename_i hc
      simp only [Option.some.injEq, Prod.mk.injEq] at h
      obtain ⟨e1, e2⟩ := h
      rw [e1] at hc
      exact ⟨hc.2.2.1, hc.2.2.2.1, hc.2.1⟩
    · cases h
theorem pack_len (b : ByteArray) (g : Int) (h : b.size ≤ 244) : (packS b g).size = 256 := by
  unfold packS sealS
  rw [size_app, pad_size _ _ (by rw [head_size]; omega)]
  rfl
/-- The newer one. -/
def best (x y : Option (Nat × ByteArray)) : Option (Nat × ByteArray) := match x, y with
  | none, y => y
  | some p, none => some p
  | some p, some q => if p.1 < q.1 then some q else some p
def genO (x : Option (Nat × ByteArray)) : Nat := match x with
  | some p => p.1
  | none => 0
def bodyO (x : Option (Nat × ByteArray)) : ByteArray := match x with
  | some p => p.2
  | none => ⟨#[]⟩
theorem gen_best (x y : Option (Nat × ByteArray)) : genO x ≤ genO (best x y) ∧ genO y ≤ genO (best x y) := by
  rcases x with _ | p <;> rcases y with _ | q
  · simp only [best, genO]; omega
  · simp only [best, genO]; omega
  · simp only [best, genO]; omega
  · by_cases h : p.1 < q.1
    · simp only [best, genO, if_pos h]; omega
    · simp only [best, genO, if_neg h]; omega
theorem best_left {p : Nat × ByteArray} {y : Option (Nat × ByteArray)} (h : genO y < p.1) : best (some p) y = some p := by
  rcases y with _ | q
  · rfl
  · simp only [best, genO] at h ⊢
    rw [if_neg (by omega)]
theorem best_right {q : Nat × ByteArray} {x : Option (Nat × ByteArray)} (h : genO x < q.1) : best x (some q) = some q := by
  rcases x with _ | p
  · rfl
  · simp only [best, genO] at h ⊢
    rw [if_pos h]
end Go.Proofs.Ytljmaicobafgkaa
